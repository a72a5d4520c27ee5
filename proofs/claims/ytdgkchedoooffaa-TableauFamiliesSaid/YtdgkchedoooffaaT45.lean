/- A part of the proof: TN5 T24 T43 T44 T45. -/
import Derived.Test.YtdgkchedoooffaaT12
import Derived.Test.YtdgkchedoooffaaT41
import Derived.Test.YtdgkchedoooffaaT9
import Derived.Test.YtdgkchedoooffaaM3
set_option linter.unusedVariables false
set_option linter.unusedSimpArgs false
set_option linter.unusedSectionVars false
namespace Go.AM.Tb
def isLv (gn : List Int) (i : Nat) : Bool := decide (getI gn ((2 + 2 * i : Nat) : Int) < getI gn ((3 + 2 * i : Nat) : Int))
def lvn (gn : List Int) (n : Nat) (h : Int) : List Int := ((List.range n).filter fun i => isLv gn i && decide (getI gn ((2 + 2 * i : Nat) : Int) = h)).map fun (i : Nat) => (i : Int)
def lvs (gn : List Int) (n H : Nat) : List (List Int) := (List.range H).map fun (h : Nat) => lvn gn n (h : Int)
theorem lvn_succ (gn n h) : lvn gn (n + 1) h = if isLv gn n = true ∧ getI gn ((2 + 2 * n : Nat) : Int) = h then lvn gn n h ++ [(n : Int)] else lvn gn n h := by
  unfold lvn
  rw [List.range_succ, List.filter_append, List.map_append]
  by_cases h1 : isLv gn n = true ∧ getI gn ((2 + 2 * n : Nat) : Int) = h
  · rw [if_pos h1, List.filter_cons_of_pos (by rw [h1.1, h1.2]; simp)]; rfl
  · rw [if_neg h1, List.filter_cons_of_neg (by intro h; simp at h; exact h1 ⟨h.1, h.2⟩)]; simp
theorem mem_lvn {gn n h x} : x ∈ lvn gn n h ↔ ∃ i : Nat, i < n ∧ isLv gn i = true ∧ getI gn ((2 + 2 * i : Nat) : Int) = h ∧ x = (i : Int) := by
  unfold lvn
  rw [List.mem_map]
  constructor
  · rintro ⟨i, hi, rfl⟩
    simp at hi
    exact ⟨i, hi.1, hi.2.1, hi.2.2, rfl⟩
  · rintro ⟨i, h1, h2, h3, rfl⟩
    exact ⟨i, by simp [h1, h2]; exact h3, rfl⟩
theorem lvn_len (gn h) : ∀ n, (lvn gn n h).length = sN n fun i => if isLv gn i = true ∧ getI gn ((2 + 2 * i : Nat) : Int) = h then 1 else 0
  | 0 => rfl
  | n + 1 => by
    rw [lvn_succ, sN]
    split
    · rw [List.length_append, lvn_len gn h n]; rfl
    · rw [lvn_len gn h n]; rfl
theorem lvn_lt (gn h) : ∀ n, (lvn gn n h).Pairwise (· < ·)
  | 0 => .nil
  | n + 1 => by
    rw [lvn_succ]
    split
    · rw [List.pairwise_append]
      refine ⟨lvn_lt gn h n, by simp, fun a ha b hb => ?_⟩
      obtain ⟨i, hi, _, _, rfl⟩ := mem_lvn.1 ha
      simp at hb
      omega
    · exact lvn_lt gn h n
theorem lvs_succ (gn n H) : lvs gn n (H + 1) = lvs gn n H ++ [lvn gn n (H : Int)] := by simp [lvs, List.range_succ]
theorem sN_add2 {f g : Nat → Nat} : ∀ n, sN n (fun i => f i + g i) = sN n f + sN n g
  | 0 => rfl
  | n + 1 => by simp only [sN]; rw [sN_add2 n]; omega
theorem sN_congr2 {f g : Nat → Nat} : ∀ n, (∀ i, i < n → f i = g i) → sN n f = sN n g
  | 0, _ => rfl
  | n + 1, h => by rw [sN, sN, sN_congr2 n fun i hi => h i (by omega), h n (by omega)]
theorem lvs_len (gn n) : ∀ H, (lvs gn n H).flatten.length = sN n fun i => if isLv gn i = true ∧ 0 ≤ getI gn ((2 + 2 * i : Nat) : Int) ∧ getI gn ((2 + 2 * i : Nat) : Int) < (H : Int) then 1 else 0
  | 0 => by
    have : ∀ n, sN n (fun i => if isLv gn i = true ∧ 0 ≤ getI gn ((2 + 2 * i : Nat) : Int) ∧ getI gn ((2 + 2 * i : Nat) : Int) < ((0 : Nat) : Int) then 1 else 0) = 0 := by
      intro n
      induction n with
      | zero => rfl
      | succ n ih => rw [sN, ih, if_neg (by omega)]
    rw [this]; rfl
  | H + 1 => by
    rw [lvs_succ, List.flatten_append, List.length_append, lvs_len gn n H]
    rw [show ([lvn gn n (H : Int)] : List (List Int)).flatten.length = (lvn gn n (H : Int)).length by simp, lvn_len, ← sN_add2]
    refine sN_congr2 n fun i hi => ?_
    by_cases h1 : isLv gn i = true
    · by_cases h2 : 0 ≤ getI gn ((2 + 2 * i : Nat) : Int) ∧ getI gn ((2 + 2 * i : Nat) : Int) < (H : Int)
      · rw [if_pos ⟨h1, h2⟩, if_neg (by omega), if_pos (by refine ⟨h1, ?_, ?_⟩ <;> omega)]
      · rw [if_neg (fun h => h2 h.2)]
        by_cases h3 : getI gn ((2 + 2 * i : Nat) : Int) = H
        · rw [if_pos ⟨h1, h3⟩, if_pos (by refine ⟨h1, ?_, ?_⟩ <;> omega)]
        · rw [if_neg (fun h => h3 h.2), if_neg (by omega)]
    · rw [if_neg (fun h => h1 h.1), if_neg (fun h => h1 h.1), if_neg (fun h => h1 h.1)]
theorem isCh_of {w : List Int} {up : Bool} {c : List Int} (h0 : c ≠ []) (h1 : ∀ x ∈ c, 0 ≤ x ∧ x < w.length) (h2 : c.Pairwise fun a b => a < b ∧ nxt up (getI w a) (getI w b) = true) : IsCh w up c := by
  have hm : ∀ i : Nat, (hi : i < c.length) → getI c (i : Int) = c[i] := fun i hi => by rw [getI_nat]; simp [List.getD, hi]
  refine ⟨fun h => h0 (List.length_eq_zero_iff.1 h), fun i hi => ?_⟩
  have h3 := h1 c[i] (List.getElem_mem hi)
  rw [hm i hi]
  refine ⟨h3.1, h3.2, fun hp => ?_⟩
  rw [show ((i : Int) - 1) = ((i - 1 : Nat) : Int) by omega, hm (i - 1) (by omega)]
  exact (List.pairwise_iff_getElem.1 h2) (i - 1) i (by omega) hi (by omega)
theorem big_ok {w E R s gn by_ T} (h : NI w E R s) (hg : GD E R E.length (2 + 2 * w.length) gn by_ T) (hre : ∀ v, v < 2 + 2 * w.length → 0 ≤ getI gn (v : Int)) (hs : s ≤ 60) {e} (he : e < E.length) (hc : (eg E e).c = big) (hg0 : (eg E e).g = 0) : getI gn ((eg E e).u : Int) ≤ getI gn ((eg E e).v : Int) := by
  have hr : 0 < R (2 * e) := by
    have := h.rm e he
    have := h.cap e he
    rw [hc] at *
    unfold big at *
    omega
  have hu := (h.net.ends (k := 2 * e) (by omega)).1
  have := hg.ok (2 * e) (by omega) hr (by have := hre _ hu; unfold far; omega)
  unfold aS aD aG at this
  rw [if_pos (by omega), if_pos (by omega), if_pos (by omega), show 2 * e / 2 = e by omega, hg0] at this
  omega
section
variable {w : List Int} {E : List Ed} {R : Nat → Int} {s : Nat} {gn by_ : List Int} {T : Nat → Nat}
theorem heights (h : NI w E R s) (hg : GD E R E.length (2 + 2 * w.length) gn by_ T) (hre : ∀ v, v < 2 + 2 * w.length → 0 ≤ getI gn (v : Int)) (hs : s ≤ 60) {i} (hi : i < w.length) : 0 ≤ getI gn ((2 + 2 * i : Nat) : Int) ∧ getI gn ((2 + 2 * i : Nat) : Int) ≤ getI gn ((3 + 2 * i : Nat) : Int) ∧ getI gn ((3 + 2 * i : Nat) : Int) ≤ getI gn ((1 : Nat) : Int) := by
  refine ⟨hre _ (by omega), ?_, ?_⟩
  · obtain ⟨e, he, e1⟩ := h.net.hasV i hi
    have := big_ok h hg hre hs he (by rw [e1]; rfl) (by rw [e1]; rfl)
    rw [e1] at this
    exact this
  · obtain ⟨e, he, e1⟩ := h.net.hasL i hi
    have := big_ok h hg hre hs he (by rw [e1]; rfl) (by rw [e1]; rfl)
    rw [e1] at this
    exact this
theorem lv_desc (h : NI w E R s) (hg : GD E R E.length (2 + 2 * w.length) gn by_ T) (hre : ∀ v, v < 2 + 2 * w.length → 0 ≤ getI gn (v : Int)) (hs : s ≤ 60) (q : Int) : ∀ n, n ≤ w.length → (lvn gn n q).Pairwise fun a b => a < b ∧ nxt false (getI w a) (getI w b) = true
  | 0, _ => .nil
  | n + 1, hn => by
    rw [lvn_succ]
    split
    · rename_i hq
      rw [List.pairwise_append]
      refine ⟨lv_desc h hg hre hs q n (by omega), by simp, fun a ha b hb => ?_⟩
      obtain ⟨i, hi, h1, h2, rfl⟩ := mem_lvn.1 ha
      simp at hb
      subst hb
      refine ⟨by omega, ?_⟩
      simp only [nxt, Bool.false_eq_true, if_false, decide_eq_true_eq]
      refine Int.not_le.1 fun hle => ?_
      obtain ⟨e, he, e1⟩ := h.net.hasX i n hi (by omega) hle
      have := big_ok h hg hre hs he (by rw [e1]; rfl) (by rw [e1]; rfl)
      rw [e1] at this
      have h3 : getI gn ((3 + 2 * i : Nat) : Int) ≤ getI gn ((2 + 2 * n : Nat) : Int) := this
      have h4 : getI gn ((2 + 2 * i : Nat) : Int) < getI gn ((3 + 2 * i : Nat) : Int) := of_decide_eq_true h1
      omega
    · exact lv_desc h hg hre hs q n (by omega)
theorem down_eq (h : NI w E R s) (hg : GD E R E.length (2 + 2 * w.length) gn by_ T) (hre : ∀ v, v < 2 + 2 * w.length → 0 ≤ getI gn (v : Int)) (hs : s ≤ 60) {H : Nat} (hH : getI gn ((1 : Nat) : Int) = (H : Int)) :
    ((lvs gn w.length (H + 1)).filter fun l => decide (l.length ≠ 0)) = lvs gn w.length H ∧ ∀ l ∈ lvs gn w.length H, l ≠ [] := by
  have h1 : ∀ l ∈ lvs gn w.length H, l ≠ [] := fun l hl => by
    obtain ⟨q, hq, rfl⟩ := List.mem_map.1 hl
    have hq : q < H := by simpa using hq
    obtain ⟨i, hi, a, b⟩ := level_some h hg hre (q := (q : Int)) (by omega) (T 1) 1 (Nat.le_refl _) (by omega) (by omega)
    intro e
    have : (i : Int) ∈ lvn gn w.length (q : Int) := mem_lvn.2 ⟨i, hi, decide_eq_true (by omega), a, rfl⟩
    rw [e] at this
    simp at this
  have h2 : lvn gn w.length (H : Int) = [] := by
    refine List.eq_nil_iff_forall_not_mem.2 fun x hx => ?_
    obtain ⟨i, hi, a, b, rfl⟩ := mem_lvn.1 hx
    have := heights h hg hre hs hi
    have : getI gn ((2 + 2 * i : Nat) : Int) < getI gn ((3 + 2 * i : Nat) : Int) := of_decide_eq_true a
    omega
  refine ⟨?_, h1⟩
  rw [lvs_succ, List.filter_append, h2, List.filter_eq_self.2 fun l hl => by simpa using h1 l hl]
  simp
theorem down_chs (h : NI w E R s) (hg : GD E R E.length (2 + 2 * w.length) gn by_ T) (hre : ∀ v, v < 2 + 2 * w.length → 0 ≤ getI gn (v : Int)) (hs : s ≤ 60) {H : Nat} (hne : ∀ l ∈ lvs gn w.length H, l ≠ []) : Chs w false (lvs gn w.length H) := by
  refine ⟨fun c hc => ?_, ?_⟩
  · refine isCh_of (hne c hc) ?_ ?_
    · obtain ⟨q, hq, rfl⟩ := List.mem_map.1 hc
      intro x hx
      obtain ⟨i, hi, _, _, rfl⟩ := mem_lvn.1 hx
      omega
    · obtain ⟨q, hq, rfl⟩ := List.mem_map.1 hc
      exact lv_desc h hg hre hs _ _ (Nat.le_refl _)
  · unfold List.Nodup
    rw [List.pairwise_flatten]
    refine ⟨fun l hl => ?_, ?_⟩
    · obtain ⟨q, hq, rfl⟩ := List.mem_map.1 hl
      exact (lvn_lt gn _ _).imp fun h => by omega
    · unfold lvs
      rw [List.pairwise_map]
      refine List.nodup_range.imp fun {a b} hab x hx y hy e => ?_
      obtain ⟨i, _, _, h1, rfl⟩ := mem_lvn.1 hx
      obtain ⟨j, _, _, h2, h3⟩ := mem_lvn.1 hy
      have : i = j := by omega
      subst this
      omega
theorem right_full {U : List (List Int)} (h : NI w E R s) (hg : GD E R E.length (2 + 2 * w.length) gn by_ T) (hw : 0 < w.length) (hs : s ≤ 60) {H : Nat} (hH : getI gn ((1 : Nat) : Int) = (H : Int)) {R' : Nat → Int} (hu : FA w E R s s U R') : RightF w s U ((lvs gn w.length (H + 1)).filter fun l => decide (l.length ≠ 0)) := by
  have hre := reach_all h.net hw h.rm (fun e he => by have := h.cap e he; omega) hg
  obtain ⟨d1, d2⟩ := down_eq h hg hre hs hH
  rw [d1]
  refine ⟨hu.ln, hu.chk, down_chs h hg hre hs d2, ?_⟩
  rw [hu.all h.net, gain_eq h hg hre hs, hH, show (lvs gn w.length H).length = H by simp [lvs], lvs_len]
  have : ∀ n, n ≤ w.length → ((sN n fun i => if isLv gn i = true ∧ 0 ≤ getI gn ((2 + 2 * i : Nat) : Int) ∧ getI gn ((2 + 2 * i : Nat) : Int) < (H : Int) then 1 else 0) + sN n fun i => if getI gn ((2 + 2 * i : Nat) : Int) < getI gn ((3 + 2 * i : Nat) : Int) then 0 else 1) = n := by
    intro n
    induction n with
    | zero => intro _; rfl
    | succ n ih =>
      intro hn
      have := ih (by omega)
      have hh := heights h hg hre hs (i := n) (by omega)
      simp only [sN]
      by_cases h1 : getI gn ((2 + 2 * n : Nat) : Int) < getI gn ((3 + 2 * n : Nat) : Int)
      · rw [if_pos h1, if_pos ⟨decide_eq_true h1, by omega, by omega⟩]; omega
      · rw [if_neg h1, if_neg (fun h => h1 (of_decide_eq_true h.1))]; omega
  have := this w.length (Nat.le_refl _)
  unfold flat0
  omega
theorem right_few {U : List (List Int)} {k : Nat} (h : NI w E R s) (hg : GD E R E.length (2 + 2 * w.length) gn by_ T) (hw : 0 < w.length) (hs : s ≤ 60) (hsk : s ≤ k) (hH : getI gn ((1 : Nat) : Int) ≤ 0) {R' : Nat → Int} (hu : FA w E R s s U R') : RightF w k U [] := by
  have hre := reach_all h.net hw h.rm (fun e he => by have := h.cap e he; omega) hg
  have h1 := hre 1 (by omega)
  refine ⟨Nat.le_trans hu.ln hsk, hu.chk, ⟨by simp, by simp⟩, ?_⟩
  rw [hu.all h.net, gain_eq h hg hre hs]
  have : ∀ n, n ≤ w.length → (sN n fun i => if getI gn ((2 + 2 * i : Nat) : Int) < getI gn ((3 + 2 * i : Nat) : Int) then 0 else 1) = n := by
    intro n
    induction n with
    | zero => intro _; rfl
    | succ n ih =>
      intro hn
      have := ih (by omega)
      have hh := heights h hg hre hs (i := n) (by omega)
      simp only [sN]
      rw [if_neg (by omega)]; omega
  have := this w.length (Nat.le_refl _)
  unfold flat0
  rw [show getI gn ((1 : Nat) : Int) = 0 by omega, show (([] : List (List Int)).length : Int) = 0 from rfl, show (([] : List (List Int)).flatten.length : Int) = 0 from rfl, Int.mul_zero, Int.mul_zero]
  omega
end
set_option maxHeartbeats 4000000
theorem gcD {pre gs : List AV} {H : Heap} {b n : Nat} {c : List AV} (h : H[b]? = some (some (.data c))) (hp : idFreeL pre = true) (hpl : pre.length ≤ 20) (hg : idFreeL gs = true) : gc 0 (pre ++ .sl b 1 0 n :: gs) H = some (pre ++ .sl 0 1 0 n :: gs, [some (.data c)]) := by
  have hb : boxCells H b = [] := by simp [boxCells, h]
  have hφ : nodupB [b] = true := rfl
  refine gc_of (φ := [b]) ?_ hφ ?_ (Hp := [some (.data c)]) (by simp [pickO, h]) rfl
  · have e : reach H 400 (rangeL 0 []) (roots H (rangeL 0 []) ++ (pre ++ .sl b 1 0 n :: gs)) = reach H ((399 - pre.length) + 1) [] (.sl b 1 0 n :: gs) := by
      rw [show reach H 400 (rangeL 0 []) (roots H (rangeL 0 []) ++ (pre ++ .sl b 1 0 n :: gs)) = reach H 400 [] (pre ++ .sl b 1 0 n :: gs) from rfl, show (400 : Nat) = (399 - pre.length) + 1 + pre.length by omega, reach_pre pre hp]
    rw [e, reach_new]
    simp only [List.contains_nil, Bool.false_eq_true, if_false, hb, List.nil_append]
    rw [reach_free _ _ _ _ hg]
  · rw [renL_append, renL_free _ hp]
    simp [renL, AV.ren, posOf, renL_free _ hg]
set_option maxHeartbeats 4000000
def NH (j n : Nat) (cs : List AV) : Heap := some (.box [.sl (j + 1) 4 0 n]) :: (List.replicate j none ++ [some (.data cs)])
theorem nh_len (j n cs) : (NH j n cs).length = j + 2 := by simp [NH]
theorem nh_box (j n cs) : (NH j n cs)[0]? = some (some (.box [.sl (j + 1) 4 0 n])) := rfl
theorem nh_dat (j n cs) : (NH j n cs)[j + 1]? = some (some (.data cs)) := by
  unfold NH
  rw [List.getElem?_cons_succ, List.getElem?_append_right (by simp)]
  simp
theorem gc_nw {pre gs : List AV} {j n : Nat} {cs : List AV} (hp : idFreeL pre = true) (hpl : pre.length ≤ 20) (hg : idFreeL gs = true) : gc 0 (pre ++ .ptr 0 0 :: gs) (NH j n cs) = some (pre ++ .ptr 0 0 :: gs, NH 0 n cs) := by
  have hb : boxCells (NH j n cs) 0 = [.sl (j + 1) 4 0 n] := rfl
  have hd : boxCells (NH j n cs) (j + 1) = [] := by simp [boxCells, nh_dat]
  have hφ : nodupB [0, j + 1] = true := by simp [nodupB]
  refine gc_of (φ := [0, j + 1]) ?_ hφ ?_ (Hp := [some (.box [.sl (j + 1) 4 0 n]), some (.data cs)]) (by simp [pickO, nh_box, nh_dat]) ?_
  · have e : reach (NH j n cs) 400 (rangeL 0 []) (roots (NH j n cs) (rangeL 0 []) ++ (pre ++ .ptr 0 0 :: gs)) = reach (NH j n cs) ((398 - pre.length) + 1 + 1) [] (.ptr 0 0 :: gs) := by
      rw [show reach (NH j n cs) 400 (rangeL 0 []) (roots (NH j n cs) (rangeL 0 []) ++ (pre ++ .ptr 0 0 :: gs)) = reach (NH j n cs) 400 [] (pre ++ .ptr 0 0 :: gs) from rfl, show (400 : Nat) = (398 - pre.length) + 1 + 1 + pre.length by omega, reach_pre pre hp]
    rw [e, reach_newp]
    simp only [List.contains_nil, Bool.false_eq_true, if_false, hb, List.nil_append, List.cons_append]
    rw [reach_new, if_neg (by simp), hd]
    simp only [List.nil_append, List.cons_append]
    rw [reach_free _ _ _ _ hg]
  · rw [renL_append, renL_free _ hp]
    simp [renL, AV.ren, posOf, renL_free _ hg]
  · simp [renH, renO, renL, AV.ren, posOf, NH]
theorem e_app4 {call : CallF} {q id : Nat} {H : Heap} {cs bs : List AV} {n k : Nat} (h : H.data? id = some cs) (hl : cs.length = 4 * k) (hn : n ≠ 0) (hm : k + n ≤ most) : evE call H (.app false 4 q) [.sl id 4 0 k, .rd 4 n bs] = some (.sl H.length 4 0 (k + n), H.set id none ++ [some (.data (cs ++ bs))]) := by
  have : (cs.drop 0).take (k * 4) = cs := by rw [List.drop_zero, List.take_of_length_le (by omega)]
  have h2 : 0 + k * 4 ≤ cs.length := by omega
  simp [evE, appOf, szOk, lenOf, rowOf, hn, hm, killRow, newRow, h, h2]
  rw [if_pos (by omega)]
  simp
  rw [List.take_of_length_le (by omega)]
def cells8 (u v c g : Int) : List Int := [u, v, c, g, v, u, 0, -g]
theorem e_bld8 {call : CallF} {H : Heap} {a b c d e f g h : Int} : evE call H (.bldS true true 4 2 [.int .i64 0, .int .i64 0, .int .i64 0, .int .i64 0] [(0, 4), (4, 4)]) [.agg [.int .i64 a, .int .i64 b, .int .i64 c, .int .i64 d], .agg [.int .i64 e, .int .i64 f, .int .i64 g, .int .i64 h]] = some (.rd 4 2 (iL [a, b, c, d, e, f, g, h]), H) := rfl
theorem f95 {n : Nat} {cs : List Int} {u v c g : Int} (hl : cs.length = 4 * n) (hn : n ≤ 10000) (hg : g = 0 ∨ g = 1) {m : Nat} : evF tab it (m + 1) 95 [.ptr 0 0, .int .i64 u, .int .i64 v, .int .i64 c, .int .i64 g] (NH 0 n (iL cs)) = some (.tup [], NH 1 (n + 2) (iL (cs ++ cells8 u v c g))) := by
  have p0 : evP (NH 0 n (iL cs)) (.ld false 1) [.ptr 0 0] = some (.sl 1 4 0 n) := p_ldX rfl rfl
  have q0 : ∀ H, evP H (.fldA 0) [.ptr 0 0] = some (.ptr 0 0) := fun H => rfl
  have ng : ∀ H, evP H (.un .neg) [.int .i64 g] = some (.int .i64 (-g)) := fun H => by rcases hg with rfl | rfl <;> rfl
  have ea := fun call => e_app4 (call := call) (q := 32) (H := NH 0 n (iL cs)) (id := 1) (cs := iL cs) (bs := iL [u, v, c, g, v, u, 0, -g]) (n := 2) (k := n) rfl (by rw [iL_len]; exact hl) (by decide) (by unfold most; omega)
  have es := fun call => e_stX (call := call) (H := (NH 0 n (iL cs)).set 1 none ++ [some (HO.data (iL cs ++ iL [u, v, c, g, v, u, 0, -g]))]) (a := 0) (j := 0) (cs := [.sl 1 4 0 n]) (v := .sl 2 4 0 (n + 2)) rfl (by simp) rfl rfl
  generalize hR : some (AV.tup [], NH 1 (n + 2) (iL (cs ++ cells8 u v c g))) = res
  have hfin : ∀ env, finish 2 [] env (((NH 0 n (iL cs)).set 1 none ++ [some (HO.data (iL cs ++ iL [u, v, c, g, v, u, 0, -g]))]).set 0 (some (.box [.sl 2 4 0 (n + 2)]))) = res := fun env => by
    rw [← hR]
    have : iL (cs ++ cells8 u v c g) = iL cs ++ iL [u, v, c, g, v, u, 0, -g] := by simp [iL, cells8]
    rw [this]
    rfl
  refine f_enterH rfl rfl ?_
  rw [nh_len]
  generalize evF tab it m = call at *
  repeat' first
 | (apply s_mov; exact aW)
 | (apply c_nil)
 | (apply s_pn; exact aO; exact q0 _)
 | (apply s_pn; exact aO; exact p0)
 | (apply s_pn; exact aO; exact ng _)
 | (apply s_en; exact aO; exact e_bld8)
 | (apply s_en; exact aO; exact ea _)
 | (apply s_st; exact aO; exact es _)
 | (apply s_pd; exact aW)
 | (apply c_reg)
  exact hfin _
theorem f95n {u v c g : Int} (hg : g = 0 ∨ g = 1) {m : Nat} : evF tab it (m + 1) 95 [.ptr 0 0, .int .i64 u, .int .i64 v, .int .i64 c, .int .i64 g] [some (.box [.nilS])] = some (.tup [], NH 0 2 (iL (cells8 u v c g))) := by
  have p0 : evP [some (HO.box [.nilS])] (.ld false 1) [.ptr 0 0] = some .nilS := p_ldX rfl rfl
  have q0 : ∀ H, evP H (.fldA 0) [.ptr 0 0] = some (.ptr 0 0) := fun H => rfl
  have ng : ∀ H, evP H (.un .neg) [.int .i64 g] = some (.int .i64 (-g)) := fun H => by rcases hg with rfl | rfl <;> rfl
  have ea : ∀ call, evE call [some (HO.box [.nilS])] (.app false 4 32) [.nilS, .rd 4 2 (iL [u, v, c, g, v, u, 0, -g])] = some (.sl 1 4 0 2, [some (HO.box [.nilS]), some (HO.data (iL [u, v, c, g, v, u, 0, -g]))]) := fun call => rfl
  have es := fun call => e_stX (call := call) (H := [some (HO.box [.nilS]), some (HO.data (iL [u, v, c, g, v, u, 0, -g]))]) (a := 0) (j := 0) (cs := [.nilS]) (v := .sl 1 4 0 2) rfl (by simp) rfl rfl
  generalize hR : some (AV.tup [], NH 0 2 (iL (cells8 u v c g))) = res
  have hfin : ∀ env, finish 1 [] env ([some (HO.box [.nilS]), some (HO.data (iL [u, v, c, g, v, u, 0, -g]))].set 0 (some (.box [.sl 1 4 0 2]))) = res := fun env => by
    rw [← hR]
    rfl
  refine f_enterH rfl rfl ?_
  show RC _ _ _ _ 1 _ _ _ _ _ _
  generalize evF tab it m = call at *
  repeat' first
 | (apply s_mov; exact aW)
 | (apply c_nil)
 | (apply s_pn; exact aO; exact q0 _)
 | (apply s_pn; exact aO; exact p0)
 | (apply s_pn; exact aO; exact ng _)
 | (apply s_en; exact aO; exact e_bld8)
 | (apply s_en; exact aO; exact ea _)
 | (apply s_st; exact aO; exact es _)
 | (apply s_pd; exact aW)
 | (apply c_reg)
  exact hfin _
theorem c95 {j n : Nat} (hj : j < 5) {cs : List Int} {u v c g : Int} (hl : cs.length = 4 * n) (hn : n ≤ 10000) (hg : g = 0 ∨ g = 1) {m : Nat} (hm : 1 ≤ m) : evE (evF tab it m) (NH j n (iL cs)) (.call false true 95) [.ptr 0 0, .int .i64 u, .int .i64 v, .int .i64 c, .int .i64 g] = some (.tup [], NH (j + 1) (n + 2) (iL (cs ++ cells8 u v c g))) := by
  obtain ⟨m, rfl⟩ : ∃ j, m = j + 1 := ⟨m - 1, by omega⟩
  have h := f95 (u := u) (v := v) (c := c) hl hn hg (m := m)
  generalize evF tab it (m + 1) = call at *
  generalize iL cs = ci at *
  generalize iL (cs ++ cells8 u v c g) = co at *
  show callMut call 95 [.ptr 0 0, .int .i64 u, .int .i64 v, .int .i64 c, .int .i64 g] (NH j n ci) = _
  have hj' : j = 0 ∨ j = 1 ∨ j = 2 ∨ j = 3 ∨ j = 4 := by omega
  rcases hj' with rfl | rfl | rfl | rfl | rfl
  · simp only [callMut, show reach (NH 0 n ci) 400 [] [.ptr 0 0, .int .i64 u, .int .i64 v, .int .i64 c, .int .i64 g] = [0, 1] from rfl, show subHeap [0, 1] [.ptr 0 0, .int .i64 u, .int .i64 v, .int .i64 c, .int .i64 g] (NH 0 n ci) = some ([.ptr 0 0, .int .i64 u, .int .i64 v, .int .i64 c, .int .i64 g], NH 0 n ci) from rfl, Option.bind_some, h]
    rfl
  · simp only [callMut, show reach (NH 1 n ci) 400 [] [.ptr 0 0, .int .i64 u, .int .i64 v, .int .i64 c, .int .i64 g] = [0, 2] from rfl, show subHeap [0, 2] [.ptr 0 0, .int .i64 u, .int .i64 v, .int .i64 c, .int .i64 g] (NH 1 n ci) = some ([.ptr 0 0, .int .i64 u, .int .i64 v, .int .i64 c, .int .i64 g], NH 0 n ci) from rfl, Option.bind_some, h]
    rfl
  · simp only [callMut, show reach (NH 2 n ci) 400 [] [.ptr 0 0, .int .i64 u, .int .i64 v, .int .i64 c, .int .i64 g] = [0, 3] from rfl, show subHeap [0, 3] [.ptr 0 0, .int .i64 u, .int .i64 v, .int .i64 c, .int .i64 g] (NH 2 n ci) = some ([.ptr 0 0, .int .i64 u, .int .i64 v, .int .i64 c, .int .i64 g], NH 0 n ci) from rfl, Option.bind_some, h]
    rfl
  · simp only [callMut, show reach (NH 3 n ci) 400 [] [.ptr 0 0, .int .i64 u, .int .i64 v, .int .i64 c, .int .i64 g] = [0, 4] from rfl, show subHeap [0, 4] [.ptr 0 0, .int .i64 u, .int .i64 v, .int .i64 c, .int .i64 g] (NH 3 n ci) = some ([.ptr 0 0, .int .i64 u, .int .i64 v, .int .i64 c, .int .i64 g], NH 0 n ci) from rfl, Option.bind_some, h]
    rfl
  · simp only [callMut, show reach (NH 4 n ci) 400 [] [.ptr 0 0, .int .i64 u, .int .i64 v, .int .i64 c, .int .i64 g] = [0, 5] from rfl, show subHeap [0, 5] [.ptr 0 0, .int .i64 u, .int .i64 v, .int .i64 c, .int .i64 g] (NH 4 n ci) = some ([.ptr 0 0, .int .i64 u, .int .i64 v, .int .i64 c, .int .i64 g], NH 0 n ci) from rfl, Option.bind_some, h]
    rfl
theorem c95n {u v c g : Int} (hg : g = 0 ∨ g = 1) {m : Nat} (hm : 1 ≤ m) : evE (evF tab it m) [some (.box [.nilS])] (.call false true 95) [.ptr 0 0, .int .i64 u, .int .i64 v, .int .i64 c, .int .i64 g] = some (.tup [], NH 0 2 (iL (cells8 u v c g))) := by
  obtain ⟨m, rfl⟩ : ∃ j, m = j + 1 := ⟨m - 1, by omega⟩
  have h := f95n (u := u) (v := v) (c := c) hg (m := m)
  generalize evF tab it (m + 1) = call at *
  show callMut call 95 [.ptr 0 0, .int .i64 u, .int .i64 v, .int .i64 c, .int .i64 g] [some (.box [.nilS])] = _
  simp only [callMut, show reach [some (.box [.nilS])] 400 [] [.ptr 0 0, .int .i64 u, .int .i64 v, .int .i64 c, .int .i64 g] = [0] from rfl, show subHeap [0] [.ptr 0 0, .int .i64 u, .int .i64 v, .int .i64 c, .int .i64 g] [some (.box [.nilS])] = some ([.ptr 0 0, .int .i64 u, .int .i64 v, .int .i64 c, .int .i64 g], [some (.box [.nilS])]) from rfl, Option.bind_some, h]
  rfl
set_option maxHeartbeats 4000000
def cE (E : List Ed) : List Int := E.flatMap fun e => cells8 (e.u : Int) (e.v : Int) e.c e.g
theorem cE_snoc (E e) : cE (E ++ [e]) = cE E ++ cells8 (e.u : Int) (e.v : Int) e.c e.g := by simp [cE]
theorem cE_len (E : List Ed) : (cE E).length = 4 * (2 * E.length) := by
  induction E with
  | nil => rfl
  | cons e E ih => unfold cE at ih ⊢; rw [List.flatMap_cons, List.length_append, ih]; simp [cells8]; omega
def NN (E : List Ed) : Heap := if E.length = 0 then [some (.box [.nilS])] else NH 0 (2 * E.length) (iL (cE E))
theorem nn_pos {E} (h : E.length ≠ 0) : NN E = NH 0 (2 * E.length) (iL (cE E)) := if_neg h
theorem addN {m j : Nat} (hm : 1 ≤ m) (hj : j < 5) {E : List Ed} (hE : E.length ≤ 4500) (e : Ed) (hg : e.g = 0 ∨ e.g = 1) : evE (evF tab it m) (NH j (2 * E.length) (iL (cE E))) (.call false true 95) [.ptr 0 0, .int .i64 (e.u : Int), .int .i64 (e.v : Int), .int .i64 e.c, .int .i64 e.g] = some (.tup [], NH (j + 1) (2 * (E ++ [e]).length) (iL (cE (E ++ [e])))) := by
  rw [cE_snoc, show 2 * (E ++ [e]).length = 2 * E.length + 2 by simp; omega]
  exact c95 hj (cE_len E) (by omega) hg hm
theorem addE {m : Nat} (hm : 1 ≤ m) {E : List Ed} (hE : E.length ≤ 4500) (e : Ed) (hg : e.g = 0 ∨ e.g = 1) : ∃ j, j ≤ 1 ∧ evE (evF tab it m) (NN E) (.call false true 95) [.ptr 0 0, .int .i64 (e.u : Int), .int .i64 (e.v : Int), .int .i64 e.c, .int .i64 e.g] = some (.tup [], NH j (2 * (E ++ [e]).length) (iL (cE (E ++ [e])))) := by
  by_cases h0 : E.length = 0
  · have h1 : E = [] := List.length_eq_zero_iff.1 h0
    subst h1
    refine ⟨0, by omega, ?_⟩
    rw [cE_snoc]
    exact c95n hg hm
  · rw [nn_pos h0]
    exact ⟨1, by omega, addN hm (by omega) hE e hg⟩
theorem gc_nb {pre gs : List AV} (hp : idFreeL pre = true) (hpl : pre.length ≤ 20) (hg : idFreeL gs = true) : gc 0 (pre ++ .ptr 0 0 :: gs) [some (.box [.nilS])] = some (pre ++ .ptr 0 0 :: gs, [some (.box [.nilS])]) := by
  refine gc_of (φ := [0]) ?_ rfl ?_ (Hp := [some (.box [.nilS])]) rfl rfl
  · have e : reach [some (HO.box [.nilS])] 400 (rangeL 0 []) (roots [some (HO.box [.nilS])] (rangeL 0 []) ++ (pre ++ .ptr 0 0 :: gs)) = reach [some (HO.box [.nilS])] ((398 - pre.length) + 1 + 1) [] (.ptr 0 0 :: gs) := by
      rw [show reach [some (HO.box [.nilS])] 400 (rangeL 0 []) (roots [some (HO.box [.nilS])] (rangeL 0 []) ++ (pre ++ .ptr 0 0 :: gs)) = reach [some (HO.box [.nilS])] 400 [] (pre ++ .ptr 0 0 :: gs) from rfl, show (400 : Nat) = (398 - pre.length) + 1 + 1 + pre.length by omega, reach_pre pre hp]
    rw [e, reach_newp, if_neg (by simp), show boxCells [some (HO.box [.nilS])] 0 = [.nilS] from rfl]
    simp only [List.nil_append, List.cons_append]
    rw [reach_nilS, reach_free _ _ _ _ hg]
  · rw [renL_append, renL_free _ hp]
    simp [renL, AV.ren, posOf, renL_free _ hg]
theorem gc_NN {pre gs : List AV} {E : List Ed} (hp : idFreeL pre = true) (hpl : pre.length ≤ 20) (hg : idFreeL gs = true) : gc 0 (pre ++ .ptr 0 0 :: gs) (NN E) = some (pre ++ .ptr 0 0 :: gs, NN E) := by
  unfold NN
  split
  · exact gc_nb hp hpl hg
  · exact gc_nw hp hpl hg
theorem nI_step {w : List Int} {i k : Nat} (h : i + 1 ≤ k) : nI w i (k + 1 - (i + 1)) = nI w i (k - (i + 1)) ++ if getI w (i : Int) ≤ getI w (k : Int) then [eX i k] else [] := by
  unfold nI
  rw [show k + 1 - (i + 1) = k - (i + 1) + 1 by omega, nX_succ, List.append_assoc, show i + 1 + (k - (i + 1)) = k by omega]
theorem p_mul2 {i : Nat} (hi : i ≤ 10000) (H : Heap) : evP H (.bin .mul) [.int .i64 2, .int .i64 (i : Int)] = some (.int .i64 ((2 * i : Nat) : Int)) := by
  simp [evP, binV, isShift, binInt, wrapI (a := 2 * (i : Int)) (by omega)]
theorem c82 {i : Nat} (hi : i ≤ 1000) {m : Nat} (hm : 1 ≤ m) (H : Heap) : callPure (evF tab it m) true 82 [.int .i64 (i : Int)] H = some (.int .i64 ((3 + 2 * i : Nat) : Int), H) := by
  obtain ⟨m, rfl⟩ : ∃ j, m = j + 1 := ⟨m - 1, by omega⟩
  refine callPure_free rfl (by simp) (H1 := []) ?_ rfl
  have p1 := p_mul2 (i := i) (by omega) []
  rw [show ((3 + 2 * i : Nat) : Int) = 3 + ((2 * i : Nat) : Int) by omega]
  refine f_enter rfl rfl ?_
  repeat' first
 | (apply s_mov; exact aW)
 | (apply c_nil)
 | (apply s_add; exact rfl; omega)
 | (apply s_pn; exact aO; exact p1)
 | (apply c_seq)
 | (apply c_reg)
 | (apply c_ret)
 | (with_reducible apply k_c)
  exact fin_t (by (conv => lhs; whnf)) (by rfl) rfl
theorem c83 {i : Nat} (hi : i ≤ 1000) {m : Nat} (hm : 1 ≤ m) (H : Heap) : callPure (evF tab it m) true 83 [.int .i64 (i : Int)] H = some (.int .i64 ((2 + 2 * i : Nat) : Int), H) := by
  obtain ⟨m, rfl⟩ : ∃ j, m = j + 1 := ⟨m - 1, by omega⟩
  refine callPure_free rfl (by simp) (H1 := []) ?_ rfl
  have p1 := p_mul2 (i := i) (by omega) []
  rw [show ((2 + 2 * i : Nat) : Int) = 2 + ((2 * i : Nat) : Int) by omega]
  refine f_enter rfl rfl ?_
  repeat' first
 | (apply s_mov; exact aW)
 | (apply c_nil)
 | (apply s_add; exact rfl; omega)
 | (apply s_pn; exact aO; exact p1)
 | (apply c_seq)
 | (apply c_reg)
 | (apply c_ret)
 | (with_reducible apply k_c)
  exact fin_t (by (conv => lhs; whnf)) (by rfl) rfl
theorem f79 {x : AV} {w : List Int} (hx : IsL x w) (hl : w.length ≤ 60) {m : Nat} (hm : 200 ≤ m) : evF tab it m 79 [x] [] = some (.ptr 0 0, NN (nA w w.length)) := by
  obtain ⟨m, rfl⟩ : ∃ j, m = j + 1 := ⟨m - 1, by omega⟩
  have fx := hx.free
  have e82 := fun {i : Nat} (hi : i ≤ 1000) H => c82 hi (m := m) (by omega) H
  have e83 := fun {i : Nat} (hi : i ≤ 1000) H => c83 hi (m := m) (by omega) H
  have eE := fun {E : List Ed} (hE : E.length ≤ 4500) (e : Ed) (hg : e.g = 0 ∨ e.g = 1) => addE (m := m) (by omega) hE e hg
  have eN := fun {j : Nat} (hj : j < 5) {E : List Ed} (hE : E.length ≤ 4500) (e : Ed) (hg : e.g = 0 ∨ e.g = 1) => addN (m := m) (by omega) hj hE e hg
  have hbl : ∀ H, evP H (.bld [.nilS] []) [] = some (.agg [.nilS]) := fun H => rfl
  have hbx : ∀ call, evE call [] (.box false) [.agg [.nilS]] = some (.ptr 0 0, [some (.box [.nilS])]) := fun call => rfl
  have hfr : ∀ a b : Int, idFreeL [x, .int .i64 a, .int .i64 b] = true := fun a b => by simp [idFreeL, AV.idFree, fx]
  have hfx : idFreeL [x] = true := by simp [idFreeL, fx]
  have hfi : ∀ a b c d e : Int, idFreeL [.int .i64 a, .int .i64 b, .int .i64 c, x, .int .i64 d, .int .i64 e] = true := fun a b c d e => by simp [idFreeL, AV.idFree, fx]
  have gO : ∀ j n cs (a b : Int), gc 0 [x, .ptr 0 0, x, .int .i64 a, .int .i64 b] (NH j n cs) = some ([x, .ptr 0 0, x, .int .i64 a, .int .i64 b], NH 0 n cs) := fun j n cs a b => gc_nw (pre := [x]) hfx (by simp) (hfr a b)
  have gI : ∀ j n cs (a b c d e : Int), gc 0 [x, .ptr 0 0, .int .i64 a, .int .i64 b, .int .i64 c, x, .int .i64 d, .int .i64 e] (NH j n cs) = some ([x, .ptr 0 0, .int .i64 a, .int .i64 b, .int .i64 c, x, .int .i64 d, .int .i64 e], NH 0 n cs) := fun j n cs a b c d e => gc_nw (pre := [x]) hfx (by simp) (hfi a b c d e)
  have hlen : ∀ i, i ≤ w.length → (nA w i).length ≤ 3840 := fun i hi => by
    have := nA_len w i
    have : i * (w.length + 4) ≤ 60 * 64 := Nat.mul_le_mul (by omega) (by omega)
    omega
  generalize hR : some (AV.ptr 0 0, NN (nA w w.length)) = res
  refine f_enter rfl rfl ?_
  generalize evF tab it m = call at *
  repeat' first
 | (apply s_mov; exact aW)
 | (apply c_nil)
 | (apply s_pn; exact aO; exact hbl _)
 | (apply s_en; exact aO; exact hbx _)
 | (apply s_len; exact aW; exact aI)
 | (apply c_seq)
 | (apply c_reg)
 | (apply c_block)
 | (with_reducible apply k_c)
  refine c_loop ?_
  refine loop_gc (σ := Nat) (fun i => [x, .ptr 0 0, x, .int .i64 w.length, .int .i64 i]) (fun i => NN (nA w i)) (fun i => i ≤ w.length) (fun i => w.length - i) ?_ _ 0 _ _ (by omega) (by omega) ?_
  rotate_left
  · exact gc_NN (E := nA w 0) (pre := [x]) hfx (by simp) (hfr _ _)
  intro i hi K hK
  by_cases hic : i < w.length
  · have hL := hlen i (by omega)
    obtain ⟨j1, hj1, a1⟩ := eE (E := nA w i) (by omega) (eA i) (.inl rfl)
    have hL1 : (nA w i ++ [eA i]).length = (nA w i).length + 1 := by simp
    have a2 := eN (j := j1) (by omega) (E := nA w i ++ [eA i]) (by omega) (eU i) (.inr rfl)
    have a3 := eN (j := j1 + 1) (by omega) (E := nA w i ++ [eA i] ++ [eU i]) (by simp at hL1 ⊢; omega) (eV i) (.inl rfl)
    have a4 := eN (j := j1 + 1 + 1) (by omega) (E := nA w i ++ [eA i] ++ [eU i] ++ [eV i]) (by simp at hL1 ⊢; omega) (eL i) (.inl rfl)
    have hE4 : nA w i ++ [eA i] ++ [eU i] ++ [eV i] ++ [eL i] = nA w i ++ nI w i (i + 1 - (i + 1)) := by simp [nI, nX]
    rw [hE4] at a4
    have b1 : evE call (NN (nA w i)) (.call false true 95) [.ptr 0 0, .int .i64 0, .int .i64 ((2 + 2 * i : Nat) : Int), .int .i64 1048576, .int .i64 0] = _ := a1
    have b2 : evE call (NH j1 _ _) (.call false true 95) [.ptr 0 0, .int .i64 ((2 + 2 * i : Nat) : Int), .int .i64 ((3 + 2 * i : Nat) : Int), .int .i64 1, .int .i64 1] = _ := a2
    have b3 : evE call (NH (j1 + 1) _ _) (.call false true 95) [.ptr 0 0, .int .i64 ((2 + 2 * i : Nat) : Int), .int .i64 ((3 + 2 * i : Nat) : Int), .int .i64 1048576, .int .i64 0] = _ := a3
    have b4 : evE call (NH (j1 + 1 + 1) _ _) (.call false true 95) [.ptr 0 0, .int .i64 ((3 + 2 * i : Nat) : Int), .int .i64 1, .int .i64 1048576, .int .i64 0] = _ := a4
    clear a1 a2 a3 a4
    repeat' first
 | (apply s_mov; exact aW)
 | (apply c_nil)
 | (apply s_lss; exact rfl; all_goals (intro _; try (exfalso; omega)))
 | (apply s_add; exact rfl; omega)
 | (apply s_cn; exact aO; exact e82 (by omega) _)
 | (apply s_cn; exact aO; exact e83 (by omega) _)
 | (apply s_en; exact aO; exact b1)
 | (apply s_en; exact aO; exact b2)
 | (apply s_en; exact aO; exact b3)
 | (apply s_en; exact aO; exact b4)
 | (apply s_idx; exact aW; exact rfl; exact aI; omega)
 | (apply s_ldI; exact rfl; omega)
 | (apply c_seq)
 | (apply c_reg)
 | (apply c_block)
 | (apply c_skip)
 | (apply c_condT; exact rfl)
 | (with_reducible apply k_c)
    clear b1 b2 b3 b4 hj1 hE4 hL1
    have hLk : ∀ k, i + 1 ≤ k → k ≤ w.length → (nA w i ++ nI w i (k - (i + 1))).length ≤ 4000 := fun k h1 h2 => by
      have := nX_len w i (k - (i + 1))
      unfold nI
      rw [List.length_append, List.length_append]
      simp
      omega
    refine c_loop ?_
    refine loop_gc (σ := Nat) (fun k => [x, .ptr 0 0, .int .i64 i, .int .i64 (getI w (i : Int)), .int .i64 (k : Int), x, .int .i64 w.length, .int .i64 i]) (fun k => NH 0 (2 * (nA w i ++ nI w i (k - (i + 1))).length) (iL (cE (nA w i ++ nI w i (k - (i + 1)))))) (fun k => i + 1 ≤ k ∧ k ≤ w.length) (fun k => w.length - k) ?_ _ (i + 1) _ _ ⟨by omega, by omega⟩ (by omega) (gI _ _ _ _ _ _ _ _)
    intro k ⟨hk1, hk2⟩ K2 hK2
    by_cases hkw : k < w.length
    · have hst := nI_step (w := w) hk1
      have hLk' := hLk k hk1 hk2
      by_cases hle : getI w (i : Int) ≤ getI w (k : Int)
      · rw [if_pos hle] at hst
        have a5 := eN (j := 0) (by omega) (E := nA w i ++ nI w i (k - (i + 1))) (by omega) (eX i k) (.inl rfl)
        rw [List.append_assoc, ← hst] at a5
        have b5 : evE call (NH 0 _ _) (.call false true 95) [.ptr 0 0, .int .i64 ((3 + 2 * i : Nat) : Int), .int .i64 ((2 + 2 * k : Nat) : Int), .int .i64 1048576, .int .i64 0] = _ := a5
        clear a5
        repeat' first
 | (apply s_mov; exact aW)
 | (apply c_nil)
 | (apply s_lss; exact rfl; all_goals (intro _; try (exfalso; omega)))
 | (apply s_leq; exact rfl; all_goals (intro _; try (exfalso; omega)))
 | (apply s_add; exact rfl; omega)
 | (apply s_cn; exact aO; exact e82 (by omega) _)
 | (apply s_cn; exact aO; exact e83 (by omega) _)
 | (apply s_en; exact aO; exact b5)
 | (apply s_len; exact aW; exact aI)
 | (apply s_idx; exact aW; exact rfl; exact aI; omega)
 | (apply s_ldI; exact rfl; omega)
 | (apply c_seq)
 | (apply c_reg)
 | (apply c_block)
 | (apply c_skip)
 | (apply c_condT; exact rfl)
 | (with_reducible apply k_c)
        all_goals first
          | (exfalso; omega)
          | exact hK2 (k + 1) _ _ ⟨by omega, by omega⟩ (by omega) (gI _ _ _ _ _ _ _ _)
      · rw [if_neg hle, List.append_nil] at hst
        repeat' first
 | (apply s_mov; exact aW)
 | (apply c_nil)
 | (apply s_lss; exact rfl; all_goals (intro _; try (exfalso; omega)))
 | (apply s_leq; exact rfl; all_goals (intro _; try (exfalso; omega)))
 | (apply s_add; exact rfl; omega)
 | (apply s_len; exact aW; exact aI)
 | (apply s_idx; exact aW; exact rfl; exact aI; omega)
 | (apply s_ldI; exact rfl; omega)
 | (apply c_seq)
 | (apply c_reg)
 | (apply c_block)
 | (apply c_skip)
 | (apply c_condT; exact rfl)
 | (apply c_condF; exact rfl)
 | (with_reducible apply k_c)
        all_goals first
          | (exfalso; omega)
          | skip
        refine hK2 (k + 1) _ _ ⟨by omega, by omega⟩ (by omega) ?_
        rw [hst]
        exact gI _ _ _ _ _ _ _ _
    · obtain rfl : k = w.length := by omega
      have e1 : nA w i ++ nI w i (w.length - (i + 1)) = nA w (i + 1) := by rw [nA_succ, show w.length - (i + 1) = w.length - 1 - i by omega]
      have e2 : NN (nA w (i + 1)) = NH 0 (2 * (nA w (i + 1)).length) (iL (cE (nA w (i + 1)))) := nn_pos (by rw [nA_succ]; simp [nI])
      rw [e1]
      have g1 := gO 0 (2 * (nA w (i + 1)).length) (iL (cE (nA w (i + 1)))) (w.length : Int) (i : Int)
      have g2 := gO 0 (2 * (nA w (i + 1)).length) (iL (cE (nA w (i + 1)))) (w.length : Int) ((i : Int) + 1)
      have hK' := hK (i + 1)
      rw [e2] at hK'
      repeat' first
 | (apply s_mov; exact aW)
 | (apply c_nil)
 | (apply s_lss; exact rfl; all_goals (intro _; try (exfalso; omega)))
 | (apply s_add; exact rfl; omega)
 | (apply c_pre; exact g1)
 | (apply s_len; exact aW; exact aI)
 | (apply c_seq)
 | (apply c_reg)
 | (apply c_exitH)
 | (apply c_condF; exact rfl)
 | (with_reducible apply k_c)
      all_goals first
        | (exfalso; omega)
        | exact hK' _ _ (by omega) (by omega) g2
  · obtain rfl : i = w.length := by omega
    have g1 : gc 0 [.ptr 0 0] (NN (nA w w.length)) = some ([.ptr 0 0], NN (nA w w.length)) := gc_NN (pre := []) (gs := []) rfl (by simp) rfl
    have hfin : ∀ env, look env 2 = .ptr 0 0 → finish 0 [.t 2] env (NN (nA w w.length)) = res := fun env h => by
      rw [← hR]
      simp [finish, ress, resOf, h, tupOf, g1]
    repeat' first
 | (apply s_mov; exact aW)
 | (apply c_nil)
 | (apply s_lss; exact rfl; all_goals (intro _; try (exfalso; omega)))
 | (apply c_pre; exact g1)
 | (apply c_seq)
 | (apply c_reg)
 | (apply c_exitH)
 | (apply c_ret)
 | (apply c_condF; exact rfl)
 | (with_reducible apply k_c)
    all_goals first
      | (exfalso; omega)
      | exact hfin _ rfl
set_option maxHeartbeats 4000000
theorem gc_2d {pre gs : List AV} {a b : List AV} {rest : Heap} {n1 n2 : Nat} (hp : idFreeL pre = true) (hpl : pre.length ≤ 20) (hg : idFreeL gs = true) : gc 0 (pre ++ .sl 0 1 0 n1 :: .sl 1 1 0 n2 :: gs) (some (.data a) :: some (.data b) :: rest) = some (pre ++ .sl 0 1 0 n1 :: .sl 1 1 0 n2 :: gs, [some (.data a), some (.data b)]) := by
  refine gc_of (φ := [0, 1]) ?_ rfl ?_ (Hp := [some (.data a), some (.data b)]) rfl rfl
  · have e : reach (some (HO.data a) :: some (HO.data b) :: rest) 400 (rangeL 0 []) (roots (some (HO.data a) :: some (HO.data b) :: rest) (rangeL 0 []) ++ (pre ++ .sl 0 1 0 n1 :: .sl 1 1 0 n2 :: gs)) = reach (some (HO.data a) :: some (HO.data b) :: rest) ((398 - pre.length) + 1 + 1) [] (.sl 0 1 0 n1 :: .sl 1 1 0 n2 :: gs) := by
      rw [show reach (some (HO.data a) :: some (HO.data b) :: rest) 400 (rangeL 0 []) (roots (some (HO.data a) :: some (HO.data b) :: rest) (rangeL 0 []) ++ (pre ++ .sl 0 1 0 n1 :: .sl 1 1 0 n2 :: gs)) = reach (some (HO.data a) :: some (HO.data b) :: rest) 400 [] (pre ++ .sl 0 1 0 n1 :: .sl 1 1 0 n2 :: gs) from rfl, show (400 : Nat) = (398 - pre.length) + 1 + 1 + pre.length by omega, reach_pre pre hp]
    rw [e, reach_new, if_neg (by simp), show boxCells (some (HO.data a) :: some (HO.data b) :: rest) 0 = [] from rfl]
    simp only [List.nil_append, List.cons_append]
    rw [reach_new, if_neg (by simp), show boxCells (some (HO.data a) :: some (HO.data b) :: rest) 1 = [] from rfl]
    simp only [List.nil_append, List.cons_append]
    rw [reach_free _ _ _ _ hg]
  · rw [renL_append, renL_free _ hp]
    simp [renL, AV.ren, posOf, renL_free _ hg]
abbrev HD (gn by_ : List Int) : Heap := [some (.data (iL gn)), some (.data (iL by_))]
abbrev HT (gn by_ : List Int) (a b c d : Int) : Heap := [some (.data (iL gn)), some (.data (iL by_)), some (.data [.int .i64 a, .int .i64 b, .int .i64 c, .int .i64 d])]
def fl (i N : Nat) (c : Int) : List Int := List.replicate i c ++ List.replicate (N - i) 0
theorem fl_len {i N c} (h : i ≤ N) : (fl i N c).length = N := by simp [fl]; omega
theorem fl_set {i N : Nat} {c : Int} (h : i < N) : (fl i N c).set i c = fl (i + 1) N c := by
  unfold fl
  rw [List.set_append_right _ _ (by simp), List.length_replicate, Nat.sub_self, show N - i = (N - (i + 1)) + 1 by omega, List.replicate_succ, List.set_cons_zero, List.replicate_succ', List.append_assoc]
  rfl
theorem fl_get {N : Nat} {c : Int} {v : Nat} (h : v < N) : getI (fl N N c) (v : Int) = c := by
  rw [getI_nat]; simp [fl, List.getD, h]
theorem st_a {call : CallF} {a b : List Int} {rest : Heap} {i : Nat} {v : Int} (hi : i < a.length) : evE call (some (.data (iL a)) :: some (.data (iL b)) :: rest) (.st 1) [.ptr 0 (0 + ((i : Nat) : Int).toNat * 1), .int .i64 v] = some (.undef, some (.data (iL (a.set i v))) :: some (.data (iL b)) :: rest) := by
  have := e_stO (call := call) (H := some (.data (iL a)) :: some (.data (iL b)) :: rest) (id := 0) (l := a) (i := i) (v := v) rfl hi
  simpa using this
theorem st_b {call : CallF} {a b : List Int} {rest : Heap} {i : Nat} {v : Int} (hi : i < b.length) : evE call (some (.data (iL a)) :: some (.data (iL b)) :: rest) (.st 1) [.ptr 1 (0 + ((i : Nat) : Int).toNat * 1), .int .i64 v] = some (.undef, some (.data (iL a)) :: some (.data (iL (b.set i v))) :: rest) := by
  have := e_stO (call := call) (H := some (.data (iL a)) :: some (.data (iL b)) :: rest) (id := 1) (l := b) (i := i) (v := v) rfl hi
  simpa using this
theorem ld_a {a : List Int} {rest : Heap} {i : Nat} (hi : i < a.length) : evP (some (.data (iL a)) :: rest) (.ld false 1) [.ptr 0 (0 + ((i : Nat) : Int).toNat * 1)] = some (.int .i64 (getI a (i : Int))) := by
  have := p_ldD (H := some (.data (iL a)) :: rest) (i := 0) (k := i) (l := a) rfl hi
  simpa using this
def G80 (E : List Ed) (R : Nat → Int) (M N : Nat) (r : Go.AM.R) : Prop := ∃ gn by_ T, r = some (.tup [.sl 0 1 0 N, .sl 1 1 0 N], HD gn by_) ∧ GD E R M N gn by_ T
theorem gi_start {E R M N p} (hN : 2 ≤ N) (hp0 : p 0 = 0) (hpb : ∀ v, v < N → -200 ≤ p v ∧ p v ≤ 200) : GI E R M N p ((fl N N far).set 0 0) (fl N N (-1)) (fun _ => 0) 0 ∧ Ph N p ((fl N N far).set 0 0) ≤ N * 1048776 := by
  have hl : (fl N N far).length = N := fl_len (Nat.le_refl _)
  have hg : ∀ v : Nat, v < N → getI ((fl N N far).set 0 0) (v : Int) = if v = 0 then 0 else far := fun v hv => by
    rw [set_get (by omega), fl_get hv]
  refine ⟨⟨by simpa using hl, fl_len (Nat.le_refl _), by rw [hg 0 (by omega)]; rfl, fun v hv => ?_, fun v h0 hv hf => ?_, fun v => Nat.le_refl _⟩, ?_⟩
  · rw [hg v hv]
    split
    · rename_i e; subst e; rw [hp0]; unfold far; omega
    · exact ⟨Int.le_refl _, .inl rfl⟩
  · rw [hg v hv, if_neg (by omega)] at hf; omega
  · unfold Ph
    have : ∀ n, n ≤ N → sN n (fun v => (p v - getI ((fl N N far).set 0 0) (v : Int)).toNat) ≤ n * 1048776 := by
      intro n
      induction n with
      | zero => intro _; simp [sN]
      | succ n ih =>
        intro hn
        have h1 := ih (by omega)
        have h2 := hpb n (by omega)
        have h3 := hg n (by omega)
        rw [sN, Nat.succ_mul]
        have : (p n - getI ((fl N N far).set 0 0) (n : Int)).toNat ≤ 1048776 := by
          rw [h3]; split
          · omega
          · unfold far; omega
        omega
    exact this N (Nat.le_refl _)
end Go.AM.Tb
