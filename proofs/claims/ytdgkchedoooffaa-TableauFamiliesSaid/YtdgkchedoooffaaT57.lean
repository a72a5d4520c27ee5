/- A part of the proof: T51 T52 T53 T54 T55 T27 T56 T57. -/
import Derived.Test.YtdgkchedoooffaaT50
import Derived.Test.YtdgkchedoooffaaT45
import Derived.Test.YtdgkchedoooffaaT12
import Derived.Test.YtdgkchedoooffaaT9
import Derived.Test.YtdgkchedoooffaaM3
set_option linter.unusedVariables false
set_option linter.unusedSimpArgs false
set_option linter.unusedSectionVars false
namespace Go.AM.Tb
set_option maxHeartbeats 4000000
def H1 (E : List Ed) (R : Nat → Int) : Heap := [some (.box [.nilS, .nilS]), some (.box [.sl 2 4 0 (2 * E.length)]), some (.data (iL (arcs E R (2 * E.length))))]
theorem gcH1 {pre gs : List AV} {E R} (hp : idFreeL pre = true) (hpl : pre.length ≤ 20) (hg : idFreeL gs = true) : gc 0 (pre ++ .ptr 0 0 :: .ptr 1 0 :: gs) (H1 E R) = some (pre ++ .ptr 0 0 :: .ptr 1 0 :: gs, H1 E R) := by
  refine gc_of (φ := [0, 1, 2]) ?_ rfl ?_ (Hp := H1 E R) rfl rfl
  · have e : reach (H1 E R) 400 (rangeL 0 []) (roots (H1 E R) (rangeL 0 []) ++ (pre ++ .ptr 0 0 :: .ptr 1 0 :: gs)) = reach (H1 E R) ((394 - pre.length) + 1 + 1 + 1 + 1 + 1 + 1) [] (.ptr 0 0 :: .ptr 1 0 :: gs) := by
      rw [show reach (H1 E R) 400 (rangeL 0 []) (roots (H1 E R) (rangeL 0 []) ++ (pre ++ .ptr 0 0 :: .ptr 1 0 :: gs)) = reach (H1 E R) 400 [] (pre ++ .ptr 0 0 :: .ptr 1 0 :: gs) from rfl, show (400 : Nat) = (394 - pre.length) + 1 + 1 + 1 + 1 + 1 + 1 + pre.length by omega, reach_pre pre hp]
    rw [e, reach_newp, if_neg (by simp), show boxCells (H1 E R) 0 = [.nilS, .nilS] from rfl]
    simp only [List.nil_append, List.cons_append]
    rw [reach_nilS, reach_nilS, reach_newp, if_neg (by simp), show boxCells (H1 E R) 1 = [.sl 2 4 0 (2 * E.length)] from rfl]
    simp only [List.nil_append, List.cons_append]
    rw [reach_new, if_neg (by simp), show boxCells (H1 E R) 2 = [] from rfl]
    simp only [List.nil_append, List.cons_append]
    rw [reach_free _ _ _ _ hg]
  · rw [renL_append, renL_free _ hp]
    simp [renL, AV.ren, posOf, renL_free _ hg]
theorem c79 {x : AV} {w : List Int} (hx : IsL x w) (hw : 0 < w.length) (hl : w.length ≤ 60) {m : Nat} (hm : 200 ≤ m) : evE (evF tab it m) [some (.box [.nilS, .nilS])] (.call true false 79) [x] = some (.ptr 1 0, H1 (nA w w.length) (R00 (nA w w.length))) := by
  have fx := hx.free
  have hf := f79 hx hl hm
  have hfz : frzL [some (HO.box [.nilS, .nilS])] 140 [x] = some [x] := frzL_free _ 140 [x] (by simp) (by simp [idFreeL, fx])
  have hne : (nA w w.length).length ≠ 0 := by
    obtain ⟨e, he, _⟩ := (net_ok w).hasA 0 hw
    omega
  rw [nn_pos hne, cE_arcs] at hf
  show callPure (evF tab it m) false 79 [x] [some (.box [.nilS, .nilS])] = _
  simp only [callPure, hfz, hf, Option.bind_some]
  simp [idFreeL, fx, shiftH, AV.ren, renH, renO, renL, NH, H1]
theorem frz_H1 (E R N) : frzL (H1 E R) 140 [.ptr 1 0, .int .i64 N] = some [.rp [.rd 4 (2 * E.length) (iL (arcs E R (2 * E.length)))], .int .i64 N] := by
  have h1 : (H1 E R)[1]? = some (some (.box [.sl 2 4 0 (2 * E.length)])) := rfl
  have h2 : Heap.data? (H1 E R) 2 = some (iL (arcs E R (2 * E.length))) := rfl
  have h3 : 2 * E.length * 4 ≤ (iL (arcs E R (2 * E.length))).length := by rw [iL_len, arcs_len]; omega
  have h4 : (iL (arcs E R (2 * E.length))).take (2 * E.length * 4) = iL (arcs E R (2 * E.length)) := List.take_of_length_le (by rw [iL_len, arcs_len]; omega)
  simp [frzL, frzV, idFreeL, AV.idFree, h1, h2, h3, h4]
theorem idx_rd4 {E : List Ed} {R : Nat → Int} {M : Nat} (H : Heap) (k : Nat) (hk : k < 2 * M) : evP H (.idxA 4) [.rd 4 (2 * M) (iL (arcs E R (2 * M))), .int .i64 (k : Int)] = some (.rp ((iL (arcs E R (2 * M))).drop (4 * k))) := by
  simp [evP, idxSl, Nat.mul_comm]
  omega
theorem c80H {w : List Int} {E : List Ed} {R : Nat → Int} {p : Nat → Int} (hn : Net w E) (hl : w.length ≤ 60) (hE : E.length ≤ 4500) (hp : ∀ k, k < 2 * E.length → 0 < R k → p (aS E k) + aG E k ≤ p (aD E k)) (hp0 : p 0 = 0) (hpb : ∀ v, v < 2 + 2 * w.length → -200 ≤ p v ∧ p v ≤ 200) {m : Nat} (hm : 300000000 ≤ m) :
    ∃ gn by_ T, (∀ H, H = H1 E R → callPure (evF tab it m) true 80 [.ptr 1 0, .int .i64 ((2 + 2 * w.length : Nat) : Int)] H = some (.tup [.rd 1 (2 + 2 * w.length) (iL gn), .rd 1 (2 + 2 * w.length) (iL by_)], H)) ∧ GD E R E.length (2 + 2 * w.length) gn by_ T := by
  obtain ⟨gn, by_, T, h1, h2⟩ := c80 (v := .rd 4 (2 * E.length) (iL (arcs E R (2 * E.length)))) rfl (E := E) (R := R) (M := E.length) (N := 2 + 2 * w.length) (fun H => rfl) (fun H k hk => idx_rd4 H k hk) hp hp0 hpb (fun k hk => (hn.ends hk)) (by omega) hE hm (frz_H1 E R _)
  exact ⟨gn, by_, T, fun H hH => by rw [hH]; exact h1, h2⟩
set_option maxHeartbeats 4000000
theorem walk60 {x : AV} {w : List Int} (hx : IsL x w) (hw : 0 < w.length) (hl : w.length ≤ 60) {k : Nat} (hk1 : 1 ≤ k) (hk : k ≤ 60) {m : Nat} (hm : 600000000 ≤ m) {E : List Ed} (hEE : E = nA w w.length) {G : Go.AM.R → Prop}
    (hnext : ∀ (units : Nat) (R : Nat → Int) (gn by_ : List Int) (T : Nat → Nat) (env : Env), NI w E R units → GD E R E.length (2 + 2 * w.length) gn by_ T → units ≤ k → (units = k ∨ getI gn ((1 : Nat) : Int) ≤ 0) →
      looks env [0, 1, 4, 5, 7, 8] = [x, .int .i64 (k : Int), .ptr 0 0, .ptr 1 0, .int .i64 (units : Int), .rd 1 (2 + 2 * w.length) (iL gn)] → G (evC (evF tab it m) it m sq60_27 0 (finish 0 [.cell 4 true 2]) (fun _ _ _ => none) (finish 0 [.cell 4 true 2]) env (H1 E R))) : G (evF tab it (m + 1) 60 [x, .int .i64 (k : Int)] []) := by
  have fx := hx.free
  have hn := net_ok w
  have c79 := c79 hx hw hl (m := m) (by omega)
  rw [← hEE] at hn c79
  have hE : E.length ≤ 4500 := by
    have := hn.len
    have : w.length * (w.length + 4) ≤ 60 * 64 := Nat.mul_le_mul hl (by omega)
    omega
  have e80 := fun {R : Nat → Int} {p : Nat → Int} h1 h2 h3 => c80H (R := R) (p := p) hn hl hE h1 h2 h3 (m := m) (by omega)
  have e81 := fun {R0 : Nat → Int} {gn by_ : List Int} {T : Nat → Nat} {s : Nat} (h : NI w E R0 s) hg hre => f81 (gn := gn) (by_ := by_) (T := T) h hE hg hre (m := m) (by omega)
  obtain ⟨gn0, by0, T0, a0, g0⟩ := e80 (p00_ok hn) rfl (p00_b w hl)
  have hN : ((2 + 2 * w.length : Nat) : Int) = 2 + ((2 * w.length : Nat) : Int) := by omega
  have mu := p_mul2 (i := w.length) (by omega)
  have b0 : ∀ call, evE call [] (.alloc false [.nilS, .nilS]) [] = some (.ptr 0 0, [some (.box [.nilS, .nilS])]) := fun call => rfl
  have a0' := a0 _ rfl
  rw [hN] at a0'
  have hgI : ∀ (u : Int) (gn by_ : List Int) R, gc 0 [x, .int .i64 (k : Int), .ptr 0 0, .ptr 1 0, .int .i64 (2 + ((2 * w.length : Nat) : Int)), .int .i64 u, .rd 1 (2 + 2 * w.length) (iL gn), .rd 1 (2 + 2 * w.length) (iL by_)] (H1 E R) = some ([x, .int .i64 (k : Int), .ptr 0 0, .ptr 1 0, .int .i64 (2 + ((2 * w.length : Nat) : Int)), .int .i64 u, .rd 1 (2 + 2 * w.length) (iL gn), .rd 1 (2 + 2 * w.length) (iL by_)], H1 E R) := fun u gn by_ R =>
    gcH1 (pre := [x, .int .i64 (k : Int)]) (gs := [.int .i64 (2 + ((2 * w.length : Nat) : Int)), .int .i64 u, .rd 1 (2 + 2 * w.length) (iL gn), .rd 1 (2 + 2 * w.length) (iL by_)]) (by simp [idFreeL, AV.idFree, fx]) (by simp) (by simp [idFreeL, AV.idFree])
  refine via_enter rfl rfl ?_
  show G (evC _ _ _ _ 0 (finish 0 _) _ (finish 0 _) _ _)
  generalize evF tab it m = call at *
  refine via (res := ?zr1) ?zw1 ?zg1
  case zw1 =>
    repeat' first
 | (apply s_mov; exact aW)
 | (apply c_nil)
 | (apply s_add; exact rfl; omega)
 | (apply s_en; exact aO; exact b0 _)
 | (apply s_en; exact aO; exact c79)
 | (apply s_pn; exact aO; exact mu _)
 | (apply s_cn; exact aO; exact a0')
 | (apply s_len; exact aW; exact aI)
 | (apply s_pd; exact aW)
 | (apply c_seq)
 | (apply c_reg)
 | (apply c_block)
 | (with_reducible apply k_c)
    exact c_end
  refine loop_P (G := G) (σ := Nat × (Nat → Int) × List Int × List Int × (Nat → Nat)) (fun s => [x, .int .i64 (k : Int), .ptr 0 0, .ptr 1 0, .int .i64 (2 + ((2 * w.length : Nat) : Int)), .int .i64 (s.1 : Int), .rd 1 (2 + 2 * w.length) (iL s.2.2.1), .rd 1 (2 + 2 * w.length) (iL s.2.2.2.1)]) (fun s => H1 E s.2.1)
    (fun s => s.1 ≤ k ∧ NI w E s.2.1 s.1 ∧ GD E s.2.1 E.length (2 + 2 * w.length) s.2.2.1 s.2.2.2.1 s.2.2.2.2) (fun s => k - s.1) ?_ _ (0, R00 E, gn0, by0, T0) _ _ ⟨by dsimp only; omega, ni_start hn, g0⟩ (by dsimp only; omega) (hgI _ _ _ _)
  clear a0 a0' g0
  rintro ⟨u, R, gn, by_, T⟩ ⟨hu, hNI, hGD⟩ K hK
  dsimp only at hu hNI hGD hK ⊢
  have hgn : IsL (.rd 1 (2 + 2 * w.length) (iL gn)) gn := rd_isL hGD.gl
  have hgl := hGD.gl
  have c1 : (1 : Int) = ((1 : Nat) : Int) := rfl
  by_cases hc : u < k ∧ 0 < getI gn 1
  · obtain ⟨hc1, hc2⟩ := hc
    have hre := reach_all hn hw hNI.rm (fun e he => by have := hNI.cap e he; omega) hGD
    obtain ⟨R', r1, hP⟩ := e81 hNI hGD hre
    have m1 : evE call (H1 E R) (.call false true 81) [.ptr 1 0, .rd 1 (2 + 2 * w.length) (iL by_)] = some (.tup [], H1 E R') := callMut_nw (b := 1) (d := 2) (H := H1 E R) rfl rfl (by omega) (by simp [idFreeL, AV.idFree]) r1 rfl
    obtain ⟨gn', by', T', a1, g1⟩ := e80 (R := R') (p := fun v => getI gn (v : Int)) (fun k hk hr => hP.ok k hk hr) hGD.g0 (fun v hv => ⟨by have := hre v hv; omega, (hGD.lo v hv).2⟩)
    have a1' := a1 _ rfl
    rw [hN] at a1'
    clear a1
    refine via (res := ?zr2) ?zw2 ?zg2
    case zw2 =>
      repeat' first
 | (apply s_mov; exact aW)
 | (apply s_gT; exact rfl)
 | (apply c_nil)
 | (apply s_pickT; exact rfl; exact aW)
 | (apply s_lss; exact rfl; all_goals (intro _; try (exfalso; omega)))
 | (apply s_gtr; exact rfl; all_goals (intro _; try (exfalso; omega)))
 | (apply s_add; exact rfl; omega)
 | (apply s_en; exact aO; exact m1)
 | (apply s_cn; exact aO; exact a1')
 | (apply s_idx; exact aW; exact rfl; exact aI; omega)
 | (apply s_ldI; exact rfl; omega)
 | (apply s_pd; exact aW)
 | (apply c_seq)
 | (apply c_reg)
 | (apply c_block)
 | (apply c_skip)
 | (apply c_condT; exact rfl)
 | (with_reducible apply k_c)
      all_goals first
        | (exfalso; omega)
        | exact rfl
    exact hK (u + 1, R', gn', by', T') _ _ ⟨by dsimp only; omega, hNI.push hP, g1⟩ (by dsimp only; omega) (hgI _ _ _ _)
  · have hstop : u = k ∨ getI gn ((1 : Nat) : Int) ≤ 0 := by
      rcases Nat.lt_or_ge u k with h | h
      · exact .inr (by have : ¬ 0 < getI gn 1 := fun h2 => hc ⟨h, h2⟩; rw [← c1]; omega)
      · exact .inl (by omega)
    have hn' := fun env => hnext u R gn by_ T env hNI hGD hu hstop
    by_cases hc1 : u < k
    · have hc2 : ¬ 0 < getI gn 1 := fun h2 => hc ⟨hc1, h2⟩
      refine via (res := ?zr3) ?zw3 ?zg3
      case zw3 =>
        repeat' first
 | (apply s_mov; exact aW)
 | (apply s_gT; exact rfl)
 | (apply c_nil)
 | (apply s_pickT; exact rfl; exact aW)
 | (apply s_lss; exact rfl; all_goals (intro _; try (exfalso; omega)))
 | (apply s_gtr; exact rfl; all_goals (intro _; try (exfalso; omega)))
 | (apply s_idx; exact aW; exact rfl; exact aI; omega)
 | (apply s_ldI; exact rfl; omega)
 | (apply c_seq)
 | (apply c_reg)
 | (apply c_exitH)
 | (apply c_condF; exact rfl)
 | (with_reducible apply k_c)
        all_goals first
          | (exfalso; omega)
          | exact c_end
      exact hn' _ rfl
    · refine via (res := ?zr4) ?zw4 ?zg4
      case zw4 =>
        repeat' first
 | (apply s_mov; exact aW)
 | (apply s_gF; exact rfl)
 | (apply c_nil)
 | (apply s_pickF; exact rfl; exact aW)
 | (apply s_lss; exact rfl; all_goals (intro _; try (exfalso; omega)))
 | (apply c_seq)
 | (apply c_reg)
 | (apply c_exitH)
 | (apply c_condF; exact rfl)
 | (with_reducible apply k_c)
        all_goals first
          | (exfalso; omega)
          | exact c_end
      exact hn' _ rfl
set_option maxHeartbeats 4000000
def cZ (Z : List (Nat × List Int)) : List AV := Z.map fun z => if z.2.length = 0 then .nilS else .sl z.1 1 0 z.2.length
def nZ (Z : List (Nat × List Int)) : List Nat := (Z.filter fun z => decide (z.2.length ≠ 0)).map Prod.fst
def can : Nat → List (List Int) → List (Nat × List Int)
  | _, [] => []
  | s, r :: P => (s, r) :: can (if r.length = 0 then s else s + 1) P
def zr : List (List Int) → Heap
  | [] => []
  | r :: P => if r.length = 0 then zr P else some (.data (iL r)) :: zr P
theorem can_snd : ∀ (P : List (List Int)) (s : Nat), (can s P).map Prod.snd = P
  | [], _ => rfl
  | r :: P, s => by simp [can, can_snd P]
theorem can_len (P : List (List Int)) (s : Nat) : (can s P).length = P.length := by
  have := congrArg List.length (can_snd P s); simpa using this
theorem nZ_nil {i : Nat} {r : List Int} {Z} (h : r.length = 0) : nZ ((i, r) :: Z) = nZ Z := by unfold nZ; rw [List.filter_cons_of_neg (by simp only [decide_eq_true_eq]; exact fun h' => h' h)]
theorem nZ_cons {i : Nat} {r : List Int} {Z} (h : r.length ≠ 0) : nZ ((i, r) :: Z) = i :: nZ Z := by unfold nZ; rw [List.filter_cons_of_pos (by simp only [decide_eq_true_eq]; exact h)]; rfl
theorem cZ_nil {i : Nat} {r : List Int} {Z} (h : r.length = 0) : cZ ((i, r) :: Z) = .nilS :: cZ Z := by unfold cZ; rw [List.map_cons]; dsimp only; rw [if_pos h]
theorem cZ_cons {i : Nat} {r : List Int} {Z} (h : r.length ≠ 0) : cZ ((i, r) :: Z) = .sl i 1 0 r.length :: cZ Z := by unfold cZ; rw [List.map_cons]; dsimp only; rw [if_neg h]
theorem cZ_len (Z) : (cZ Z).length = Z.length := by simp [cZ]
theorem reach_Z {H : Heap} : ∀ (Z : List (Nat × List Int)) (k : Nat) (acc : List Nat) (rest : List AV), (∀ n ∈ nZ Z, n ∉ acc) → (nZ Z).Nodup → (∀ n ∈ nZ Z, boxCells H n = []) → reach H (k + Z.length) acc (cZ Z ++ rest) = reach H k (acc ++ nZ Z) rest
  | [], k, acc, rest, _, _, _ => by simp [cZ, nZ]
  | (i, r) :: Z, k, acc, rest, h1, h2, h3 => by
    by_cases h : r.length = 0
    · rw [nZ_nil h] at h1 h2 h3
      rw [cZ_nil h, nZ_nil h, List.cons_append, List.length_cons, ← Nat.add_assoc, reach_nilS]
      exact reach_Z Z k acc rest h1 h2 h3
    · rw [nZ_cons h] at h1 h2 h3
      rw [cZ_cons h, nZ_cons h, List.cons_append, List.length_cons, ← Nat.add_assoc, reach_new, if_neg (by simpa using h1 i (by simp)), h3 i (by simp), List.nil_append, reach_Z Z k (acc ++ [i]) rest (fun n hn hm => ?_) (List.nodup_cons.1 h2).2 (fun n hn => h3 n (by simp [hn]))]
      · simp
      · rcases List.mem_append.1 hm with hm | hm
        · exact h1 n (by simp [hn]) hm
        · simp at hm; subst hm; exact (List.nodup_cons.1 h2).1 hn
theorem renL_Z {f : Nat → Option Nat} : ∀ (Z : List (Nat × List Int)) (s : Nat), (∀ j n : Nat, (nZ Z)[j]? = some n → f n = some (s + j)) → renL f (cZ Z) = some (cZ (can s (Z.map Prod.snd)))
  | [], s, _ => rfl
  | (i, r) :: Z, s, h => by
    by_cases h0 : r.length = 0
    · rw [nZ_nil h0] at h
      rw [cZ_nil h0, List.map_cons, can, if_pos h0, cZ_nil h0]
      simp [renL, AV.ren, renL_Z Z s h]
    · rw [nZ_cons h0] at h
      have hi := h 0 i rfl
      have := renL_Z (f := f) Z (s + 1) fun j n hn => by
        have := h (j + 1) n (by simpa using hn)
        rw [this]; congr 1; omega
      rw [cZ_cons h0, List.map_cons, can, if_neg h0, cZ_cons h0]
      simp [renL, AV.ren, hi, this]
theorem can_names : ∀ (P : List (List Int)) (s : Nat), nZ (can s P) = List.range' s (zr P).length
  | [], s => rfl
  | r :: P, s => by
    by_cases h : r.length = 0
    · rw [can, if_pos h, nZ_nil h, zr, if_pos h, can_names P s]
    · rw [can, if_neg h, nZ_cons h, zr, if_neg h, can_names P (s + 1), List.length_cons, List.range'_succ]
theorem gcZ {H o1 o1' os : Heap} {vs1 vs1' gs : List AV} {φ1 : List Nat} {a c : Nat} {Z : List (Nat × List Int)} (hr : ∀ k r, reach H (k + c) [] (vs1 ++ r) = reach H k φ1 r) (hc : c + Z.length ≤ 300) (hg : idFreeL gs = true)
    (ha : H[a]? = some (some (.box (cZ Z)))) (hnd : (φ1 ++ a :: nZ Z).Nodup) (hb : ∀ n ∈ nZ Z, boxCells H n = [])
    (hv : renL (posOf (φ1 ++ a :: nZ Z)) vs1 = some vs1') (hp1 : pickO H φ1 = some o1) (hr1 : renH (posOf (φ1 ++ a :: nZ Z)) o1 = some o1') (hp2 : pickO H (nZ Z) = some os) (hr2 : ∀ f, renH f os = some os) :
    gc 0 (vs1 ++ .sl a 1 0 Z.length :: gs) H = some (vs1' ++ .sl φ1.length 1 0 Z.length :: gs, o1' ++ (some (.box (cZ (can (φ1.length + 1) (Z.map Prod.snd)))) :: os)) := by
  have hnb : nodupB (φ1 ++ a :: nZ Z) = true := nodupB_iff.2 hnd
  have hd := List.nodup_append.1 hnd
  have hac : boxCells H a = cZ Z := by simp [boxCells, ha]
  have hpos : ∀ j n : Nat, (nZ Z)[j]? = some n → posOf (φ1 ++ a :: nZ Z) n = some (φ1.length + 1 + j) := fun j n hj => posOf_of_get hnb (by
    rw [List.getElem?_append_right (by omega), show φ1.length + 1 + j - φ1.length = j + 1 by omega, List.getElem?_cons_succ]; exact hj)
  have hpa : posOf (φ1 ++ a :: nZ Z) a = some φ1.length := posOf_of_get hnb (by rw [List.getElem?_append_right (Nat.le_refl _), Nat.sub_self]; rfl)
  refine gc_of (φ := φ1 ++ a :: nZ Z) ?_ hnb ?_ (Hp := o1 ++ (some (.box (cZ Z)) :: os)) ?_ ?_
  · have e : reach H 400 (rangeL 0 []) (roots H (rangeL 0 []) ++ (vs1 ++ .sl a 1 0 Z.length :: gs)) = reach H ((399 - c - Z.length) + Z.length + 1 + c) [] (vs1 ++ .sl a 1 0 Z.length :: gs) := by
      rw [show reach H 400 (rangeL 0 []) (roots H (rangeL 0 []) ++ (vs1 ++ .sl a 1 0 Z.length :: gs)) = reach H 400 [] (vs1 ++ .sl a 1 0 Z.length :: gs) from rfl, show (400 : Nat) = (399 - c - Z.length) + Z.length + 1 + c by omega]
    have h1 : ∀ x ∈ φ1, ∀ y ∈ a :: nZ Z, x ≠ y := hd.2.2
    have h2 := List.nodup_cons.1 hd.2.1
    rw [e, hr, reach_new, if_neg (by simp; exact fun hm => h1 a hm a (by simp) rfl), hac, reach_Z Z _ _ _ (fun n hn hm => ?_) h2.2 hb, reach_free _ _ _ _ hg]
    · simp
    · rcases List.mem_append.1 hm with hm | hm
      · exact h1 n hm n (by simp [hn]) rfl
      · simp at hm; subst hm; exact h2.1 hn
  · rw [renL_append, hv]
    simp [renL, AV.ren, hpa, renL_free _ hg]
  · rw [pickO_append, hp1]
    simp [pickO, ha, hp2]
  · rw [renH_append, hr1]
    simp [renH, renO, renL_Z Z (φ1.length + 1) hpos, hr2]
set_option maxHeartbeats 4000000
theorem can_get {H : Heap} : ∀ (P : List (List Int)) (s h : Nat), (∀ j, j < (zr P).length → H[s + j]? = (zr P)[j]?) → (hh : h < P.length) → P[h].length ≠ 0 → ∃ nm, (can s P)[h]? = some (nm, P[h]) ∧ H[nm]? = some (some (.data (iL P[h]))) ∧ s ≤ nm ∧ nm < s + (zr P).length
  | [], s, h, _, hh, _ => by simp at hh
  | r :: P, s, h, hH, hh, hne => by
    by_cases h0 : r.length = 0
    · have e : zr (r :: P) = zr P := by rw [zr, if_pos h0]
      rw [e] at hH ⊢
      cases h with
      | zero => exact absurd h0 hne
      | succ h =>
        obtain ⟨nm, a, b, c, d⟩ := can_get P s h hH (by simpa using hh) hne
        exact ⟨nm, by rw [can, if_pos h0]; exact a, b, c, d⟩
    · have e : zr (r :: P) = some (.data (iL r)) :: zr P := by rw [zr, if_neg h0]
      rw [e] at hH ⊢
      cases h with
      | zero =>
        have := hH 0 (by simp)
        exact ⟨s, by rw [can]; rfl, by simpa using this, Nat.le_refl _, by simp⟩
      | succ h =>
        obtain ⟨nm, a, b, c, d⟩ := can_get P (s + 1) h (fun j hj => by
          have := hH (j + 1) (by simp; omega)
          rw [show s + (j + 1) = s + 1 + j by omega] at this
          rw [this]; rfl) (by simpa using hh) hne
        exact ⟨nm, by rw [can, if_neg h0]; exact a, b, by omega, by simp; omega⟩
theorem can_get0 : ∀ (P : List (List Int)) (s h : Nat), (hh : h < P.length) → ∃ nm, (can s P)[h]? = some (nm, P[h])
  | [], s, h, hh => by simp at hh
  | r :: P, s, 0, hh => ⟨s, by rw [can]; rfl⟩
  | r :: P, s, h + 1, hh => by
    obtain ⟨nm, a⟩ := can_get0 P (if r.length = 0 then s else s + 1) h (by simpa using hh)
    exact ⟨nm, by rw [can]; exact a⟩
theorem pickO_Z {H : Heap} : ∀ (Z : List (Nat × List Int)), (∀ z ∈ Z, z.2.length ≠ 0 → H[z.1]? = some (some (.data (iL z.2)))) → pickO H (nZ Z) = some (zr (Z.map Prod.snd))
  | [], _ => rfl
  | (i, r) :: Z, h => by
    have ih := pickO_Z Z fun z hz => h z (by simp [hz])
    by_cases h0 : r.length = 0
    · rw [nZ_nil h0, List.map_cons, zr, if_pos h0]; exact ih
    · have := h (i, r) (by simp) h0
      rw [nZ_cons h0, List.map_cons, zr, if_neg h0]
      simp [pickO, this, ih]
theorem renH_zr (f) : ∀ P : List (List Int), renH f (zr P) = some (zr P)
  | [] => rfl
  | r :: P => by
    rw [zr]
    split
    · exact renH_zr f P
    · simp [renH, renO, renH_zr f P]
theorem cZ_set {Z : List (Nat × List Int)} {h N0 : Nat} {r : List Int} (hr : r.length ≠ 0) : cZ (Z.set h (N0, r)) = (cZ Z).set h (.sl N0 1 0 r.length) := by
  unfold cZ
  rw [List.map_set]
  dsimp only
  rw [if_neg hr]
theorem mem_nZ {Z : List (Nat × List Int)} {n : Nat} : n ∈ nZ Z ↔ ∃ z ∈ Z, z.2.length ≠ 0 ∧ z.1 = n := by
  unfold nZ
  rw [List.mem_map]
  constructor
  · rintro ⟨z, hz, rfl⟩
    rw [List.mem_filter] at hz
    exact ⟨z, hz.1, by simpa using hz.2, rfl⟩
  · rintro ⟨z, hz, h1, rfl⟩
    exact ⟨z, List.mem_filter.2 ⟨hz, by simpa using h1⟩, rfl⟩
theorem nZ_set : ∀ (Z : List (Nat × List Int)) (h N0 : Nat) (r : List Int), r.length ≠ 0 → (nZ Z).Nodup → N0 ∉ nZ Z → (nZ (Z.set h (N0, r))).Nodup ∧ ∀ z ∈ Z.set h (N0, r), z.2.length ≠ 0 → z = (N0, r) ∨ (z ∈ Z ∧ z.1 ≠ N0 ∧ ∀ q, Z[h]? = some q → q.2.length ≠ 0 → z.1 ≠ q.1)
  | [], h, N0, r, _, _, _ => by simp [nZ]
  | (i, l) :: Z, 0, N0, r, hr, hn, hN => by
    rw [List.set_cons_zero]
    by_cases h0 : l.length = 0
    · rw [nZ_nil h0] at hn hN
      refine ⟨by rw [nZ_cons hr]; exact List.nodup_cons.2 ⟨hN, hn⟩, fun z hz hzl => ?_⟩
      rcases List.mem_cons.1 hz with rfl | hz
      · exact .inl rfl
      · refine .inr ⟨by simp [hz], fun e => hN (e ▸ mem_nZ.2 ⟨z, hz, hzl, rfl⟩), fun q hq hql => ?_⟩
        simp at hq; subst hq; exact absurd h0 hql
    · rw [nZ_cons h0] at hn hN
      have hn' := List.nodup_cons.1 hn
      refine ⟨by rw [nZ_cons hr]; exact List.nodup_cons.2 ⟨fun h => hN (by simp [h]), hn'.2⟩, fun z hz hzl => ?_⟩
      rcases List.mem_cons.1 hz with rfl | hz
      · exact .inl rfl
      · have hm := mem_nZ.2 ⟨z, hz, hzl, rfl⟩
        refine .inr ⟨by simp [hz], fun e => hN (by rw [← e]; simp [hm]), fun q hq hql => ?_⟩
        simp at hq; subst hq
        exact fun e => hn'.1 (by have e' : z.1 = i := e; rw [← e']; exact hm)
  | (i, l) :: Z, h + 1, N0, r, hr, hn, hN => by
    rw [List.set_cons_succ]
    by_cases h0 : l.length = 0
    · rw [nZ_nil h0] at hn hN
      obtain ⟨a, b⟩ := nZ_set Z h N0 r hr hn hN
      refine ⟨by rw [nZ_nil h0]; exact a, fun z hz hzl => ?_⟩
      rcases List.mem_cons.1 hz with rfl | hz
      · exact absurd h0 hzl
      · rcases b z hz hzl with b | ⟨b1, b2, b3⟩
        · exact .inl b
        · exact .inr ⟨by simp [b1], b2, fun q hq => b3 q (by simpa using hq)⟩
    · rw [nZ_cons h0] at hn hN
      have hn' := List.nodup_cons.1 hn
      obtain ⟨a, b⟩ := nZ_set Z h N0 r hr hn'.2 (fun h => hN (by simp [h]))
      refine ⟨?_, fun z hz hzl => ?_⟩
      · rw [nZ_cons h0]
        refine List.nodup_cons.2 ⟨fun hm => ?_, a⟩
        obtain ⟨z, hz, hzl, rfl⟩ := mem_nZ.1 hm
        rcases b z hz hzl with rfl | ⟨b1, b2, b3⟩
        · exact hN (by simp)
        · exact hn'.1 (mem_nZ.2 ⟨z, b1, hzl, rfl⟩)
      · rcases List.mem_cons.1 hz with rfl | hz
        · refine .inr ⟨by simp, fun e => hN (by simp [← e]), fun q hq hql e => ?_⟩
          rw [List.getElem?_cons_succ] at hq
          exact hn'.1 (mem_nZ.2 ⟨q, List.mem_of_getElem? hq, hql, e.symm⟩)
        · rcases b z hz hzl with b | ⟨b1, b2, b3⟩
          · exact .inl b
          · exact .inr ⟨by simp [b1], b2, fun q hq => b3 q (by simpa using hq)⟩
set_option maxHeartbeats 4000000
def H2 (E : List Ed) (R : Nat → Int) (P : List (List Int)) : Heap := [some (.box [.nilS, .nilS]), some (.box [.sl 2 4 0 (2 * E.length)]), some (.data (iL (arcs E R (2 * E.length)))), some (.box [.nilS, .nilS]), some (.box (cZ (can 5 P)))] ++ zr P
theorem h2_len (E R P) : (H2 E R P).length = 5 + (zr P).length := by simp [H2]; omega
theorem h2_row (E R P) (j : Nat) : (H2 E R P)[5 + j]? = (zr P)[j]? := by
  unfold H2
  rw [List.getElem?_append_right (by simp)]
  simp
theorem gcH2 {E R} {P : List (List Int)} {Z : List (Nat × List Int)} {H : Heap} {vs gs : List AV} (hZ : Z.map Prod.snd = P) (hZl : Z.length ≤ 200) (hg : idFreeL gs = true)
    (h0 : H[0]? = some (some (.box [.nilS, .nilS]))) (h1 : H[1]? = some (some (.box [.sl 2 4 0 (2 * E.length)]))) (h2 : H[2]? = some (some (.data (iL (arcs E R (2 * E.length)))))) (h3 : H[3]? = some (some (.box [.nilS, .nilS]))) (h4 : H[4]? = some (some (.box (cZ Z))))
    (hn : (nZ Z).Nodup) (h5 : ∀ n ∈ nZ Z, 5 ≤ n) (hr : ∀ z ∈ Z, z.2.length ≠ 0 → H[z.1]? = some (some (.data (iL z.2)))) (hvs : idFreeL vs = true) (hvl : vs.length ≤ 20) :
    gc 0 ((.ptr 0 0 :: .ptr 1 0 :: vs ++ [.ptr 3 0]) ++ .sl 4 1 0 Z.length :: gs) H = some ((.ptr 0 0 :: .ptr 1 0 :: vs ++ [.ptr 3 0]) ++ .sl 4 1 0 Z.length :: gs, H2 E R P) := by
  have b0 : boxCells H 0 = [.nilS, .nilS] := by simp [boxCells, h0]
  have b1 : boxCells H 1 = [.sl 2 4 0 (2 * E.length)] := by simp [boxCells, h1]
  have b2 : boxCells H 2 = [] := by simp [boxCells, h2]
  have b3 : boxCells H 3 = [.nilS, .nilS] := by simp [boxCells, h3]
  have hnd : ([0, 1, 2, 3] ++ 4 :: nZ Z).Nodup := by
    rw [show [0, 1, 2, 3] ++ 4 :: nZ Z = [0, 1, 2, 3, 4] ++ nZ Z from rfl, List.nodup_append]
    refine ⟨by decide, hn, fun a ha b hb e => ?_⟩
    have := h5 b hb
    simp at ha
    omega
  have hnb : nodupB ([0, 1, 2, 3] ++ 4 :: nZ Z) = true := nodupB_iff.2 hnd
  obtain ⟨φ, hφ⟩ : ∃ φ, [0, 1, 2, 3] ++ 4 :: nZ Z = φ := ⟨_, rfl⟩
  have q0 : posOf φ 0 = some 0 := by rw [← hφ]; exact posOf_of_get hnb rfl
  have q1 : posOf φ 1 = some 1 := by rw [← hφ]; exact posOf_of_get hnb rfl
  have q2 : posOf φ 2 = some 2 := by rw [← hφ]; exact posOf_of_get hnb rfl
  have q3 : posOf φ 3 = some 3 := by rw [← hφ]; exact posOf_of_get hnb rfl
  have := gcZ (H := H) (vs1 := .ptr 0 0 :: .ptr 1 0 :: vs ++ [.ptr 3 0]) (vs1' := .ptr 0 0 :: .ptr 1 0 :: vs ++ [.ptr 3 0]) (gs := gs) (φ1 := [0, 1, 2, 3]) (a := 4) (c := vs.length + 8) (Z := Z) (o1 := [some (.box [.nilS, .nilS]), some (.box [.sl 2 4 0 (2 * E.length)]), some (.data (iL (arcs E R (2 * E.length)))), some (.box [.nilS, .nilS])])
    (o1' := [some (.box [.nilS, .nilS]), some (.box [.sl 2 4 0 (2 * E.length)]), some (.data (iL (arcs E R (2 * E.length)))), some (.box [.nilS, .nilS])]) (os := zr P) (fun k r => ?_) (by omega) hg h4 hnd (fun n hn => ?_) ?_ (by simp [pickO, h0, h1, h2, h3]) ?_ (by rw [← hZ]; exact pickO_Z Z hr) (fun f => renH_zr f P)
  · rw [this, hZ]
    rfl
  · rw [show k + (vs.length + 8) = (k + 3) + vs.length + 1 + 1 + 1 + 1 + 1 by omega]
    simp only [List.cons_append]
    rw [reach_newp, if_neg (by simp), b0]
    simp only [List.nil_append, List.cons_append]
    rw [reach_nilS, reach_nilS, reach_newp, if_neg (by simp), b1]
    simp only [List.nil_append, List.cons_append]
    rw [reach_new, if_neg (by simp), b2]
    simp only [List.nil_append, List.cons_append, List.append_assoc]
    rw [reach_pre vs hvs, reach_newp, if_neg (by simp), b3]
    simp only [List.nil_append, List.cons_append]
    rw [reach_nilS, reach_nilS]
  · obtain ⟨z, hz, hzl, rfl⟩ := mem_nZ.1 hn
    simp [boxCells, hr z hz hzl]
  · rw [hφ]
    simp only [List.cons_append, renL, AV.ren, q0, q1, Option.map_some, Option.bind_some, renL_append, renL_free _ hvs, q3]
  · rw [hφ]
    simp [renH, renO, renL, AV.ren, q2]
theorem can_names5 {P : List (List Int)} : (nZ (can 5 P)).Nodup ∧ ∀ n ∈ nZ (can 5 P), 5 ≤ n ∧ n < 5 + (zr P).length := by
  rw [can_names]
  exact ⟨List.nodup_range', fun n hn => by simpa [List.mem_range'_1] using hn⟩
theorem lvl_step {call : CallF} {E R} {P : List (List Int)} {h : Nat} (hh : h < P.length) (hP : P.length ≤ 150) (hl : P[h].length ≤ 1000) (i : Int) : ∃ cell Ha Hb, evP (H2 E R P) (.ld false 1) [.ptr 4 h] = some cell ∧ evE call (H2 E R P) (.app false 1 8) [cell, .rd 1 1 [.int .i64 i]] = some (.sl (5 + (zr P).length) 1 0 (P[h].length + 1), Ha) ∧
    evE call Ha (.st 1) [.ptr 4 h, .sl (5 + (zr P).length) 1 0 (P[h].length + 1)] = some (.undef, Hb) ∧
    ∀ vs gs, idFreeL vs = true → vs.length ≤ 20 → idFreeL gs = true → gc 0 ((.ptr 0 0 :: .ptr 1 0 :: vs ++ [.ptr 3 0]) ++ .sl 4 1 0 P.length :: gs) Hb = some ((.ptr 0 0 :: .ptr 1 0 :: vs ++ [.ptr 3 0]) ++ .sl 4 1 0 P.length :: gs, H2 E R (P.set h (P[h] ++ [i]))) := by
  obtain ⟨nm0, c0⟩ := can_get0 P 5 h hh
  have hlen := h2_len E R P
  have hbx : (H2 E R P)[4]? = some (some (.box (cZ (can 5 P)))) := rfl
  have hcl : (cZ (can 5 P)).length = P.length := by rw [cZ_len, can_len]
  obtain ⟨d1, d2⟩ := can_names5 (P := P)
  have hN : 5 + (zr P).length ∉ nZ (can 5 P) := fun h => by have := (d2 _ h).2; omega
  have hr' : (P[h] ++ [i]).length ≠ 0 := by simp
  obtain ⟨s1, s2⟩ := nZ_set (can 5 P) h (5 + (zr P).length) (P[h] ++ [i]) hr' d1 hN
  have hsnd : ((can 5 P).set h (5 + (zr P).length, P[h] ++ [i])).map Prod.snd = P.set h (P[h] ++ [i]) := by rw [List.map_set, can_snd]
  have hzl : ((can 5 P).set h (5 + (zr P).length, P[h] ++ [i])).length = P.length := by rw [List.length_set, can_len]
  have rowOf : ∀ z ∈ can 5 P, z.2.length ≠ 0 → (H2 E R P)[z.1]? = some (some (.data (iL z.2))) ∧ z.1 < 5 + (zr P).length ∧ 5 ≤ z.1 := fun z hz hzl => by
    obtain ⟨q, hq, rfl⟩ := List.mem_iff_getElem.1 hz
    have hq' : q < P.length := by rw [can_len] at hq; exact hq
    have e1 : ((can 5 P)[q]).2 = P[q] := by
      obtain ⟨nm, c⟩ := can_get0 P 5 q hq'
      rw [List.getElem?_eq_getElem hq] at c
      have := Option.some.inj c
      rw [this]
    rw [e1] at hzl
    obtain ⟨nm, a, b, c, d⟩ := can_get (H := H2 E R P) P 5 q (fun j _ => h2_row E R P j) hq' hzl
    rw [List.getElem?_eq_getElem hq] at a
    have := Option.some.inj a
    rw [this]
    exact ⟨b, d, c⟩
  have fin : ∀ Hb : Heap, (∀ q, q < 5 → q ≠ 4 → Hb[q]? = (H2 E R P)[q]?) → Hb[4]? = some (some (.box (cZ ((can 5 P).set h (5 + (zr P).length, P[h] ++ [i]))))) → Hb[5 + (zr P).length]? = some (some (.data (iL (P[h] ++ [i])))) → (∀ q, 5 ≤ q → q < 5 + (zr P).length → (P[h].length ≠ 0 → q ≠ nm0) → Hb[q]? = (H2 E R P)[q]?) →
      ∀ vs gs, idFreeL vs = true → vs.length ≤ 20 → idFreeL gs = true → gc 0 ((.ptr 0 0 :: .ptr 1 0 :: vs ++ [.ptr 3 0]) ++ .sl 4 1 0 P.length :: gs) Hb = some ((.ptr 0 0 :: .ptr 1 0 :: vs ++ [.ptr 3 0]) ++ .sl 4 1 0 P.length :: gs, H2 E R (P.set h (P[h] ++ [i]))) := fun Hb h1 h2 h3 h4 vs gs hv hvl hg => by
    have := gcH2 (E := E) (R := R) (H := Hb) (vs := vs) (gs := gs) hsnd (by omega) hg ((h1 0 (by omega) (by omega)).trans rfl) ((h1 1 (by omega) (by omega)).trans rfl) ((h1 2 (by omega) (by omega)).trans rfl) ((h1 3 (by omega) (by omega)).trans rfl) h2 s1 (fun n hn => ?_) (fun z hz hzl => ?_) hv hvl
    · rw [hzl] at this
      exact this
    · obtain ⟨z, hz, hzl, rfl⟩ := mem_nZ.1 hn
      rcases s2 z hz hzl with rfl | ⟨b1, b2, b3⟩
      · dsimp only; omega
      · exact (rowOf z b1 hzl).2.2
    · rcases s2 z hz hzl with rfl | ⟨b1, b2, b3⟩
      · exact h3
      · obtain ⟨r1, r2, r3⟩ := rowOf z b1 hzl
        rw [h4 z.1 r3 r2 (fun hne => b3 (nm0, P[h]) c0 hne)]
        exact r1
  by_cases h0 : P[h].length = 0
  · have hnil : P[h] = [] := List.length_eq_zero_iff.1 h0
    have hcell : (cZ (can 5 P))[h]? = some .nilS := by
      unfold cZ; rw [List.getElem?_map, c0]; simp only [Option.map_some]; rw [if_pos h0]
    refine ⟨.nilS, H2 E R P ++ [some (HO.data [.int .i64 i])], (H2 E R P ++ [some (HO.data [.int .i64 i])]).set 4 (some (HO.box ((cZ (can 5 P)).set h (.sl (5 + (zr P).length) 1 0 (P[h].length + 1))))), p_ldX hbx hcell, ?_, ?_, ?_⟩
    · have := e_app_nil (call := call) (q := 8) (H := H2 E R P) (y := .rd 1 1 [.int .i64 i]) (n := 1) (cs := [.int .i64 i]) rfl (by decide) (by decide)
      rw [this, hlen, h0]
    · exact e_stX (by rw [List.getElem?_append_left (by omega)]; exact hbx) (by omega) rfl rfl
    · refine fin _ (fun q hq hq4 => ?_) ?_ ?_ (fun q hq1 hq2 _ => ?_)
      · rw [List.getElem?_set_ne (by omega), List.getElem?_append_left (by omega)]
      · rw [List.getElem?_set_self (by simp; omega), cZ_set hr']
        simp
      · rw [List.getElem?_set_ne (by omega), List.getElem?_append_right (by omega), hlen, Nat.sub_self, hnil]
        rfl
      · rw [List.getElem?_set_ne (by omega), List.getElem?_append_left (by omega)]
  · have hcell : (cZ (can 5 P))[h]? = some (.sl nm0 1 0 P[h].length) := by
      unfold cZ; rw [List.getElem?_map, c0]; simp only [Option.map_some]; rw [if_neg h0]
    obtain ⟨r1, r2, r3⟩ := rowOf (nm0, P[h]) (List.mem_of_getElem? c0) h0
    dsimp only at r1 r2 r3
    refine ⟨.sl nm0 1 0 P[h].length, (H2 E R P).set nm0 none ++ [some (HO.data (iL P[h] ++ [.int .i64 i]))], ((H2 E R P).set nm0 none ++ [some (HO.data (iL P[h] ++ [.int .i64 i]))]).set 4 (some (HO.box ((cZ (can 5 P)).set h (.sl (5 + (zr P).length) 1 0 (P[h].length + 1))))), p_ldX hbx hcell, ?_, ?_, ?_⟩
    · have := e_app_sl (call := call) (q := 8) (H := H2 E R P) (id := nm0) (bs := [.int .i64 i]) (n := 1) (data?_iff.2 r1) (iL_len _) (by decide) (by unfold most; omega)
      rw [this, List.length_set, hlen]
    · exact e_stX (by rw [List.getElem?_append_left (by rw [List.length_set]; omega), List.getElem?_set_ne (by omega)]; exact hbx) (by omega) rfl rfl
    · refine fin _ (fun q hq hq4 => ?_) ?_ ?_ (fun q hq1 hq2 hq3 => ?_)
      · rw [List.getElem?_set_ne (by omega), List.getElem?_append_left (by rw [List.length_set]; omega), List.getElem?_set_ne (by omega)]
      · rw [List.getElem?_set_self (by simp; omega), cZ_set hr']
        simp
      · rw [List.getElem?_set_ne (by omega), List.getElem?_append_right (by rw [List.length_set]; omega), List.length_set, hlen, Nat.sub_self]
        simp [iL]
      · rw [List.getElem?_set_ne (by omega), List.getElem?_append_left (by rw [List.length_set]; omega), List.getElem?_set_ne (fun e => hq3 h0 e.symm)]
set_option maxHeartbeats 4000000
theorem repl_iL (n : Nat) : repl n [AV.int .i64 0] = iL (List.replicate n 0) := by
  induction n with
  | zero => rfl
  | succ n ih => simp [repl, ih, iL, List.replicate_succ]
theorem repl_nil (n : Nat) : repl n [AV.nilS] = List.replicate n .nilS := by
  induction n with
  | zero => rfl
  | succ n ih => simp [repl, ih, List.replicate_succ]
theorem e_mkI {call : CallF} {H : Heap} {n : Nat} {b : Nat} (hn : n ≤ 1000) : evE call H (.mkS 1 b [.int .i64 0]) [.int .i64 (n : Int), .int .i64 (n : Int)] = some (.sl H.length 1 0 n, H ++ [some (.data (iL (List.replicate n 0)))]) := by
  have h : (n : Int) ≤ 1048576 := by omega
  simp [evE, most, h, repl_iL]
theorem e_mkX {call : CallF} {H : Heap} {n : Nat} {b : Nat} (hn : n ≤ 1000) : evE call H (.mkB 1 b [.nilS]) [.int .i64 (n : Int), .int .i64 (n : Int)] = some (.sl H.length 1 0 n, H ++ [some (.box (List.replicate n .nilS))]) := by
  have h : (n : Int) ≤ 1048576 := by omega
  simp [evE, most, h, repl_nil, newBox]
set_option maxHeartbeats 4000000
theorem lvs_length (gn n H) : (lvs gn n H).length = H := by simp [lvs]
theorem lvs_at (gn n H h) (hh : h < (lvs gn n H).length) : (lvs gn n H)[h] = lvn gn n (h : Int) := by simp [lvs]
theorem lvs_set {gn : List Int} {i n h : Nat} (hi : isLv gn i = true) (hg : getI gn ((2 + 2 * i : Nat) : Int) = (h : Int)) (hh : h < (lvs gn i n).length) : lvs gn (i + 1) n = (lvs gn i n).set h ((lvs gn i n)[h] ++ [(i : Int)]) := by
  refine List.ext_getElem (by simp [lvs_length]) fun q h1 h2 => ?_
  rw [lvs_at, lvn_succ, List.getElem_set]
  by_cases e : h = q
  · subst e
    rw [if_pos rfl, if_pos ⟨hi, hg⟩]
    exact congrArg (· ++ [(i : Int)]) (lvs_at gn i n h hh).symm
  · rw [if_neg e, if_neg (fun h => e (by omega))]
    exact (lvs_at ..).symm
theorem lvs_skip {gn : List Int} {i n : Nat} (hi : ¬ isLv gn i = true) : lvs gn (i + 1) n = lvs gn i n := by
  refine List.ext_getElem (by simp [lvs_length]) fun q h1 h2 => ?_
  rw [lvs_at, lvn_succ, if_neg (fun h => hi h.1), lvs_at]
theorem lvs_zero (gn n) : lvs gn 0 n = List.replicate n [] := by
  refine List.ext_getElem (by simp [lvs_length]) fun q h1 h2 => ?_
  rw [lvs_at, List.getElem_replicate]
  rfl
theorem can_rep : ∀ n s, cZ (can s (List.replicate n [])) = List.replicate n .nilS
  | 0, s => rfl
  | n + 1, s => by rw [List.replicate_succ, can, if_pos (by rfl), cZ_nil rfl, can_rep n s]; rfl
theorem zr_rep : ∀ n, zr (List.replicate n []) = []
  | 0 => rfl
  | n + 1 => by rw [List.replicate_succ, zr, if_pos (by rfl), zr_rep n]
theorem lvn_le (gn n h) : (lvn gn n h).length ≤ n := by
  unfold lvn
  rw [List.length_map]
  have := List.length_filter_le (fun i => isLv gn i && decide (getI gn ((2 + 2 * i : Nat) : Int) = h)) (List.range n)
  simpa using this
theorem walk60b {x : AV} {w : List Int} (hx : IsL x w) (hl : w.length ≤ 60) {k : Nat} (hk : k ≤ 60) {m : Nat} (hm : 1000 ≤ m) {E : List Ed} {R : Nat → Int} {gn : List Int} (hgl : gn.length = 2 + 2 * w.length) {Hh : Nat} (hH : getI gn ((1 : Nat) : Int) = (Hh : Int)) (hHb : Hh ≤ 140)
    (hht : ∀ i, i < w.length → 0 ≤ getI gn ((2 + 2 * i : Nat) : Int) ∧ getI gn ((3 + 2 * i : Nat) : Int) ≤ (Hh : Int)) {env : Env} {G : Go.AM.R → Prop} {KF RF : KT} {XF : Nat → KT}
    (hlook : looks env [0, 1, 4, 5, 7, 8] = [x, .int .i64 (k : Int), .ptr 0 0, .ptr 1 0, .int .i64 (k : Int), .rd 1 (2 + 2 * w.length) (iL gn)])
    (hnext : ∀ env, looks env [4, 5, 7, 10, 11] = [.ptr 0 0, .ptr 1 0, .int .i64 (k : Int), .ptr 3 0, .sl 4 1 0 (Hh + 1)] → G (evC (evF tab it m) it m sq60_16 0 (evC (evF tab it m) it m (.pre [4, 5, 7, 10] (.seq sp60_25 sq60_24)) 0 KF XF RF) XF RF env (H2 E R (lvs gn w.length (Hh + 1))))) :
    G (evC (evF tab it m) it m sq60_27 0 KF XF RF env (H1 E R)) := by
  have fx := hx.free
  have e82 := fun {i : Nat} (hi : i ≤ 1000) H => c82 hi (m := m) (by omega) H
  have e83 := fun {i : Nat} (hi : i ≤ 1000) H => c83 hi (m := m) (by omega) H
  have hgn : IsL (.rd 1 (2 + 2 * w.length) (iL gn)) gn := rd_isL hgl
  have g0 : gc 0 (looks env [0, 1, 4, 5, 7, 8]) (H1 E R) = some ([x, .int .i64 (k : Int), .ptr 0 0, .ptr 1 0, .int .i64 (k : Int), .rd 1 (2 + 2 * w.length) (iL gn)], H1 E R) := by
    rw [hlook]
    exact gcH1 (pre := [x, .int .i64 (k : Int)]) (gs := [.int .i64 (k : Int), .rd 1 (2 + 2 * w.length) (iL gn)]) (by simp [idFreeL, AV.idFree, fx]) (by simp) (by simp [idFreeL, AV.idFree])
  have bl : ∀ H, evP H (.bld [.nilS, .nilS] []) [] = some (.agg [.nilS, .nilS]) := fun H => rfl
  have al : ∀ call, evE call (H1 E R) (.alloc false [.nilS, .nilS]) [] = some (.ptr 3 0, H1 E R ++ [some (.box [.nilS, .nilS])]) := fun call => rfl
  have s2 : ∀ call, evE call (H1 E R ++ [some (.box [.nilS, .nilS])]) (.st 2) [.ptr 3 0, .agg [.nilS, .nilS]] = some (.undef, H1 E R ++ [some (.box [.nilS, .nilS])]) := fun call => rfl
  have mk : ∀ call, evE call (H1 E R ++ [some (.box [.nilS, .nilS])]) (.mkB 1 24 [.nilS]) [.int .i64 (getI gn 1 + 1), .int .i64 (getI gn 1 + 1)] = some (.sl 4 1 0 (Hh + 1), H2 E R (lvs gn 0 (Hh + 1))) := fun call => by
    have e : getI gn 1 = (Hh : Int) := hH
    rw [e, show ((Hh : Int) + 1) = ((Hh + 1 : Nat) : Int) by omega, e_mkX (by omega), lvs_zero]
    unfold H2
    rw [can_rep, zr_rep]
    rfl
  have hHi : getI gn 1 = (Hh : Int) := hH
  have hgc0 := fun {P : List (List Int)} (hP : P.length = Hh + 1) (b c : Int) => gcH2 (E := E) (R := R) (P := P) (Z := can 5 P) (H := H2 E R P) (vs := [.int .i64 (k : Int), .rd 1 (2 + 2 * w.length) (iL gn)]) (gs := [.int .i64 b, .int .i64 c]) (can_snd P 5) (by rw [can_len]; omega) rfl rfl rfl rfl rfl rfl can_names5.1 (fun n hn => (can_names5.2 n hn).1) (fun z hz hzl => by
    obtain ⟨q, hq, rfl⟩ := List.mem_iff_getElem.1 hz
    have hq' : q < P.length := by rw [can_len] at hq; exact hq
    have e1 : ((can 5 P)[q]).2 = P[q] := by
      obtain ⟨nm, c⟩ := can_get0 P 5 q hq'
      rw [List.getElem?_eq_getElem hq] at c
      rw [Option.some.inj c]
    rw [e1] at hzl
    obtain ⟨nm, a, b, _, _⟩ := can_get (H := H2 E R P) P 5 q (fun j _ => h2_row E R P j) hq' hzl
    rw [List.getElem?_eq_getElem hq] at a
    rw [Option.some.inj a]
    exact b) (by simp [idFreeL, AV.idFree]) (by simp)
  generalize evF tab it m = call at *
  refine via (res := ?zr1) ?zw1 ?zg1
  case zw1 =>
    repeat' first
 | (apply s_mov; exact aW)
 | (apply c_nil)
 | (apply s_eql; exact rfl; all_goals (intro _; try (exfalso; omega)))
 | (apply s_add; exact rfl; omega)
 | (apply c_pre; exact g0)
 | (apply s_pn; exact aO; exact bl _)
 | (apply s_en; exact aO; exact al _)
 | (apply s_st; exact aO; exact s2 _)
 | (apply s_en; exact aO; exact mk _)
 | (apply s_len; exact aW; exact aI)
 | (apply s_idx; exact aW; exact rfl; exact aI; omega)
 | (apply s_ldI; exact rfl; omega)
 | (apply c_seq)
 | (apply c_reg)
 | (apply c_block)
 | (apply c_condT; exact rfl)
 | (with_reducible apply k_c)
    all_goals first
      | (exfalso; omega)
      | exact c_end
  refine loop_P (G := G) (σ := Nat) (fun i => [.ptr 0 0, .ptr 1 0, .int .i64 (k : Int), .rd 1 (2 + 2 * w.length) (iL gn), .ptr 3 0, .sl 4 1 0 (Hh + 1), .int .i64 w.length, .int .i64 (i : Int)]) (fun i => H2 E R (lvs gn i (Hh + 1))) (fun i => i ≤ w.length) (fun i => w.length - i) ?_ _ 0 _ _ (by omega) (by omega) ?_
  rotate_left
  · have := hgc0 (P := lvs gn 0 (Hh + 1)) (lvs_length _ _ _) w.length 0
    rw [can_len, lvs_length] at this
    exact this
  intro i hi K hK
  have hlen := lvs_length gn i (Hh + 1)
  by_cases hiw : i < w.length
  · obtain ⟨t1, t2⟩ := hht i hiw
    by_cases hlv : getI gn ((2 + 2 * i : Nat) : Int) < getI gn ((3 + 2 * i : Nat) : Int)
    · obtain ⟨h, hh⟩ : ∃ h : Nat, getI gn ((2 + 2 * i : Nat) : Int) = h := ⟨(getI gn ((2 + 2 * i : Nat) : Int)).toNat, by omega⟩
      have hhl : h < (lvs gn i (Hh + 1)).length := by rw [hlen]; omega
      have hrl : (lvs gn i (Hh + 1))[h].length ≤ 1000 := by rw [lvs_at]; have := lvn_le gn i (h : Int); omega
      obtain ⟨cell, Ha, Hb, a1, a2, a3, a4⟩ := lvl_step (call := call) (E := E) (R := R) hhl (by omega) hrl (i : Int)
      have a5 := a4 [.int .i64 (k : Int), .rd 1 (2 + 2 * w.length) (iL gn)] [.int .i64 w.length, .int .i64 ((i : Int) + 1)] (by simp [idFreeL, AV.idFree]) (by simp) (by simp [idFreeL, AV.idFree])
      rw [← lvs_set (decide_eq_true hlv) hh hhl, hlen] at a5
      have b1 : evP (H2 E R (lvs gn i (Hh + 1))) (.ld false 1) [.ptr 4 (0 + (getI gn ((2 + 2 * i : Nat) : Int)).toNat * 1)] = some cell := by rw [hh]; simpa using a1
      have b3 : evE call Ha (.st 1) [.ptr 4 (0 + (getI gn ((2 + 2 * i : Nat) : Int)).toNat * 1), .sl (5 + (zr (lvs gn i (Hh + 1))).length) 1 0 ((lvs gn i (Hh + 1))[h].length + 1)] = some (.undef, Hb) := by rw [hh]; simpa using a3
      have bd : ∀ (y : Int) (H : Heap), evE call H (.bldS true true 1 1 [.int .i64 0] [(0, 1)]) [.int .i64 y] = some (.rd 1 1 [.int .i64 y], H) := fun y H => rfl
      clear a1 a3 a4
      generalize H2 E R (lvs gn i (Hh + 1)) = HH at *
      generalize 5 + (zr (lvs gn i (Hh + 1))).length = NN at *
      generalize (lvs gn i (Hh + 1))[h].length + 1 = LL at *
      refine via (res := ?zr2) ?zw2 ?zg2
      case zw2 =>
        repeat' first
 | (apply s_mov; exact aW)
 | (apply c_nil)
 | (apply s_lss; exact rfl; all_goals (intro _; try (exfalso; omega)))
 | (apply s_gtr; exact rfl; all_goals (intro _; try (exfalso; omega)))
 | (apply s_add; exact rfl; omega)
 | (apply s_cn; exact aO; exact e82 (by omega) _)
 | (apply s_cn; exact aO; exact e83 (by omega) _)
 | (apply s_pn; exact aO; exact b1)
 | (apply s_en; exact aO; exact bd _ _)
 | (apply s_en; exact aO; exact a2)
 | (apply s_st; exact aO; exact b3)
 | (apply s_idx; exact aW; exact rfl; exact aI; omega)
 | (apply s_idxS; exact rfl; exact rfl; omega)
 | (apply s_ldI; exact rfl; omega)
 | (apply c_seq)
 | (apply c_reg)
 | (apply c_block)
 | (apply c_skip)
 | (apply c_condT; exact rfl)
 | (with_reducible apply k_c)
        all_goals first
          | (exfalso; omega)
          | exact rfl
      exact hK (i + 1) _ _ (by omega) (by omega) a5
    · have a5 := hgc0 (P := lvs gn i (Hh + 1)) (lvs_length _ _ _) w.length ((i : Int) + 1)
      rw [can_len, hlen] at a5
      have hs := lvs_skip (n := Hh + 1) (fun h => hlv (of_decide_eq_true h))
      have hK' := hK (i + 1)
      rw [hs] at hK'
      generalize H2 E R (lvs gn i (Hh + 1)) = HH at *
      refine via (res := ?zr3) ?zw3 ?zg3
      case zw3 =>
        repeat' first
 | (apply s_mov; exact aW)
 | (apply c_nil)
 | (apply s_lss; exact rfl; all_goals (intro _; try (exfalso; omega)))
 | (apply s_gtr; exact rfl; all_goals (intro _; try (exfalso; omega)))
 | (apply s_add; exact rfl; omega)
 | (apply s_cn; exact aO; exact e82 (by omega) _)
 | (apply s_cn; exact aO; exact e83 (by omega) _)
 | (apply s_idx; exact aW; exact rfl; exact aI; omega)
 | (apply s_ldI; exact rfl; omega)
 | (apply c_seq)
 | (apply c_reg)
 | (apply c_block)
 | (apply c_skip)
 | (apply c_condT; exact rfl)
 | (apply c_condF; exact rfl)
 | (with_reducible apply k_c)
        all_goals first
          | (exfalso; omega)
          | exact rfl
      exact hK' _ _ (by omega) (by omega) a5
  · obtain rfl : i = w.length := by omega
    refine via (res := ?zr4) ?zw4 ?zg4
    case zw4 =>
      repeat' first
 | (apply c_nil)
 | (apply s_lss; exact rfl; all_goals (intro _; try (exfalso; omega)))
 | (apply c_seq)
 | (apply c_reg)
 | (apply c_exitH)
 | (apply c_condF; exact rfl)
 | (with_reducible apply k_c)
      all_goals first
        | (exfalso; omega)
        | exact c_end
    exact hnext _ rfl
set_option maxHeartbeats 4000000
def bxR (D : List (List Int)) : Option HO := some (.box (D.map fzL))
theorem map_fzL_free : ∀ D : List (List Int), idFreeL (D.map fzL) = true
  | [] => rfl
  | r :: D => by simp [idFreeL, fzL_free, map_fzL_free D]
def zrd (t : Nat) (P : List (List Int)) : Heap := List.replicate t none ++ (zr P).drop t
theorem zr_full : ∀ {P : List (List Int)} {n : Nat}, (∀ q, (hq : q < P.length) → q < n → P[q].length ≠ 0) → n ≤ P.length → ∀ q, (hq : q < P.length) → q < n → (zr P)[q]? = some (some (.data (iL P[q])))
  | [], n, _, hn, q, hq, _ => by simp at hq
  | r :: P, 0, _, _, q, _, h => by omega
  | r :: P, n + 1, h, hn, q, hq, hqn => by
    have h0 : r.length ≠ 0 := h 0 (by simp) (by omega)
    have e : zr (r :: P) = some (.data (iL r)) :: zr P := by rw [zr, if_neg h0]
    rw [e]
    cases q with
    | zero => rfl
    | succ q =>
      rw [List.getElem?_cons_succ]
      exact zr_full (n := n) (fun j hj hjn => h (j + 1) (by simp; omega) (by omega)) (by simpa using hn) q (by simpa using hq) (by omega)
theorem can_full : ∀ {P : List (List Int)} {n s : Nat}, (∀ q, (hq : q < P.length) → q < n → P[q].length ≠ 0) → n ≤ P.length → ∀ q, (hq : q < P.length) → q < n → (can s P)[q]? = some (s + q, P[q])
  | [], n, s, _, hn, q, hq, _ => by simp at hq
  | r :: P, 0, s, _, _, q, _, h => by omega
  | r :: P, n + 1, s, h, hn, q, hq, hqn => by
    have h0 : r.length ≠ 0 := h 0 (by simp) (by omega)
    rw [can, if_neg h0]
    cases q with
    | zero => rfl
    | succ q =>
      rw [List.getElem?_cons_succ, can_full (n := n) (fun j hj hjn => h (j + 1) (by simp; omega) (by omega)) (by simpa using hn) q (by simpa using hq) (by omega)]
      simp; omega
theorem pickO_range {H : Heap} : ∀ (os : Heap) (s : Nat), (∀ j, j < os.length → H[s + j]? = os[j]?) → pickO H (List.range' s os.length) = some os
  | [], s, _ => rfl
  | o :: os, s, h => by
    have h0 := h 0 (by simp)
    have ih := pickO_range os (s + 1) fun j hj => by
      have := h (j + 1) (by simp; omega)
      rw [show s + (j + 1) = s + 1 + j by omega] at this
      rw [this]; rfl
    rw [List.length_cons, List.range'_succ]
    simp only [pickO]
    rw [show H[s]? = some o by simpa using h0, Option.bind_some, ih]
    rfl
theorem renH_flat (f) : ∀ os : Heap, (∀ o ∈ os, o = none ∨ ∃ c, o = some (.data c)) → renH f os = some os
  | [], _ => rfl
  | o :: os, h => by
    have ih := renH_flat f os fun o ho => h o (by simp [ho])
    rcases h o (by simp) with rfl | ⟨c, rfl⟩ <;> simp [renH, renO, ih]
theorem zr_flat : ∀ (P : List (List Int)), ∀ o ∈ zr P, o = none ∨ ∃ c, o = some (.data c)
  | [], o, h => by simp [zr] at h
  | r :: P, o, h => by
    rw [zr] at h
    split at h
    · exact zr_flat P o h
    · rcases List.mem_cons.1 h with rfl | h
      · exact .inr ⟨_, rfl⟩
      · exact zr_flat P o h
theorem zrd_flat (t P) : ∀ o ∈ zrd t P, o = none ∨ ∃ c, o = some (.data c) := fun o h => by
  rcases List.mem_append.1 h with h | h
  · exact .inl (List.mem_replicate.1 h).2
  · exact zr_flat P o (List.mem_of_mem_drop h)
theorem zrd_len {t P} (h : t ≤ (zr P).length) : (zrd t P).length = (zr P).length := by simp [zrd]; omega
theorem zrd_get {t P} (h : t ≤ (zr P).length) (j : Nat) : (zrd t P)[j]? = if j < t then some none else (zr P)[j]? := by
  unfold zrd
  by_cases hj : j < t
  · rw [if_pos hj, List.getElem?_append_left (by simpa using hj)]; simp [hj]
  · rw [if_neg hj, List.getElem?_append_right (by simp; omega), List.getElem?_drop]
    simp; congr 1; omega
def H3 (E : List Ed) (R : Nat → Int) (P : List (List Int)) (t : Nat) : Heap := if t = 0 then H2 E R P else [some (.box [.nilS, .nilS]), some (.box [.sl 2 4 0 (2 * E.length)]), some (.data (iL (arcs E R (2 * E.length)))), some (.box [.nilS, .sl 4 1 0 t]), bxR (P.take t), some (.box (cZ (can 6 P)))] ++ zrd t P
theorem gcH3 {E R} {P D : List (List Int)} {Z : List (Nat × List Int)} {H os : Heap} {vs gs : List AV} {t d a : Nat} (hZ : Z.map Prod.snd = P) (hZl : Z.length ≤ 150) (hDl : D.length ≤ 100) (hg : idFreeL gs = true)
    (h0 : H[0]? = some (some (.box [.nilS, .nilS]))) (h1 : H[1]? = some (some (.box [.sl 2 4 0 (2 * E.length)]))) (h2 : H[2]? = some (some (.data (iL (arcs E R (2 * E.length)))))) (h3 : H[3]? = some (some (.box [.nilS, .sl d 1 0 t]))) (hd : H[d]? = some (bxR D)) (ha : H[a]? = some (some (.box (cZ Z))))
    (hnd : ([0, 1, 2, 3, d] ++ a :: nZ Z).Nodup) (hb : ∀ n ∈ nZ Z, boxCells H n = []) (hp : pickO H (nZ Z) = some os) (hf : ∀ o ∈ os, o = none ∨ ∃ c, o = some (.data c)) (hvs : idFreeL vs = true) (hvl : vs.length ≤ 20) :
    gc 0 ((.ptr 0 0 :: .ptr 1 0 :: vs ++ [.ptr 3 0]) ++ .sl a 1 0 Z.length :: gs) H = some ((.ptr 0 0 :: .ptr 1 0 :: vs ++ [.ptr 3 0]) ++ .sl 5 1 0 Z.length :: gs, [some (.box [.nilS, .nilS]), some (.box [.sl 2 4 0 (2 * E.length)]), some (.data (iL (arcs E R (2 * E.length)))), some (.box [.nilS, .sl 4 1 0 t]), bxR D, some (.box (cZ (can 6 P)))] ++ os) := by
  have b0 : boxCells H 0 = [.nilS, .nilS] := by simp [boxCells, h0]
  have b1 : boxCells H 1 = [.sl 2 4 0 (2 * E.length)] := by simp [boxCells, h1]
  have b2 : boxCells H 2 = [] := by simp [boxCells, h2]
  have b3 : boxCells H 3 = [.nilS, .sl d 1 0 t] := by simp [boxCells, h3]
  have bd : boxCells H d = D.map fzL := by simp [boxCells, hd, bxR]
  have hnb : nodupB ([0, 1, 2, 3, d] ++ a :: nZ Z) = true := nodupB_iff.2 hnd
  have hd3 : d ≠ 0 ∧ d ≠ 1 ∧ d ≠ 2 ∧ d ≠ 3 := by
    have := (List.nodup_append.1 hnd).1
    simp at this
    omega
  obtain ⟨φ, hφ⟩ : ∃ φ, [0, 1, 2, 3, d] ++ a :: nZ Z = φ := ⟨_, rfl⟩
  have q0 : posOf φ 0 = some 0 := by rw [← hφ]; exact posOf_of_get hnb rfl
  have q1 : posOf φ 1 = some 1 := by rw [← hφ]; exact posOf_of_get hnb rfl
  have q2 : posOf φ 2 = some 2 := by rw [← hφ]; exact posOf_of_get hnb rfl
  have q3 : posOf φ 3 = some 3 := by rw [← hφ]; exact posOf_of_get hnb rfl
  have qd : posOf φ d = some 4 := by rw [← hφ]; exact posOf_of_get hnb rfl
  have fD := map_fzL_free D
  have := gcZ (H := H) (vs1 := .ptr 0 0 :: .ptr 1 0 :: vs ++ [.ptr 3 0]) (vs1' := .ptr 0 0 :: .ptr 1 0 :: vs ++ [.ptr 3 0]) (gs := gs) (φ1 := [0, 1, 2, 3, d]) (a := a) (c := vs.length + 8 + D.length) (Z := Z) (o1 := [some (.box [.nilS, .nilS]), some (.box [.sl 2 4 0 (2 * E.length)]), some (.data (iL (arcs E R (2 * E.length)))), some (.box [.nilS, .sl d 1 0 t]), bxR D])
    (o1' := [some (.box [.nilS, .nilS]), some (.box [.sl 2 4 0 (2 * E.length)]), some (.data (iL (arcs E R (2 * E.length)))), some (.box [.nilS, .sl 4 1 0 t]), bxR D]) (os := os) (fun k r => ?_) (by omega) hg ha hnd hb ?_ (by simp [pickO, h0, h1, h2, h3, hd]) ?_ hp (fun f => renH_flat f os hf)
  · rw [this, hZ]
    rfl
  · rw [show k + (vs.length + 8 + D.length) = (k + D.length) + 1 + 1 + 1 + vs.length + 1 + 1 + 1 + 1 + 1 by omega]
    simp only [List.cons_append]
    rw [reach_newp, if_neg (by simp), b0]
    simp only [List.nil_append, List.cons_append]
    rw [reach_nilS, reach_nilS, reach_newp, if_neg (by simp), b1]
    simp only [List.nil_append, List.cons_append]
    rw [reach_new, if_neg (by simp), b2]
    simp only [List.nil_append, List.cons_append, List.append_assoc]
    rw [reach_pre vs hvs, reach_newp, if_neg (by simp), b3]
    simp only [List.nil_append, List.cons_append]
    rw [reach_nilS, reach_new, if_neg (by simp; omega), bd]
    have : k + D.length = k + (D.map fzL).length := by simp
    rw [this, reach_pre _ fD]
    simp
  · rw [hφ]
    simp only [List.cons_append, renL, AV.ren, q0, q1, Option.map_some, Option.bind_some, renL_append, renL_free _ hvs, q3]
  · rw [hφ]
    simp [renH, renO, renL, AV.ren, q2, qd, bxR, renL_free _ fD]
end Go.AM.Tb
