/- A part of the proof: T58 T59 T60 T61 T62 T63 T64 T65. -/
import Derived.Test.YtdgkchedoooffaaT57
set_option linter.unusedVariables false
set_option linter.unusedSimpArgs false
set_option linter.unusedSectionVars false
namespace Go.AM.Tb
set_option maxHeartbeats 4000000
def dnV (t : Nat) : AV := if t = 0 then .nilS else .sl 4 1 0 t
theorem dn_step {call : CallF} {E R} {P : List (List Int)} {H : Heap} {a t Hh : Nat} (hP : P.length ≤ 100) (hHP : Hh ≤ P.length) (hne : ∀ q, (hq : q < P.length) → q < Hh → P[q].length ≠ 0) (hM : (zr P).length = Hh) (ht : t < Hh) (hpl : ∀ r ∈ P, r.length ≤ 1000)
    (h0 : H[0]? = some (some (.box [.nilS, .nilS]))) (h1 : H[1]? = some (some (.box [.sl 2 4 0 (2 * E.length)]))) (h2 : H[2]? = some (some (.data (iL (arcs E R (2 * E.length)))))) (h3 : H[3]? = some (some (.box [.nilS, dnV t]))) (haa : a = if t = 0 then 4 else 5) (h4 : t ≠ 0 → H[4]? = some (bxR (P.take t)))
    (ha : H[a]? = some (some (.box (cZ (can (a + 1) P))))) (hrow : ∀ j, j < Hh → H[a + 1 + j]? = (zrd t P)[j]?) (hlen : H.length = a + 1 + Hh) (htP : t < P.length) :
    ∃ Ha Hb Hc Hd n1 n2, evP H (.ld false 1) [.ptr a t] = some (.sl (a + 1 + t) 1 0 P[t].length) ∧ evP H (.ld false 1) [.ptr 3 1] = some (dnV t) ∧ evE call H .frz [.sl (a + 1 + t) 1 0 P[t].length] = some (fzL P[t], Ha) ∧ evE call Ha (.bldB 1 1 [.nilS] [(0, 1)]) [fzL P[t]] = some (.sl n1 1 0 1, Hb) ∧
      evE call Hb (.appB 1 24) [dnV t, .sl n1 1 0 1] = some (.sl n2 1 0 (t + 1), Hc) ∧ evE call Hc (.st 1) [.ptr 3 1, .sl n2 1 0 (t + 1)] = some (.undef, Hd) ∧
      ∀ vs gs, idFreeL vs = true → vs.length ≤ 20 → idFreeL gs = true → gc 0 ((.ptr 0 0 :: .ptr 1 0 :: vs ++ [.ptr 3 0]) ++ .sl a 1 0 P.length :: gs) Hd = some ((.ptr 0 0 :: .ptr 1 0 :: vs ++ [.ptr 3 0]) ++ .sl 5 1 0 P.length :: gs, H3 E R P (t + 1)) := by
  have hn0 := hne t htP ht
  have hcan := can_full (s := a + 1) hne hHP t htP ht
  have hcell : (cZ (can (a + 1) P))[t]? = some (.sl (a + 1 + t) 1 0 P[t].length) := by
    unfold cZ; rw [List.getElem?_map, hcan]; simp only [Option.map_some]; rw [if_neg hn0]
  have hobj : H[a + 1 + t]? = some (some (.data (iL P[t]))) := by
    rw [hrow t ht, zrd_get (by omega), if_neg (by omega)]
    exact zr_full hne hHP t htP ht
  have hfz : fzL P[t] = .rd 1 P[t].length (iL P[t]) := fzL_ne rfl (by omega)
  have ha4 : 4 ≤ a ∧ a ≤ 5 := by rw [haa]; split <;> omega
  have hrl := hpl _ (List.getElem_mem htP)
  obtain ⟨Ha, hHa⟩ : ∃ Ha, H.set (a + 1 + t) none = Ha := ⟨_, rfl⟩
  have la : Ha.length = a + 1 + Hh := by rw [← hHa, List.length_set, hlen]
  have e1 : evE call H .frz [.sl (a + 1 + t) 1 0 P[t].length] = some (fzL P[t], Ha) := by
    have hd := data?_iff.2 hobj
    have ht' : (iL P[t]).take P[t].length = iL P[t] := List.take_of_length_le (by rw [iL_len]; exact Nat.le_refl _)
    rw [hfz, ← hHa]
    simp [evE, hd, iL_len, ht']
  have e2 : evE call Ha (.bldB 1 1 [.nilS] [(0, 1)]) [fzL P[t]] = some (.sl Ha.length 1 0 1, Ha ++ [some (.box [fzL P[t]])]) := by
    rw [hfz]; exact e_bldB1 rfl rfl rfl
  have hD : (P.take (t + 1)).map fzL = (P.take t).map fzL ++ [fzL P[t]] := by
    rw [List.take_succ_eq_append_getElem htP, List.map_append]; rfl
  have key : ∃ Hc, evE call (Ha ++ [some (.box [fzL P[t]])]) (.appB 1 24) [dnV t, .sl Ha.length 1 0 1] = some (.sl (Ha.length + 1) 1 0 (t + 1), Hc) ∧ Hc.length = Ha.length + 2 ∧ Hc[Ha.length + 1]? = some (bxR (P.take (t + 1))) ∧ ∀ q, q < Ha.length → (t ≠ 0 → q ≠ 4) → Hc[q]? = Ha[q]? := by
    have hb : Heap.cells? (Ha ++ [some (HO.box [fzL P[t]])]) Ha.length = some [fzL P[t]] := cells?_iff.2 (.inr (by rw [List.getElem?_append_right (Nat.le_refl _), Nat.sub_self]; rfl))
    by_cases h0t : t = 0
    · subst h0t
      refine ⟨(Ha ++ [some (HO.box [fzL P[0]])]) ++ [some (.box [fzL P[0]])], ?_, by simp, ?_, fun q hq _ => ?_⟩
      · have := e_appB_nil (call := call) (q := 24) (H := Ha ++ [some (HO.box [fzL P[0]])]) (id := Ha.length) (n := 1) hb rfl (by decide) (by decide)
        rw [show dnV 0 = .nilS from rfl, this]
        simp
      · rw [List.getElem?_append_right (by simp)]
        simp [bxR, hD]
      · rw [List.getElem?_append_left (by simp; omega), List.getElem?_append_left hq]
    · have h4' : Ha[4]? = some (bxR (P.take t)) := by
        rw [← hHa, List.getElem?_set_ne (by rw [haa, if_neg h0t]; omega)]; exact h4 h0t
      have hc4 : Heap.cells? (Ha ++ [some (HO.box [fzL P[t]])]) 4 = some ((P.take t).map fzL) := cells?_iff.2 (.inr (by rw [List.getElem?_append_left (by omega)]; exact h4'))
      have := e_appB_sl (call := call) (q := 24) (H := Ha ++ [some (HO.box [fzL P[t]])]) (id := 4) (id2 := Ha.length) (n := 1) (k := t) hc4 (by rw [List.length_map, List.length_take]; omega) hb rfl (by decide) (by unfold most; omega)
      refine ⟨(Ha ++ [some (HO.box [fzL P[t]])]).set 4 none ++ [some (.box ((P.take t).map fzL ++ [fzL P[t]]))], ?_, by simp, ?_, fun q hq hq4 => ?_⟩
      · rw [show dnV t = .sl 4 1 0 t from if_neg h0t, this]
        simp
      · rw [List.getElem?_append_right (by simp)]
        simp [bxR, hD]
      · rw [List.getElem?_append_left (by simp; omega), List.getElem?_set_ne (by have := hq4 h0t; omega), List.getElem?_append_left hq]
  obtain ⟨Hc, e3, lc, hcN, hcq⟩ := key
  have hHaq : ∀ q, q ≠ a + 1 + t → Ha[q]? = H[q]? := fun q hq => by rw [← hHa, List.getElem?_set_ne (Ne.symm hq)]
  have hc3 : Hc[3]? = some (some (.box [.nilS, dnV t])) := by rw [hcq 3 (by omega) (by omega), hHaq 3 (by omega), h3]
  have e4 : evE call Hc (.st 1) [.ptr 3 1, .sl (Ha.length + 1) 1 0 (t + 1)] = some (.undef, Hc.set 3 (some (.box [.nilS, .sl (Ha.length + 1) 1 0 (t + 1)]))) := e_stX hc3 (by simp) rfl rfl
  refine ⟨Ha, _, Hc, _, _, _, p_ldX ha hcell, p_ldX h3 rfl, e1, e2, e3, e4, fun vs gs hv hvl hg => ?_⟩
  have hq : ∀ q, q < a + 1 + Hh → q ≠ 3 → q ≠ a + 1 + t → (t ≠ 0 → q ≠ 4) → (Hc.set 3 (some (.box [.nilS, .sl (Ha.length + 1) 1 0 (t + 1)])))[q]? = H[q]? := fun q h1 h2 h3 h4 => by
    rw [List.getElem?_set_ne (Ne.symm h2), hcq q (by omega) h4, hHaq q h3]
  have hnm : nZ (can (a + 1) P) = List.range' (a + 1) Hh := by rw [can_names, hM]
  have hrows : ∀ j, j < Hh → (Hc.set 3 (some (.box [.nilS, .sl (Ha.length + 1) 1 0 (t + 1)])))[a + 1 + j]? = (zrd (t + 1) P)[j]? := fun j hj => by
    rw [zrd_get (by omega)]
    by_cases h5 : j = t
    · subst h5
      rw [if_pos (by omega), List.getElem?_set_ne (by omega), hcq _ (by omega) (by omega), ← hHa, List.getElem?_set_self (by omega)]
    · rw [hq _ (by omega) (by omega) (by omega) (by omega), hrow j hj, zrd_get (by omega)]
      by_cases h6 : j < t
      · rw [if_pos h6, if_pos (by omega)]
      · rw [if_neg h6, if_neg (by omega)]
  have hzl : (zrd (t + 1) P).length = Hh := by rw [zrd_len (by omega), hM]
  have := gcH3 (E := E) (R := R) (P := P) (D := P.take (t + 1)) (Z := can (a + 1) P) (H := Hc.set 3 (some (.box [.nilS, .sl (Ha.length + 1) 1 0 (t + 1)]))) (os := zrd (t + 1) P) (vs := vs) (gs := gs) (t := t + 1) (d := Ha.length + 1) (a := a) (can_snd P _) (by rw [can_len]; omega) (by rw [List.length_take]; omega) hg
    ((hq 0 (by omega) (by omega) (by omega) (by omega)).trans h0) ((hq 1 (by omega) (by omega) (by omega) (by omega)).trans h1) ((hq 2 (by omega) (by omega) (by omega) (by omega)).trans h2) (by rw [List.getElem?_set_self (by omega)]) (by rw [List.getElem?_set_ne (by omega)]; exact hcN) ((hq a (by omega) (by omega) (by omega) (fun h => by rw [haa, if_neg h]; omega)).trans ha)
    ?_ ?_ ?_ (zrd_flat _ _) hv hvl
  · rw [can_len] at this
    rw [this]
    rfl
  · rw [hnm, la, List.nodup_append]
    refine ⟨by simp; omega, List.nodup_cons.2 ⟨by simp [List.mem_range'_1]; omega, List.nodup_range'⟩, fun x hx y hy e => ?_⟩
    simp [List.mem_range'_1] at hx hy
    omega
  · intro n hn
    rw [hnm] at hn
    simp [List.mem_range'_1] at hn
    have h5 := hrows (n - (a + 1)) (by omega)
    rw [show a + 1 + (n - (a + 1)) = n by omega] at h5
    have h6 : n - (a + 1) < (zrd (t + 1) P).length := by omega
    rw [List.getElem?_eq_getElem h6] at h5
    rcases zrd_flat (t + 1) P _ (List.getElem_mem h6) with h7 | ⟨c, h7⟩ <;> rw [h7] at h5 <;> simp [boxCells, h5]
  · rw [hnm, ← hzl]
    exact pickO_range _ _ fun j hj => hrows j (by omega)
set_option maxHeartbeats 4000000
def lA (c : Nat) : Nat := if c = 0 then 4 else 5
theorem h3_facts {E R} {P : List (List Int)} {c : Nat} (hc : c ≤ (zr P).length) : (H3 E R P c)[0]? = some (some (.box [.nilS, .nilS])) ∧ (H3 E R P c)[1]? = some (some (.box [.sl 2 4 0 (2 * E.length)])) ∧ (H3 E R P c)[2]? = some (some (.data (iL (arcs E R (2 * E.length))))) ∧ (H3 E R P c)[3]? = some (some (.box [.nilS, dnV c])) ∧
    (c ≠ 0 → (H3 E R P c)[4]? = some (bxR (P.take c))) ∧ (H3 E R P c)[lA c]? = some (some (.box (cZ (can (lA c + 1) P)))) ∧ (∀ j, (H3 E R P c)[lA c + 1 + j]? = (zrd c P)[j]?) ∧ (H3 E R P c).length = lA c + 1 + (zr P).length := by
  by_cases h : c = 0
  · subst h
    have e : H3 E R P 0 = H2 E R P := if_pos rfl
    rw [e]
    refine ⟨rfl, rfl, rfl, rfl, fun h => absurd rfl h, rfl, fun j => ?_, ?_⟩
    · rw [show lA 0 + 1 + j = 5 + j from by unfold lA; rw [if_pos rfl], h2_row]; simp [zrd]
    · rw [h2_len]; rfl
  · have e : H3 E R P c = [some (.box [.nilS, .nilS]), some (.box [.sl 2 4 0 (2 * E.length)]), some (.data (iL (arcs E R (2 * E.length)))), some (.box [.nilS, .sl 4 1 0 c]), bxR (P.take c), some (.box (cZ (can 6 P)))] ++ zrd c P := if_neg h
    have el : lA c = 5 := if_neg h
    rw [e, el]
    refine ⟨rfl, rfl, rfl, by simp [dnV, h], fun _ => rfl, rfl, fun j => ?_, ?_⟩
    · rw [show 5 + 1 + j = 6 + j by omega, List.getElem?_append_right (by simp)]
      simp
    · rw [List.length_append, zrd_len hc]; simp
theorem h3_gc {E R} {P : List (List Int)} {c : Nat} (hc : c ≤ (zr P).length) (hP : P.length ≤ 100) {vs gs : List AV} (hv : idFreeL vs = true) (hvl : vs.length ≤ 20) (hg : idFreeL gs = true) : gc 0 ((.ptr 0 0 :: .ptr 1 0 :: vs ++ [.ptr 3 0]) ++ .sl (lA c) 1 0 P.length :: gs) (H3 E R P c) = some ((.ptr 0 0 :: .ptr 1 0 :: vs ++ [.ptr 3 0]) ++ .sl (lA c) 1 0 P.length :: gs, H3 E R P c) := by
  obtain ⟨f0, f1, f2, f3, f4, f5, f6, f7⟩ := h3_facts (E := E) (R := R) hc
  by_cases h : c = 0
  · subst h
    have e : H3 E R P 0 = H2 E R P := if_pos rfl
    have el : lA 0 = 4 := rfl
    rw [e, el]
    have := gcH2 (E := E) (R := R) (P := P) (Z := can 5 P) (H := H2 E R P) (vs := vs) (gs := gs) (can_snd P 5) (by rw [can_len]; omega) hg rfl rfl rfl rfl rfl can_names5.1 (fun n hn => (can_names5.2 n hn).1) (fun z hz hzl => by
      obtain ⟨q, hq, rfl⟩ := List.mem_iff_getElem.1 hz
      have hq' : q < P.length := by rw [can_len] at hq; exact hq
      have e1 : ((can 5 P)[q]).2 = P[q] := by
        obtain ⟨nm, c⟩ := can_get0 P 5 q hq'
        rw [List.getElem?_eq_getElem hq] at c
        rw [Option.some.inj c]
      rw [e1] at hzl
      obtain ⟨nm, a, b, _, _⟩ := can_get (H := H2 E R P) P 5 q (fun j _ => h2_row E R P j) hq' hzl
      rw [List.getElem?_eq_getElem hq] at a
      rw [Option.some.inj a]
      exact b) hv hvl
    rw [can_len] at this
    exact this
  · have el : lA c = 5 := if_neg h
    have ed : dnV c = .sl 4 1 0 c := if_neg h
    rw [el] at f5 f6 ⊢
    rw [ed] at f3
    have hzl := zrd_len hc
    have := gcH3 (E := E) (R := R) (P := P) (D := P.take c) (Z := can 6 P) (H := H3 E R P c) (os := zrd c P) (vs := vs) (gs := gs) (t := c) (d := 4) (a := 5) (can_snd P 6) (by rw [can_len]; omega) (by rw [List.length_take]; omega) hg f0 f1 f2 f3 (f4 h) f5 ?_ ?_ ?_ (zrd_flat c P) hv hvl
    · rw [can_len] at this
      rw [this]
      have e : H3 E R P c = [some (.box [.nilS, .nilS]), some (.box [.sl 2 4 0 (2 * E.length)]), some (.data (iL (arcs E R (2 * E.length)))), some (.box [.nilS, .sl 4 1 0 c]), bxR (P.take c), some (.box (cZ (can 6 P)))] ++ zrd c P := if_neg h
      rw [e]
    · rw [can_names, List.nodup_append]
      refine ⟨by decide, List.nodup_cons.2 ⟨by simp [List.mem_range'_1], List.nodup_range'⟩, fun x hx y hy e => ?_⟩
      simp [List.mem_range'_1] at hx hy
      omega
    · intro n hn
      rw [can_names] at hn
      simp [List.mem_range'_1] at hn
      have h5 := f6 (n - 6)
      rw [show 5 + 1 + (n - 6) = n by omega] at h5
      have h6 : n - 6 < (zrd c P).length := by omega
      rw [List.getElem?_eq_getElem h6] at h5
      rcases zrd_flat c P _ (List.getElem_mem h6) with h7 | ⟨d, h7⟩ <;> rw [h7] at h5 <;> simp [boxCells, h5]
    · rw [can_names, ← hzl]
      exact pickO_range _ _ fun j hj => f6 j
theorem walk60c {E : List Ed} {R : Nat → Int} {P : List (List Int)} {Hh k m : Nat} (hP : P.length = Hh + 1) (hHb : Hh ≤ 90) (hm : 1000 ≤ m) (hne : ∀ q, (hq : q < P.length) → q < Hh → P[q].length ≠ 0) (hM : (zr P).length = Hh) (hpl : ∀ r ∈ P, r.length ≤ 1000) {call : CallF} {env : Env} {G : Go.AM.R → Prop} {KK RF : KT} {XF : Nat → KT}
    (hlook : looks env [4, 5, 7, 10, 11] = [.ptr 0 0, .ptr 1 0, .int .i64 (k : Int), .ptr 3 0, .sl 4 1 0 P.length])
    (hlast : (cZ (can (lA Hh + 1) P))[Hh]? = some .nilS)
    (hnext : ∀ env, looks env [4, 5, 7, 10] = [.ptr 0 0, .ptr 1 0, .int .i64 (k : Int), .ptr 3 0] → G (KK env (H3 E R P Hh))) : G (evC call it m sq60_16 0 KK XF RF env (H2 E R P)) := by
  have e0 : H3 E R P 0 = H2 E R P := if_pos rfl
  have g0 : gc 0 (looks env [4, 5, 7, 10, 11]) (H2 E R P) = some ([.ptr 0 0, .ptr 1 0, .int .i64 (k : Int), .ptr 3 0, .sl 4 1 0 P.length], H2 E R P) := by
    rw [hlook, ← e0]
    exact h3_gc (c := 0) (by omega) (by omega) (vs := [.int .i64 (k : Int)]) (gs := []) (by simp [idFreeL, AV.idFree]) (by simp) rfl
  refine via (res := ?zr1) ?zw1 ?zg1
  case zw1 =>
    repeat' first
 | (apply s_mov; exact aW)
 | (apply c_nil)
 | (apply c_pre; exact g0)
 | (apply s_lenSl; exact rfl)
 | (apply c_seq)
 | (apply c_reg)
 | (apply c_block)
 | (with_reducible apply k_c)
    exact c_end
  refine loop_P (G := G) (σ := Nat × Nat) (fun s => [.ptr 0 0, .ptr 1 0, .int .i64 (k : Int), .ptr 3 0, .sl (lA s.2) 1 0 P.length, .int .i64 (P.length : Int), .int .i64 (s.1 : Int)]) (fun s => H3 E R P s.2) (fun s => s.1 ≤ Hh + 1 ∧ (s.1 ≤ Hh → s.2 = s.1) ∧ (Hh < s.1 → s.2 = Hh)) (fun s => Hh + 1 - s.1) ?_ _ (0, 0) _ _ ⟨by dsimp only; omega, fun _ => rfl, fun h => by dsimp only at h; omega⟩ (by dsimp only; omega) ?_
  rotate_left
  · dsimp only
    rw [e0]
    have := h3_gc (E := E) (R := R) (P := P) (c := 0) (by omega) (by omega) (vs := [.int .i64 (k : Int)]) (gs := [.int .i64 (P.length : Int), .int .i64 0]) (by simp [idFreeL, AV.idFree]) (by simp) (by simp [idFreeL, AV.idFree])
    rw [e0] at this
    exact this
  rintro ⟨i, c⟩ ⟨hi, hc1, hc2⟩ K hK
  dsimp only at hi hc1 hc2 hK ⊢
  by_cases hiH : i < Hh
  · obtain rfl := hc1 (by omega)
    have hcP : c < P.length := by omega
    obtain ⟨f0, f1, f2, f3, f4, f5, f6, f7⟩ := h3_facts (E := E) (R := R) (P := P) (c := c) (by omega)
    obtain ⟨Ha, Hb, Hc, Hd, n1, n2, a1, a2, a3, a4, a5, a6, a7⟩ := dn_step (call := call) (E := E) (R := R) (P := P) (H := H3 E R P c) (a := lA c) (t := c) (Hh := Hh) (by omega) (by omega) hne hM hiH hpl f0 f1 f2 f3 rfl f4 f5 (fun j _ => f6 j) (by rw [f7, hM]) hcP
    have a8 := a7 [.int .i64 (k : Int)] [.int .i64 (P.length : Int), .int .i64 ((c : Int) + 1)] (by simp [idFreeL, AV.idFree]) (by simp) (by simp [idFreeL, AV.idFree])
    have b1 : evP (H3 E R P c) (.ld false 1) [.ptr (lA c) (0 + ((c : Nat) : Int).toNat * 1)] = some (.sl (lA c + 1 + c) 1 0 P[c].length) := by simpa using a1
    have hne' := hne c hcP hiH
    clear a1 a7 f0 f1 f2 f3 f4 f5 f6 f7
    generalize H3 E R P c = HH at *
    generalize P[c].length = LL at *
    generalize fzL P[c] = FF at *
    refine via (res := ?zr2) ?zw2 ?zg2
    case zw2 =>
      repeat' first
 | (apply s_mov; exact aW)
 | (apply c_nil)
 | (apply s_lss; exact rfl; all_goals (intro _; try (exfalso; omega)))
 | (apply s_gtr; exact rfl; all_goals (intro _; try (exfalso; omega)))
 | (apply s_add; exact rfl; omega)
 | (apply s_pn; exact aO; exact b1)
 | (apply s_pn; exact aO; exact a2)
 | (apply s_en; exact aO; exact a3)
 | (apply s_en; exact aO; exact a4)
 | (apply s_en; exact aO; exact a5)
 | (apply s_st; exact aO; exact a6)
 | (apply s_lenSl; exact rfl)
 | (apply s_idxS; exact rfl; exact rfl; omega)
 | (apply s_pd; exact aW)
 | (apply c_seq)
 | (apply c_reg)
 | (apply c_block)
 | (apply c_skip)
 | (apply c_condT; exact rfl)
 | (with_reducible apply k_c)
      all_goals first
        | (exfalso; omega)
        | exact rfl
    have el : lA (c + 1) = 5 := if_neg (by omega)
    refine hK (c + 1, c + 1) _ _ ⟨by dsimp only; omega, fun _ => rfl, fun h => by dsimp only at h; omega⟩ (by dsimp only; omega) ?_
    dsimp only
    rw [el]
    exact a8
  · by_cases hiH2 : i = Hh
    · subst hiH2
      obtain rfl := hc1 (Nat.le_refl _)
      obtain ⟨f0, f1, f2, f3, f4, f5, f6, f7⟩ := h3_facts (E := E) (R := R) (P := P) (c := c) (by omega)
      have b1 : evP (H3 E R P c) (.ld false 1) [.ptr (lA c) (0 + ((c : Nat) : Int).toNat * 1)] = some .nilS := by
        have := p_ldX f5 hlast
        simpa using this
      have a8 := h3_gc (E := E) (R := R) (P := P) (c := c) (by omega) (by omega) (vs := [.int .i64 (k : Int)]) (gs := [.int .i64 (P.length : Int), .int .i64 ((c : Int) + 1)]) (by simp [idFreeL, AV.idFree]) (by simp) (by simp [idFreeL, AV.idFree])
      have hn0 : IsL .nilS [] := .nil
      have hz0 : ([] : List Int).length = 0 := rfl
      refine via (res := ?zr3) ?zw3 ?zg3
      case zw3 =>
        repeat' first
 | (apply s_mov; exact aW)
 | (apply c_nil)
 | (apply s_lss; exact rfl; all_goals (intro _; try (exfalso; omega)))
 | (apply s_gtr; exact rfl; all_goals (intro _; try (exfalso; omega)))
 | (apply s_add; exact rfl; omega)
 | (apply s_pn; exact aO; exact b1)
 | (apply s_len; exact aW; exact aI)
 | (apply s_idxS; exact rfl; exact rfl; omega)
 | (apply c_seq)
 | (apply c_reg)
 | (apply c_block)
 | (apply c_skip)
 | (apply c_condT; exact rfl)
 | (apply c_condF; exact rfl)
 | (with_reducible apply k_c)
        all_goals first
          | (exfalso; omega)
          | exact rfl
      exact hK (c + 1, c) _ _ ⟨by dsimp only; omega, fun h => by dsimp only at h; omega, fun h => rfl⟩ (by dsimp only; omega) a8
    · obtain rfl : i = Hh + 1 := by omega
      obtain rfl := hc2 (by omega)
      refine via (res := ?zr4) ?zw4 ?zg4
      case zw4 =>
        repeat' first
 | (apply c_nil)
 | (apply s_lss; exact rfl; all_goals (intro _; try (exfalso; omega)))
 | (apply c_seq)
 | (apply c_reg)
 | (apply c_exitH)
 | (apply c_condF; exact rfl)
 | (with_reducible apply k_c)
        all_goals first
          | (exfalso; omega)
          | exact rfl
      exact hnext _ rfl
set_option maxHeartbeats 4000000
def bV (i : Nat) (U : List (List Int)) : AV := if U.length = 0 then .nilS else .sl i 1 0 U.length
def bO (U : List (List Int)) : Heap := if U.length = 0 then [] else [bxR U]
def bN (i : Nat) (U : List (List Int)) : List Nat := if U.length = 0 then [] else [i]
theorem bO_len (U) : (bO U).length = (bN 0 U).length := by unfold bO bN; split <;> rfl
theorem bN_len (i U) : (bN i U).length = (bN 0 U).length := by unfold bN; split <;> rfl
structure BX (H : Heap) (i : Nat) (U : List (List Int)) : Prop where
  at_ : U.length ≠ 0 → H[i]? = some (bxR U)
theorem reach_bV {H : Heap} {i : Nat} {U : List (List Int)} (h : BX H i U) {acc : List Nat} (hi : U.length ≠ 0 → i ∉ acc) (k : Nat) (r : List AV) : reach H (k + (U.length + 1)) acc (bV i U :: r) = reach H k (acc ++ bN i U) r := by
  unfold bV bN
  by_cases h0 : U.length = 0
  · rw [if_pos h0, if_pos h0, h0, reach_nilS]; simp
  · have hb : boxCells H i = U.map fzL := by simp [boxCells, h.at_ h0, bxR]
    rw [if_neg h0, if_neg h0, ← Nat.add_assoc, reach_new, if_neg (by simpa using hi h0), hb]
    have : k + U.length = k + (U.map fzL).length := by simp
    rw [this, reach_pre _ (map_fzL_free U)]
theorem ren_bV {f : Nat → Option Nat} {i j : Nat} {U : List (List Int)} (h : U.length ≠ 0 → f i = some j) : (bV i U).ren f = some (bV j U) := by
  unfold bV
  by_cases h0 : U.length = 0
  · rw [if_pos h0, if_pos h0]; rfl
  · rw [if_neg h0, if_neg h0]; simp [AV.ren, h h0]
theorem pick_bN {H : Heap} {i : Nat} {U : List (List Int)} (h : BX H i U) : pickO H (bN i U) = some (bO U) := by
  unfold bN bO
  by_cases h0 : U.length = 0
  · rw [if_pos h0, if_pos h0]; rfl
  · rw [if_neg h0, if_neg h0]; simp [pickO, h.at_ h0]
theorem renH_bO (f U) : renH f (bO U) = some (bO U) := by
  unfold bO
  by_cases h0 : U.length = 0
  · rw [if_pos h0]; rfl
  · rw [if_neg h0]; simp [renH, renO, bxR, renL_free _ (map_fzL_free U)]
def H4 (E : List Ed) (R : Nat → Int) (U D : List (List Int)) : Heap := [some (.box [.nilS, .nilS]), some (.box [.sl 2 4 0 (2 * E.length)]), some (.data (iL (arcs E R (2 * E.length)))), some (.box [bV 4 U, bV (4 + (bO U).length) D])] ++ (bO U ++ bO D)
theorem gcH4 {E R} {U D : List (List Int)} {H : Heap} {iu id : Nat} {gs : List AV} (hU : U.length ≤ 100) (hD : D.length ≤ 100) (hg : idFreeL gs = true)
    (h0 : H[0]? = some (some (.box [.nilS, .nilS]))) (h1 : H[1]? = some (some (.box [.sl 2 4 0 (2 * E.length)]))) (h2 : H[2]? = some (some (.data (iL (arcs E R (2 * E.length)))))) (h3 : H[3]? = some (some (.box [bV iu U, bV id D])))
    (hu : BX H iu U) (hd : BX H id D) (hiu : 4 ≤ iu) (hid : 4 ≤ id) (hne : iu ≠ id) :
    gc 0 (.ptr 0 0 :: .ptr 1 0 :: .ptr 3 0 :: gs) H = some (.ptr 0 0 :: .ptr 1 0 :: .ptr 3 0 :: gs, H4 E R U D) := by
  have b0 : boxCells H 0 = [.nilS, .nilS] := by simp [boxCells, h0]
  have b1 : boxCells H 1 = [.sl 2 4 0 (2 * E.length)] := by simp [boxCells, h1]
  have b2 : boxCells H 2 = [] := by simp [boxCells, h2]
  have b3 : boxCells H 3 = [bV iu U, bV id D] := by simp [boxCells, h3]
  have hiuN : ∀ x ∈ bN iu U, x = iu := fun x hx => by unfold bN at hx; split at hx <;> simp at hx; exact hx
  have hidN : ∀ x ∈ bN id D, x = id := fun x hx => by unfold bN at hx; split at hx <;> simp at hx; exact hx
  have ndu : (bN iu U).Nodup := by unfold bN; split <;> simp
  have ndd : (bN id D).Nodup := by unfold bN; split <;> simp
  have hnd : ([0, 1, 2, 3] ++ (bN iu U ++ bN id D)).Nodup := by
    rw [List.nodup_append]
    refine ⟨by decide, List.nodup_append.2 ⟨ndu, ndd, fun a ha b hb e => hne (by rw [← hiuN a ha, ← hidN b hb, e])⟩, fun a ha b hb e => ?_⟩
    simp at ha
    rcases List.mem_append.1 hb with hb | hb
    · have := hiuN b hb; omega
    · have := hidN b hb; omega
  have hnb := nodupB_iff.2 hnd
  have lu : (bN iu U).length = (bO U).length := by rw [bO_len, bN_len]
  obtain ⟨φ, hφ⟩ : ∃ φ, [0, 1, 2, 3] ++ (bN iu U ++ bN id D) = φ := ⟨_, rfl⟩
  have q0 : posOf φ 0 = some 0 := by rw [← hφ]; exact posOf_of_get hnb rfl
  have q1 : posOf φ 1 = some 1 := by rw [← hφ]; exact posOf_of_get hnb rfl
  have q2 : posOf φ 2 = some 2 := by rw [← hφ]; exact posOf_of_get hnb rfl
  have q3 : posOf φ 3 = some 3 := by rw [← hφ]; exact posOf_of_get hnb rfl
  have qu : U.length ≠ 0 → posOf φ iu = some 4 := fun h => by
    rw [← hφ]
    refine posOf_of_get hnb ?_
    have : bN iu U = [iu] := if_neg h
    rw [this]; rfl
  have qd : D.length ≠ 0 → posOf φ id = some (4 + (bO U).length) := fun h => by
    rw [← hφ]
    refine posOf_of_get hnb ?_
    have : bN id D = [id] := if_neg h
    rw [this, List.getElem?_append_right (by simp), List.getElem?_append_right (by simp; omega), lu]
    simp
  refine gc_of (φ := φ) ?_ (hφ ▸ hnb) ?_ (Hp := [some (.box [.nilS, .nilS]), some (.box [.sl 2 4 0 (2 * E.length)]), some (.data (iL (arcs E R (2 * E.length)))), some (.box [bV iu U, bV id D])] ++ (bO U ++ bO D)) ?_ ?_
  · rw [show reach H 400 (rangeL 0 []) (roots H (rangeL 0 []) ++ (.ptr 0 0 :: .ptr 1 0 :: .ptr 3 0 :: gs)) = reach H 400 [] (.ptr 0 0 :: .ptr 1 0 :: .ptr 3 0 :: gs) from rfl, show (400 : Nat) = (400 - 6 - (U.length + 1) - (D.length + 1)) + (D.length + 1) + (U.length + 1) + 1 + 1 + 1 + 1 + 1 + 1 by omega]
    rw [reach_newp, if_neg (by simp), b0]
    simp only [List.nil_append, List.cons_append]
    rw [reach_nilS, reach_nilS, reach_newp, if_neg (by simp), b1]
    simp only [List.nil_append, List.cons_append]
    rw [reach_new, if_neg (by simp), b2]
    simp only [List.nil_append, List.cons_append]
    rw [reach_newp, if_neg (by simp), b3]
    simp only [List.nil_append, List.cons_append]
    rw [reach_bV hu (fun _ => by simp; omega), reach_bV hd (fun hdl hm => ?_), reach_free _ _ _ _ hg, ← hφ]
    · simp
    · rcases List.mem_append.1 hm with hm | hm
      · simp at hm; omega
      · exact hne (hiuN _ hm).symm
  · simp [renL, AV.ren, q0, q1, q3, renL_free _ hg]
  · rw [← hφ, pickO_append, pickO_append, pick_bN hu, pick_bN hd]
    simp [pickO, h0, h1, h2, h3]
  · rw [renH_append, renH_append, renH_bO, renH_bO]
    simp [renH, renO, renL, AV.ren, q2, ren_bV qu, ren_bV qd, H4]
set_option maxHeartbeats 4000000
theorem h4_len (E R U D) : (H4 E R U D).length = 4 + (bO U).length + (bO D).length := by simp [H4]; omega
theorem bO_one {U : List (List Int)} (h : U.length ≠ 0) : bO U = [bxR U] := if_neg h
theorem h4_u (E R) {U D : List (List Int)} (h : U.length ≠ 0) : (H4 E R U D)[4]? = some (bxR U) := by
  unfold H4
  rw [List.getElem?_append_right (by simp), bO_one h]
  rfl
theorem h4_d (E R) {U D : List (List Int)} (h : D.length ≠ 0) : (H4 E R U D)[4 + (bO U).length]? = some (bxR D) := by
  unfold H4
  rw [List.getElem?_append_right (by simp), List.getElem?_append_right (by simp), bO_one h]
  simp
theorem up_step {call : CallF} {E R} {U D : List (List Int)} {ch : List Int} (hU : U.length ≤ 90) (hD : D.length ≤ 100) (hc : ch.length ≠ 0) :
    ∃ Hb Hc Hd n1 n2, evP (H4 E R U D) (.ld false 1) [.ptr 3 0] = some (bV 4 U) ∧ evE call (H4 E R U D) (.bldB 1 1 [.nilS] [(0, 1)]) [fzL ch] = some (.sl n1 1 0 1, Hb) ∧ evE call Hb (.appB 1 24) [bV 4 U, .sl n1 1 0 1] = some (.sl n2 1 0 (U.length + 1), Hc) ∧ evE call Hc (.st 1) [.ptr 3 0, .sl n2 1 0 (U.length + 1)] = some (.undef, Hd) ∧
      ∀ gs, idFreeL gs = true → gc 0 (.ptr 0 0 :: .ptr 1 0 :: .ptr 3 0 :: gs) Hd = some (.ptr 0 0 :: .ptr 1 0 :: .ptr 3 0 :: gs, H4 E R (U ++ [ch]) D) := by
  have hl := h4_len E R U D
  have hfz : fzL ch = .rd 1 ch.length (iL ch) := fzL_ne rfl (by omega)
  have h3 : (H4 E R U D)[3]? = some (some (.box [bV 4 U, bV (4 + (bO U).length) D])) := rfl
  obtain ⟨H, hH⟩ : ∃ H, H4 E R U D = H := ⟨_, rfl⟩
  have e2 : evE call H (.bldB 1 1 [.nilS] [(0, 1)]) [fzL ch] = some (.sl H.length 1 0 1, H ++ [some (.box [fzL ch])]) := by rw [hfz]; exact e_bldB1 rfl rfl rfl
  have u4 : U.length ≠ 0 → H[4]? = some (bxR U) := fun h => by rw [← hH]; exact h4_u E R h
  have d4 : D.length ≠ 0 → H[4 + (bO U).length]? = some (bxR D) := fun h => by rw [← hH]; exact h4_d E R h
  have g0 : H[0]? = some (some (.box [.nilS, .nilS])) := by rw [← hH]; rfl
  have g1 : H[1]? = some (some (.box [.sl 2 4 0 (2 * E.length)])) := by rw [← hH]; rfl
  have g2 : H[2]? = some (some (.data (iL (arcs E R (2 * E.length))))) := by rw [← hH]; rfl
  rw [hH] at hl h3 ⊢
  have hb : Heap.cells? (H ++ [some (HO.box [fzL ch])]) H.length = some [fzL ch] := cells?_iff.2 (.inr (by rw [List.getElem?_append_right (Nat.le_refl _), Nat.sub_self]; rfl))
  have key : ∃ Hc, evE call (H ++ [some (.box [fzL ch])]) (.appB 1 24) [bV 4 U, .sl H.length 1 0 1] = some (.sl (H.length + 1) 1 0 (U.length + 1), Hc) ∧ Hc.length = H.length + 2 ∧ Hc[H.length + 1]? = some (bxR (U ++ [ch])) ∧ ∀ q, q < H.length → (U.length ≠ 0 → q ≠ 4) → Hc[q]? = H[q]? := by
    by_cases h0 : U.length = 0
    · have hU0 : U = [] := List.length_eq_zero_iff.1 h0
      refine ⟨(H ++ [some (HO.box [fzL ch])]) ++ [some (.box [fzL ch])], ?_, by simp, ?_, fun q hq _ => ?_⟩
      · have := e_appB_nil (call := call) (q := 24) (H := H ++ [some (HO.box [fzL ch])]) (id := H.length) (n := 1) hb rfl (by decide) (by decide)
        rw [show bV 4 U = .nilS from if_pos h0, this, h0]
        simp
      · rw [List.getElem?_append_right (by simp), hU0]
        simp [bxR]
      · rw [List.getElem?_append_left (by simp; omega), List.getElem?_append_left hq]
    · have hl4 : 4 < H.length := (List.getElem?_eq_some_iff.1 (u4 h0)).1
      have hc4 : Heap.cells? (H ++ [some (HO.box [fzL ch])]) 4 = some (U.map fzL) := cells?_iff.2 (.inr (by rw [List.getElem?_append_left hl4]; exact u4 h0))
      have := e_appB_sl (call := call) (q := 24) (H := H ++ [some (HO.box [fzL ch])]) (id := 4) (id2 := H.length) (n := 1) (k := U.length) hc4 (by rw [List.length_map]) hb rfl (by decide) (by unfold most; omega)
      refine ⟨(H ++ [some (HO.box [fzL ch])]).set 4 none ++ [some (.box (U.map fzL ++ [fzL ch]))], ?_, by simp, ?_, fun q hq hq4 => ?_⟩
      · rw [show bV 4 U = .sl 4 1 0 U.length from if_neg h0, this]
        simp
      · rw [List.getElem?_append_right (by simp)]
        simp [bxR]
      · rw [List.getElem?_append_left (by simp; omega), List.getElem?_set_ne (by have := hq4 h0; omega), List.getElem?_append_left hq]
  obtain ⟨Hc, e3, lc, hcN, hcq⟩ := key
  have hc3 : Hc[3]? = some (some (.box [bV 4 U, bV (4 + (bO U).length) D])) := by rw [hcq 3 (by omega) (by omega), h3]
  have e4 : evE call Hc (.st 1) [.ptr 3 0, .sl (H.length + 1) 1 0 (U.length + 1)] = some (.undef, Hc.set 3 (some (.box [.sl (H.length + 1) 1 0 (U.length + 1), bV (4 + (bO U).length) D]))) := e_stX hc3 (by simp) rfl rfl
  refine ⟨_, Hc, _, _, _, p_ldX h3 rfl, e2, e3, e4, fun gs hg => ?_⟩
  have hq : ∀ q, q < H.length → q ≠ 3 → (U.length ≠ 0 → q ≠ 4) → (Hc.set 3 (some (.box [.sl (H.length + 1) 1 0 (U.length + 1), bV (4 + (bO U).length) D])))[q]? = H[q]? := fun q h1 h2 h4 => by
    rw [List.getElem?_set_ne (Ne.symm h2), hcq q h1 h4]
  have hbU : U.length ≠ 0 → (bO U).length = 1 := fun h => by rw [bO_one h]; rfl
  have hbv : bV (H.length + 1) (U ++ [ch]) = .sl (H.length + 1) 1 0 (U.length + 1) := by
    unfold bV
    rw [if_neg (by simp), List.length_append]; rfl
  refine gcH4 (iu := H.length + 1) (id := 4 + (bO U).length) (by simp; omega) hD hg ((hq 0 (by omega) (by omega) (by omega)).trans g0) ((hq 1 (by omega) (by omega) (by omega)).trans g1) ((hq 2 (by omega) (by omega) (by omega)).trans g2) (by rw [hbv, List.getElem?_set_self (by omega)]) ⟨fun _ => by rw [List.getElem?_set_ne (by omega)]; exact hcN⟩ ⟨fun h => ?_⟩ (by omega) (by omega) (by omega)
  have hdl := (List.getElem?_eq_some_iff.1 (d4 h)).1
  rw [hq _ hdl (by omega) (fun hu => by have := hbU hu; omega)]
  exact d4 h
set_option maxHeartbeats 4000000
theorem fa_start {w E R s} (h : NI w E R s) : FA w E R s 0 [] R :=
  ⟨fun e he => (h.rm e he).2.2, fun _ _ => Int.le_refl _, fun π => h.fl π, ⟨by simp, by simp⟩, by simp, by simp, fun e i _ _ h => by simp at h⟩
theorem fa_cap {w E Ri s t U R} (hn : Net w E) (hr : Rm E Ri) (h : FA w E Ri s t U R) : (∀ e i, e < E.length → eg E e = eU i → R (2 * e + 1) ≤ 1) ∧ ∀ e, e < E.length → R (2 * e + 1) ≤ 1048576 := by
  refine ⟨fun e i he hu => ?_, fun e he => ?_⟩
  · have h1 := h.le e he
    obtain ⟨h2, h3, h4⟩ := hr e he
    rw [hu] at h2
    have : (eU i).c = 1 := rfl
    omega
  · have h1 := h.le e he
    have := hr.le hn (k := 2 * e + 1) (by omega)
    omega
theorem walk60d {w : List Int} {E : List Ed} {Rs : Nat → Int} {s m : Nat} {D : List (List Int)} (hn : Net w E) (hwl : w.length ≤ 60) (hE : E.length ≤ 4500) (hNI : NI w E Rs s) (hs : s ≤ 60) (hD : D.length ≤ 100) (hm : 10000 ≤ m) {env : Env} {G : Go.AM.R → Prop} {KF RF : KT} {XF : Nat → KT} {H0 : Heap}
    (hg0 : gc 0 (looks env [4, 5, 7, 10]) H0 = some ([.ptr 0 0, .ptr 1 0, .int .i64 (s : Int), .ptr 3 0], H4 E Rs [] D))
    (hnext : ∀ env R U, FA w E Rs s s U R → looks env [4, 10] = [.ptr 0 0, .ptr 3 0] → G (evC (evF tab it m) it m sq60_24 0 KF XF RF env (H4 E R U D))) :
    G (evC (evF tab it m) it m (.pre [4, 5, 7, 10] (.seq sp60_25 sq60_24)) 0 KF XF RF env H0) := by
  have e84 := fun {R : Nat → Int} {q : Nat} h1 h2 h3 => f84 (R0 := R) (s := q) hn hwl hE h1 h2 h3 (m := m) (by omega)
  have gI : ∀ R U (a b : Int), U.length ≤ 100 → gc 0 [.ptr 0 0, .ptr 1 0, .ptr 3 0, .int .i64 a, .int .i64 b] (H4 E R U D) = some ([.ptr 0 0, .ptr 1 0, .ptr 3 0, .int .i64 a, .int .i64 b], H4 E R U D) := fun R U a b hU => by
    by_cases h0 : U.length = 0
    · have hb : (bO U).length = 0 := by unfold bO; rw [if_pos h0]; rfl
      exact gcH4 (iu := 9) (id := 4 + (bO U).length) (gs := [.int .i64 a, .int .i64 b]) hU hD (by simp [idFreeL, AV.idFree]) rfl rfl rfl (by rw [show bV 9 U = bV 4 U from by unfold bV; rw [if_pos h0, if_pos h0]]; rfl) ⟨fun h => absurd h0 h⟩ ⟨fun h => h4_d E R h⟩ (by omega) (by omega) (by omega)
    · have hb : (bO U).length = 1 := by rw [bO_one h0]; rfl
      exact gcH4 (iu := 4) (id := 4 + (bO U).length) (gs := [.int .i64 a, .int .i64 b]) hU hD (by simp [idFreeL, AV.idFree]) rfl rfl rfl rfl ⟨fun h => h4_u E R h⟩ ⟨fun h => h4_d E R h⟩ (by omega) (by omega) (by omega)
  generalize evF tab it m = call at *
  refine via (res := ?zr1) ?zw1 ?zg1
  case zw1 =>
    repeat' first
 | (apply s_mov; exact aW)
 | (apply c_nil)
 | (apply c_pre; exact hg0)
 | (apply c_seq)
 | (apply c_reg)
 | (apply c_block)
 | (with_reducible apply k_c)
    exact c_end
  refine loop_P (G := G) (σ := Nat × (Nat → Int) × List (List Int)) (fun t => [.ptr 0 0, .ptr 1 0, .ptr 3 0, .int .i64 (s : Int), .int .i64 (t.1 : Int)]) (fun t => H4 E t.2.1 t.2.2 D) (fun t => t.1 ≤ s ∧ FA w E Rs s t.1 t.2.2 t.2.1) (fun t => s - t.1) ?_ _ (0, Rs, []) _ _ ⟨by dsimp only; omega, fa_start hNI⟩ (by dsimp only; omega) (gI _ _ _ _ (by simp))
  rintro ⟨t, R, U⟩ ⟨ht, hF⟩ K hK
  dsimp only at ht hF hK ⊢
  have hUl := hF.ln
  by_cases hts : t < s
  · obtain ⟨c1, c2⟩ := fa_cap hn hNI.rm hF
    have hst : FI w E R (s - t - 1) 0 [] R := FI.start hF.nn fun π => by rw [hF.fl, show s - t - 1 + 1 = s - t by omega]
    obtain ⟨ch, R', r1, hFI⟩ := e84 hst c1 c2
    have m1 : evE call (H4 E R U D) (.call false true 84) [.ptr 1 0] = some (fzL ch, H4 E R' U D) := callMut_nw (b := 1) (d := 2) (H := H4 E R U D) rfl rfl (by omega) rfl r1 (fzL_free ch)
    have hF' := hF.add hn hts hFI
    have hch := isL_fz ch
    by_cases h0 : ch = []
    · rw [if_pos h0] at hF'
      have hl0 : ch.length = 0 := by rw [h0]; rfl
      have g1 := gI R' U (s : Int) ((t : Int) + 1) (by omega)
      have hK' := hK (t + 1, R', U)
      dsimp only at hK'
      generalize H4 E R' U D = HH at *
      generalize fzL ch = cv at *
      refine via (res := ?zr2) ?zw2 ?zg2
      case zw2 =>
        repeat' first
 | (apply s_mov; exact aW)
 | (apply c_nil)
 | (apply s_lss; exact rfl; all_goals (intro _; try (exfalso; omega)))
 | (apply s_gtr; exact rfl; all_goals (intro _; try (exfalso; omega)))
 | (apply s_add; exact rfl; omega)
 | (apply s_en; exact aO; exact m1)
 | (apply s_len; exact aW; exact aI)
 | (apply c_seq)
 | (apply c_reg)
 | (apply c_block)
 | (apply c_skip)
 | (apply c_condT; exact rfl)
 | (apply c_condF; exact rfl)
 | (with_reducible apply k_c)
        all_goals first
          | (exfalso; omega)
          | exact rfl
      exact hK' _ _ ⟨by omega, hF'⟩ (by omega) g1
    · rw [if_neg h0] at hF'
      have hl0 : ch.length ≠ 0 := fun h => h0 (List.length_eq_zero_iff.1 h)
      obtain ⟨Hb, Hc, Hd, n1, n2, a1, a2, a3, a4, a5⟩ := up_step (call := call) (E := E) (R := R') (U := U) (D := D) (ch := ch) (by omega) hD hl0
      have a6 := a5 [.int .i64 (s : Int), .int .i64 ((t : Int) + 1)] (by simp [idFreeL, AV.idFree])
      have hK' := hK (t + 1, R', U ++ [ch])
      dsimp only at hK'
      clear a5
      generalize H4 E R' U D = HH at *
      generalize fzL ch = cv at *
      refine via (res := ?zr3) ?zw3 ?zg3
      case zw3 =>
        repeat' first
 | (apply s_mov; exact aW)
 | (apply c_nil)
 | (apply s_lss; exact rfl; all_goals (intro _; try (exfalso; omega)))
 | (apply s_gtr; exact rfl; all_goals (intro _; try (exfalso; omega)))
 | (apply s_add; exact rfl; omega)
 | (apply s_en; exact aO; exact m1)
 | (apply s_pn; exact aO; exact a1)
 | (apply s_en; exact aO; exact a2)
 | (apply s_en; exact aO; exact a3)
 | (apply s_st; exact aO; exact a4)
 | (apply s_len; exact aW; exact aI)
 | (apply s_pd; exact aW)
 | (apply c_seq)
 | (apply c_reg)
 | (apply c_block)
 | (apply c_skip)
 | (apply c_condT; exact rfl)
 | (with_reducible apply k_c)
        all_goals first
          | (exfalso; omega)
          | exact rfl
      exact hK' _ _ ⟨by omega, hF'⟩ (by omega) a6
  · obtain rfl : t = s := by omega
    refine via (res := ?zr4) ?zw4 ?zg4
    case zw4 =>
      repeat' first
 | (apply c_nil)
 | (apply s_lss; exact rfl; all_goals (intro _; try (exfalso; omega)))
 | (apply c_seq)
 | (apply c_reg)
 | (apply c_exitH)
 | (apply c_condF; exact rfl)
 | (with_reducible apply k_c)
      all_goals first
        | (exfalso; omega)
        | exact c_end
    exact hnext _ R U hF rfl
set_option maxHeartbeats 4000000
theorem bV_one (i U) : (bV i U).one = true := by unfold bV; split <;> rfl
theorem bV_free (i) (U : List (List Int)) : (bV i U).idFree = decide (U.length = 0) := by
  unfold bV
  split
  · rename_i h; simp [AV.idFree, h]
  · rename_i h; simp only [AV.idFree]; exact (decide_eq_false h).symm
def H5 (U D : List (List Int)) : Heap := [some (.box [.nilS, .nilS]), some (.box [bV 2 U, bV (2 + (bO U).length) D])] ++ (bO U ++ bO D)
def H6 (U D : List (List Int)) : Heap := [some (.box [bV 2 U, bV (2 + (bO U).length) D]), some (.box [bV 2 U, bV (2 + (bO U).length) D])] ++ (bO U ++ bO D)
theorem bx_at {X : Heap} {U D : List (List Int)} : BX (X ++ (bO U ++ bO D)) (X.length) U ∧ BX (X ++ (bO U ++ bO D)) (X.length + (bO U).length) D := by
  refine ⟨⟨fun h => ?_⟩, ⟨fun h => ?_⟩⟩
  · rw [List.getElem?_append_right (Nat.le_refl _), Nat.sub_self, bO_one h]; rfl
  · rw [List.getElem?_append_right (by omega), show X.length + (bO U).length - X.length = (bO U).length by omega, List.getElem?_append_right (Nat.le_refl _), Nat.sub_self, bO_one h]; rfl
theorem bN_mem {i U x} (h : x ∈ bN i U) : x = i ∧ U.length ≠ 0 := by
  unfold bN at h
  split at h
  · simp at h
  · rename_i h0; simp at h; exact ⟨h, h0⟩
theorem bN_nodup (i U) : (bN i U).Nodup := by unfold bN; split <;> simp
theorem bN_pos {pre : List Nat} {iu id : Nat} {U D : List (List Int)} (hp : pre.Nodup) (h1 : ∀ x ∈ pre, x < iu) (h2 : id = iu + (bO U).length) :
    nodupB (pre ++ (bN iu U ++ bN id D)) = true ∧ (U.length ≠ 0 → posOf (pre ++ (bN iu U ++ bN id D)) iu = some pre.length) ∧ (D.length ≠ 0 → posOf (pre ++ (bN iu U ++ bN id D)) id = some (pre.length + (bO U).length)) := by
  have lu : (bN iu U).length = (bO U).length := by rw [bO_len, bN_len]
  have hnd : (pre ++ (bN iu U ++ bN id D)).Nodup := by
    rw [List.nodup_append]
    refine ⟨hp, List.nodup_append.2 ⟨bN_nodup _ _, bN_nodup _ _, fun a ha b hb e => ?_⟩, fun a ha b hb e => ?_⟩
    · obtain ⟨a1, a2⟩ := bN_mem ha
      obtain ⟨b1, b2⟩ := bN_mem hb
      rw [bO_one a2] at h2
      simp at h2
      omega
    · have := h1 a ha
      rcases List.mem_append.1 hb with hb | hb
      · have := (bN_mem hb).1; omega
      · have := (bN_mem hb).1; omega
  have hnb := nodupB_iff.2 hnd
  refine ⟨hnb, fun h => posOf_of_get hnb ?_, fun h => posOf_of_get hnb ?_⟩
  · rw [List.getElem?_append_right (Nat.le_refl _), Nat.sub_self, show bN iu U = [iu] from if_neg h]; rfl
  · rw [List.getElem?_append_right (by omega), List.getElem?_append_right (by omega), lu, show bN id D = [id] from if_neg h]
    simp
theorem gcH5 {E R} {U D : List (List Int)} (hU : U.length ≤ 100) (hD : D.length ≤ 100) : gc 0 [.ptr 0 0, .ptr 3 0] (H4 E R U D) = some ([.ptr 0 0, .ptr 1 0], H5 U D) := by
  have b0 : boxCells (H4 E R U D) 0 = [.nilS, .nilS] := rfl
  have b3 : boxCells (H4 E R U D) 3 = [bV 4 U, bV (4 + (bO U).length) D] := rfl
  obtain ⟨x1, x2⟩ := bx_at (X := [some (.box [.nilS, .nilS]), some (.box [.sl 2 4 0 (2 * E.length)]), some (.data (iL (arcs E R (2 * E.length)))), some (.box [bV 4 U, bV (4 + (bO U).length) D])]) (U := U) (D := D)
  have hu : BX (H4 E R U D) 4 U := x1
  have hd : BX (H4 E R U D) (4 + (bO U).length) D := x2
  obtain ⟨hnb, qu, qd⟩ := bN_pos (pre := [0, 3]) (iu := 4) (id := 4 + (bO U).length) (U := U) (D := D) (by decide) (by simp) rfl
  obtain ⟨φ, hφ⟩ : ∃ φ, [0, 3] ++ (bN 4 U ++ bN (4 + (bO U).length) D) = φ := ⟨_, rfl⟩
  have q0 : posOf φ 0 = some 0 := by rw [← hφ]; exact posOf_of_get hnb rfl
  have q3 : posOf φ 3 = some 1 := by rw [← hφ]; exact posOf_of_get hnb rfl
  rw [hφ] at hnb qu qd
  refine gc_of (φ := φ) ?_ hnb ?_ (Hp := [some (.box [.nilS, .nilS]), some (.box [bV 4 U, bV (4 + (bO U).length) D])] ++ (bO U ++ bO D)) ?_ ?_
  · rw [show reach (H4 E R U D) 400 (rangeL 0 []) (roots (H4 E R U D) (rangeL 0 []) ++ [.ptr 0 0, .ptr 3 0]) = reach (H4 E R U D) 400 [] [.ptr 0 0, .ptr 3 0] from rfl, show (400 : Nat) = (400 - 4 - (U.length + 1) - (D.length + 1)) + (D.length + 1) + (U.length + 1) + 1 + 1 + 1 + 1 by omega]
    rw [reach_newp, if_neg (by simp), b0]
    simp only [List.nil_append, List.cons_append]
    rw [reach_nilS, reach_nilS, reach_newp, if_neg (by simp), b3]
    simp only [List.nil_append, List.cons_append]
    rw [reach_bV hu (fun _ => by simp), reach_bV hd (fun hdl hm => ?_), reach_end, ← hφ]
    · simp
    · rcases List.mem_append.1 hm with hm | hm
      · simp at hm; omega
      · obtain ⟨a1, a2⟩ := bN_mem hm
        rw [bO_one a2] at a1
        simp at a1
  · simp [renL, AV.ren, q0, q3]
  · rw [← hφ, pickO_append, pickO_append, pick_bN hu, pick_bN hd]
    simp [pickO, H4]
  · rw [renH_append, renH_append, renH_bO, renH_bO]
    simp [renH, renO, renL, AV.ren, ren_bV qu, ren_bV qd, H5]
set_option maxHeartbeats 4000000
theorem frz_bV {H : Heap} {i k : Nat} {U : List (List Int)} (h : BX H i U) (hU : U.length ≤ 100) (hk : 105 ≤ k) : frzV H k (bV i U) = some (fzLL U) := by
  obtain ⟨k, rfl⟩ : ∃ j, k = j + 1 := ⟨k - 1, by omega⟩
  unfold bV
  by_cases h0 : U.length = 0
  · rw [if_pos h0, List.length_eq_zero_iff.1 h0]
    simp [frzV, fzLL]
  · rw [if_neg h0, fzLL_ne rfl (by omega)]
    have h1 := h.at_ h0
    have hd : Heap.data? H i = none := by simp [Heap.data?, h1, bxR]
    have hb : Heap.box? H i = some (U.map fzL) := by simp [Heap.box?, h1, bxR]
    have hf : frzL H k (U.map fzL) = some (U.map fzL) := frzL_free H k _ (by simp; omega) (map_fzL_free U)
    have ht : (U.map fzL).take U.length = U.map fzL := List.take_of_length_le (by simp)
    simp [frzV, hd, hb, hf, ht]
theorem fin60 {U D : List (List Int)} (hU : U.length ≤ 100) (hD : D.length ≤ 100) {env : Env} (h4 : look env 4 = .ptr 0 0) : finish 0 [.cell 4 true 2] env (H6 U D) = some (.agg [bV 0 U, bV (bO U).length D], bO U ++ bO D) := by
  obtain ⟨x1, x2⟩ := bx_at (X := [some (.box [bV 2 U, bV (2 + (bO U).length) D]), some (.box [bV 2 U, bV (2 + (bO U).length) D])]) (U := U) (D := D)
  have hu : BX (H6 U D) 2 U := x1
  have hd : BX (H6 U D) (2 + (bO U).length) D := x2
  have hg : gc 0 [.agg [bV 2 U, bV (2 + (bO U).length) D]] (H6 U D) = some ([.agg [bV 0 U, bV (bO U).length D]], bO U ++ bO D) := by
    obtain ⟨hnb, qu, qd⟩ := bN_pos (pre := []) (iu := 2) (id := 2 + (bO U).length) (U := U) (D := D) (by simp) (by simp) rfl
    simp only [List.nil_append, List.length_nil, Nat.zero_add] at hnb qu qd
    by_cases hf : idFreeL [bV 2 U, bV (2 + (bO U).length) D] = true
    · have h1 : U.length = 0 ∧ D.length = 0 := by simpa [idFreeL, bV_free] using hf
      have e1 : U = [] := List.length_eq_zero_iff.1 h1.1
      have e2 : D = [] := List.length_eq_zero_iff.1 h1.2
      subst e1 e2
      rfl
    · refine gc_of (φ := bN 2 U ++ bN (2 + (bO U).length) D) ?_ hnb ?_ (Hp := bO U ++ bO D) ?_ ?_
      · rw [show reach (H6 U D) 400 (rangeL 0 []) (roots (H6 U D) (rangeL 0 []) ++ [.agg [bV 2 U, bV (2 + (bO U).length) D]]) = reach (H6 U D) 400 [] [.agg [bV 2 U, bV (2 + (bO U).length) D]] from rfl, show (400 : Nat) = (399 - (U.length + 1) - (D.length + 1)) + (D.length + 1) + (U.length + 1) + 1 by omega]
        rw [reach_agg, if_neg hf]
        simp only [List.cons_append, List.nil_append]
        rw [reach_bV hu (fun _ => by simp), reach_bV hd (fun hdl hm => ?_), reach_end]
        · simp
        · simp only [List.nil_append] at hm
          obtain ⟨a1, a2⟩ := bN_mem hm
          rw [bO_one a2] at a1
          simp at a1
      · have hr : (AV.agg [bV 2 U, bV (2 + (bO U).length) D]).ren (posOf (bN 2 U ++ bN (2 + (bO U).length) D)) = some (.agg [bV 0 U, bV (bO U).length D]) := by
          rw [AV.ren, if_neg hf]
          simp [renL, ren_bV qu, ren_bV qd]
        simp [renL, hr]
      · rw [pickO_append, pick_bN hu, pick_bN hd]
        rfl
      · rw [renH_append, renH_bO, renH_bO]
        rfl
  have hc : ldc (H6 U D) 2 (.ptr 0 0) = some [bV 2 U, bV (2 + (bO U).length) D] := rfl
  simp only [finish, ress, resOf, h4, hc, Option.bind_some, wholeOf, if_true, Option.map_some, tupOf, hg]
  rfl
def G60 (w : List Int) (k : Nat) (r : Go.AM.R) : Prop := ∃ U D v Hr, r = some (v, Hr) ∧ frzV Hr 140 v = some (.agg [fzLL U, fzLL D]) ∧ RightF w k U D ∧ U.length ≤ 100 ∧ D.length ≤ 100
theorem frz60 {U D : List (List Int)} (hU : U.length ≤ 100) (hD : D.length ≤ 100) : frzV (bO U ++ bO D) 140 (.agg [bV 0 U, bV (bO U).length D]) = some (.agg [fzLL U, fzLL D]) := by
  obtain ⟨x1, x2⟩ := bx_at (X := []) (U := U) (D := D)
  simp only [List.nil_append, List.length_nil, Nat.zero_add] at x1 x2
  rw [show (140 : Nat) = 139 + 1 from rfl, frzV]
  by_cases hf : idFreeL [bV 0 U, bV (bO U).length D] = true
  · have h1 : U.length = 0 ∧ D.length = 0 := by simpa [idFreeL, bV_free] using hf
    have e1 : U = [] := List.length_eq_zero_iff.1 h1.1
    have e2 : D = [] := List.length_eq_zero_iff.1 h1.2
    subst e1 e2
    rw [if_pos hf]
    simp [bV, fzLL]
  · rw [if_neg hf]
    simp [frzL, frz_bV x1 hU, frz_bV x2 hD]
theorem walk60e {w : List Int} {k m : Nat} {E R} {U D : List (List Int)} (hr : RightF w k U D) (hU : U.length ≤ 100) (hD : D.length ≤ 100) {call : CallF} {env : Env} (hlook : looks env [4, 10] = [.ptr 0 0, .ptr 3 0]) {X : Nat → KT} : G60 w k (evC call it m sq60_24 0 (finish 0 [.cell 4 true 2]) X (finish 0 [.cell 4 true 2]) env (H4 E R U D)) := by
  have g0 : gc 0 (looks env [4, 10]) (H4 E R U D) = some ([.ptr 0 0, .ptr 1 0], H5 U D) := by rw [hlook]; exact gcH5 hU hD
  have l0 : evP (H5 U D) (.ld true 2) [.ptr 1 0] = some (.agg [bV 2 U, bV (2 + (bO U).length) D]) := rfl
  have s0 : evE call (H5 U D) (.st 2) [.ptr 0 0, .agg [bV 2 U, bV (2 + (bO U).length) D]] = some (.undef, H6 U D) := by
    have h0 : (H5 U D)[0]? = some (some (.box [.nilS, .nilS])) := rfl
    simp [evE, stAt, AV.cells, oneL, bV_one, h0, putRow, H5, H6]
  refine via (res := ?zr1) ?zw1 ?zg1
  case zw1 =>
    repeat' first
 | (apply c_nil)
 | (apply c_pre; exact g0)
 | (apply s_pn; exact aO; exact l0)
 | (apply s_st; exact aO; exact s0)
 | (apply c_seq)
 | (apply c_reg)
 | (apply c_ret)
 | (with_reducible apply k_c)
    exact rfl
  exact ⟨U, D, _, _, fin60 hU hD rfl, frz60 hU hD, hr, hU, hD⟩
set_option maxHeartbeats 4000000
theorem zr_filter : ∀ P : List (List Int), (zr P).length = (P.filter fun l => decide (l.length ≠ 0)).length
  | [] => rfl
  | r :: P => by
    by_cases h : r.length = 0
    · rw [zr, if_pos h, List.filter_cons_of_neg (by simp only [decide_eq_true_eq]; exact fun h' => h' h), zr_filter P]
    · rw [zr, if_neg h, List.filter_cons_of_pos (by simp only [decide_eq_true_eq]; exact h), List.length_cons, List.length_cons, zr_filter P]
theorem len_flat : ∀ {L : List (List Int)}, (∀ l ∈ L, l ≠ []) → L.length ≤ L.flatten.length
  | [], _ => by simp
  | l :: L, h => by
    have := len_flat (L := L) fun x hx => h x (by simp [hx])
    have h0 : l.length ≠ 0 := fun e => h l (by simp) (List.length_eq_zero_iff.1 e)
    simp only [List.flatten_cons, List.length_append, List.length_cons]
    omega
theorem sN_le1 {f : Nat → Nat} (h : ∀ i, f i ≤ 1) : ∀ n, sN n f ≤ n
  | 0 => Nat.le_refl _
  | n + 1 => by have := sN_le1 h n; have := h n; simp only [sN]; omega
theorem lvs_take (gn n H) : (lvs gn n (H + 1)).take H = lvs gn n H := by
  rw [lvs_succ, List.take_append_of_le_length (by rw [lvs_length]; exact Nat.le_refl _), List.take_of_length_le (by rw [lvs_length]; exact Nat.le_refl _)]
theorem gcH4v {E R} {U D : List (List Int)} {H : Heap} {iu id : Nat} {a : Int} (hU : U.length ≤ 100) (hD : D.length ≤ 100)
    (h0 : H[0]? = some (some (.box [.nilS, .nilS]))) (h1 : H[1]? = some (some (.box [.sl 2 4 0 (2 * E.length)]))) (h2 : H[2]? = some (some (.data (iL (arcs E R (2 * E.length)))))) (h3 : H[3]? = some (some (.box [bV iu U, bV id D])))
    (hu : BX H iu U) (hd : BX H id D) (hiu : 4 ≤ iu) (hid : 4 ≤ id) (hne : iu ≠ id) :
    gc 0 [.ptr 0 0, .ptr 1 0, .int .i64 a, .ptr 3 0] H = some ([.ptr 0 0, .ptr 1 0, .int .i64 a, .ptr 3 0], H4 E R U D) := by
  have b0 : boxCells H 0 = [.nilS, .nilS] := by simp [boxCells, h0]
  have b1 : boxCells H 1 = [.sl 2 4 0 (2 * E.length)] := by simp [boxCells, h1]
  have b2 : boxCells H 2 = [] := by simp [boxCells, h2]
  have b3 : boxCells H 3 = [bV iu U, bV id D] := by simp [boxCells, h3]
  have hiuN : ∀ x ∈ bN iu U, x = iu := fun x hx => by unfold bN at hx; split at hx <;> simp at hx; exact hx
  have hidN : ∀ x ∈ bN id D, x = id := fun x hx => by unfold bN at hx; split at hx <;> simp at hx; exact hx
  have ndu : (bN iu U).Nodup := by unfold bN; split <;> simp
  have ndd : (bN id D).Nodup := by unfold bN; split <;> simp
  have hnd : ([0, 1, 2, 3] ++ (bN iu U ++ bN id D)).Nodup := by
    rw [List.nodup_append]
    refine ⟨by decide, List.nodup_append.2 ⟨ndu, ndd, fun y ha b hb e => hne (by rw [← hiuN y ha, ← hidN b hb, e])⟩, fun a ha b hb e => ?_⟩
    simp at ha
    rcases List.mem_append.1 hb with hb | hb
    · have := hiuN b hb; omega
    · have := hidN b hb; omega
  have hnb := nodupB_iff.2 hnd
  have lu : (bN iu U).length = (bO U).length := by rw [bO_len, bN_len]
  obtain ⟨φ, hφ⟩ : ∃ φ, [0, 1, 2, 3] ++ (bN iu U ++ bN id D) = φ := ⟨_, rfl⟩
  have q0 : posOf φ 0 = some 0 := by rw [← hφ]; exact posOf_of_get hnb rfl
  have q1 : posOf φ 1 = some 1 := by rw [← hφ]; exact posOf_of_get hnb rfl
  have q2 : posOf φ 2 = some 2 := by rw [← hφ]; exact posOf_of_get hnb rfl
  have q3 : posOf φ 3 = some 3 := by rw [← hφ]; exact posOf_of_get hnb rfl
  have qu : U.length ≠ 0 → posOf φ iu = some 4 := fun h => by
    rw [← hφ]
    refine posOf_of_get hnb ?_
    have : bN iu U = [iu] := if_neg h
    rw [this]; rfl
  have qd : D.length ≠ 0 → posOf φ id = some (4 + (bO U).length) := fun h => by
    rw [← hφ]
    refine posOf_of_get hnb ?_
    have : bN id D = [id] := if_neg h
    rw [this, List.getElem?_append_right (by simp), List.getElem?_append_right (by simp; omega), lu]
    simp
  refine gc_of (φ := φ) ?_ (hφ ▸ hnb) ?_ (Hp := [some (.box [.nilS, .nilS]), some (.box [.sl 2 4 0 (2 * E.length)]), some (.data (iL (arcs E R (2 * E.length)))), some (.box [bV iu U, bV id D])] ++ (bO U ++ bO D)) ?_ ?_
  · rw [show reach H 400 (rangeL 0 []) (roots H (rangeL 0 []) ++ [.ptr 0 0, .ptr 1 0, .int .i64 a, .ptr 3 0]) = reach H 400 [] [.ptr 0 0, .ptr 1 0, .int .i64 a, .ptr 3 0] from rfl, show (400 : Nat) = (400 - 7 - (U.length + 1) - (D.length + 1)) + (D.length + 1) + (U.length + 1) + 1 + 1 + 1 + 1 + 1 + 1 + 1 by omega]
    rw [reach_newp, if_neg (by simp), b0]
    simp only [List.nil_append, List.cons_append]
    rw [reach_nilS, reach_nilS, reach_newp, if_neg (by simp), b1]
    simp only [List.nil_append, List.cons_append]
    rw [reach_new, if_neg (by simp), b2]
    simp only [List.nil_append, List.cons_append]
    rw [reach_int, reach_newp, if_neg (by simp), b3]
    simp only [List.nil_append, List.cons_append]
    rw [reach_bV hu (fun _ => by simp; omega), reach_bV hd (fun hdl hm => ?_), reach_end, ← hφ]
    · simp
    · rcases List.mem_append.1 hm with hm | hm
      · simp at hm; omega
      · exact hne (hiuN _ hm).symm
  · simp [renL, AV.ren, q0, q1, q3]
  · rw [← hφ, pickO_append, pickO_append, pick_bN hu, pick_bN hd]
    simp [pickO, h0, h1, h2, h3]
  · rw [renH_append, renH_append, renH_bO, renH_bO]
    simp [renH, renO, renL, AV.ren, q2, ren_bV qu, ren_bV qd, H4]
theorem f60 {x : AV} {w : List Int} (hx : IsL x w) (hw : 0 < w.length) (hl : w.length ≤ 60) {k : Nat} (hk1 : 1 ≤ k) (hk : k ≤ 60) {m : Nat} (hm : 600000000 ≤ m) : G60 w k (evF tab it (m + 1) 60 [x, .int .i64 (k : Int)] []) := by
  have hn := net_ok w
  obtain ⟨E, hEE⟩ : ∃ E, E = nA w w.length := ⟨_, rfl⟩
  rw [← hEE] at hn
  have hE : E.length ≤ 4500 := by
    have := hn.len
    have : w.length * (w.length + 4) ≤ 60 * 64 := Nat.mul_le_mul hl (by omega)
    omega
  refine walk60 hx hw hl hk1 hk hm hEE ?_
  intro u R gn by_ T env hNI hGD hu hstop hlook
  have hre := reach_all hn hw hNI.rm (fun e he => by have := hNI.cap e he; omega) hGD
  have hg1 := hre 1 (by omega)
  by_cases huk : u = k
  · subst huk
    obtain ⟨Hh, hH⟩ : ∃ Hh : Nat, getI gn ((1 : Nat) : Int) = (Hh : Int) := ⟨(getI gn ((1 : Nat) : Int)).toNat, by omega⟩
    obtain ⟨d1, d2⟩ := down_eq hNI hGD hre hk hH
    have hHn : Hh ≤ w.length := by
      have h1 := len_flat d2
      rw [lvs_length, lvs_len] at h1
      exact Nat.le_trans h1 (sN_le1 (fun i => by split <;> omega) _)
    have hM : (zr (lvs gn w.length (Hh + 1))).length = Hh := by rw [zr_filter, d1, lvs_length]
    have hne : ∀ q, (hq : q < (lvs gn w.length (Hh + 1)).length) → q < Hh → (lvs gn w.length (Hh + 1))[q].length ≠ 0 := fun q hq hqH e => by
      rw [lvs_at] at e
      exact d2 (lvn gn w.length (q : Int)) (List.mem_map.2 ⟨q, by simpa using hqH, rfl⟩) (List.length_eq_zero_iff.1 e)
    have hPl := lvs_length gn w.length (Hh + 1)
    have hlast0 : (hq : Hh < (lvs gn w.length (Hh + 1)).length) → (lvs gn w.length (Hh + 1))[Hh].length = 0 := fun hq => by
      refine Classical.byContradiction fun hn0 => ?_
      have : (lvs gn w.length (Hh + 1)).filter (fun l => decide (l.length ≠ 0)) = lvs gn w.length (Hh + 1) := List.filter_eq_self.2 fun l hl => by
        obtain ⟨q, hq, rfl⟩ := List.mem_iff_getElem.1 hl
        refine decide_eq_true ?_
        by_cases h : q < Hh
        · exact hne q hq h
        · have : q = Hh := by omega
          subst this; exact hn0
      rw [d1] at this
      have := congrArg List.length this
      rw [lvs_length, lvs_length] at this
      omega
    refine walk60b hx hl hk (by omega) hGD.gl hH (by omega) (fun i hi => ?_) hlook ?_
    · have := heights hNI hGD hre hk hi
      omega
    · intro env1 hl1
      refine walk60c (P := lvs gn w.length (Hh + 1)) hPl (by omega) (by omega) hne hM (fun r hr => ?_) (by rw [hPl]; exact hl1) ?_ ?_
      · obtain ⟨q, hq, rfl⟩ := List.mem_map.1 hr
        have := lvn_le gn w.length (q : Int)
        omega
      · have hq : Hh < (lvs gn w.length (Hh + 1)).length := by omega
        obtain ⟨nm, c0⟩ := can_get0 (lvs gn w.length (Hh + 1)) (lA Hh + 1) Hh hq
        unfold cZ
        rw [List.getElem?_map, c0]
        simp only [Option.map_some]
        rw [if_pos (hlast0 hq)]
      · intro env2 hl2
        have hDl : (lvs gn w.length Hh).length = Hh := lvs_length _ _ _
        refine walk60d (D := lvs gn w.length Hh) hn hl hE hNI hk (by omega) (by omega) ?_ ?_
        · rw [hl2]
          obtain ⟨f0, f1, f2, f3, f4, f5, f6, f7⟩ := h3_facts (E := E) (R := R) (P := lvs gn w.length (Hh + 1)) (c := Hh) (by omega)
          have hdv : dnV Hh = bV 4 (lvs gn w.length Hh) := by unfold dnV bV; rw [hDl]
          rw [hdv] at f3
          rw [lvs_take] at f4
          by_cases h0 : Hh = 0
          · exact gcH4v (iu := 9) (id := 4) (by simp) (by omega) f0 f1 f2 f3 ⟨fun h => absurd rfl h⟩ ⟨fun h => absurd (hDl.trans h0) h⟩ (by omega) (by omega) (by omega)
          · exact gcH4v (iu := 9) (id := 4) (by simp) (by omega) f0 f1 f2 f3 ⟨fun h => absurd rfl h⟩ ⟨fun _ => f4 h0⟩ (by omega) (by omega) (by omega)
        · intro env3 R' U hF hl3
          have hrt := right_full hNI hGD hw hk hH hF
          rw [d1] at hrt
          exact walk60e hrt (by have := hF.ln; omega) (by omega) hl3
  · have hlow : getI gn ((1 : Nat) : Int) ≤ 0 := hstop.resolve_left huk
    have fx := hx.free
    have g0 : gc 0 (looks env [0, 1, 4, 5, 7, 8]) (H1 E R) = some ([x, .int .i64 (k : Int), .ptr 0 0, .ptr 1 0, .int .i64 (u : Int), .rd 1 (2 + 2 * w.length) (iL gn)], H1 E R) := by
      rw [hlook]
      exact gcH1 (pre := [x, .int .i64 (k : Int)]) (gs := [.int .i64 (u : Int), .rd 1 (2 + 2 * w.length) (iL gn)]) (by simp [idFreeL, AV.idFree, fx]) (by simp) (by simp [idFreeL, AV.idFree])
    have bl : ∀ H, evP H (.bld [.nilS, .nilS] []) [] = some (.agg [.nilS, .nilS]) := fun H => rfl
    have al : ∀ call, evE call (H1 E R) (.alloc false [.nilS, .nilS]) [] = some (.ptr 3 0, H1 E R ++ [some (.box [.nilS, .nilS])]) := fun call => rfl
    have s2 : ∀ call, evE call (H1 E R ++ [some (.box [.nilS, .nilS])]) (.st 2) [.ptr 3 0, .agg [.nilS, .nilS]] = some (.undef, H1 E R ++ [some (.box [.nilS, .nilS])]) := fun call => rfl
    have w4 := fun env hg0 hnext => walk60d (w := w) (E := E) (Rs := R) (s := u) (D := []) hn hl hE hNI (by omega) (by simp) (m := m) (by omega) (env := env) (G := G60 w k) (KF := finish 0 [.cell 4 true 2]) (RF := finish 0 [.cell 4 true 2]) (XF := fun _ _ _ => none) (H0 := H1 E R ++ [some (.box [.nilS, .nilS])]) hg0 hnext
    generalize evF tab it m = call at *
    refine via (res := ?zr1) ?zw1 ?zg1
    case zw1 =>
      repeat' first
 | (apply s_mov; exact aW)
 | (apply c_nil)
 | (apply s_eql; exact rfl; all_goals (intro _; try (exfalso; omega)))
 | (apply c_pre; exact g0)
 | (apply s_pn; exact aO; exact bl _)
 | (apply s_en; exact aO; exact al _)
 | (apply s_st; exact aO; exact s2 _)
 | (apply c_seq)
 | (apply c_reg)
 | (apply c_skip)
 | (apply c_condF; exact rfl)
 | (with_reducible apply k_c)
      all_goals first
        | (exfalso; omega)
        | exact c_end
    refine w4 _ ?_ ?_
    · exact gcH4v (iu := 9) (id := 4) (U := []) (D := []) (by simp) (by simp) rfl rfl rfl rfl ⟨fun h => absurd rfl h⟩ ⟨fun h => absurd rfl h⟩ (by omega) (by omega) (by omega)
    · intro env3 R' U hF hl3
      have hrt := right_few hNI hGD hw (by omega) hu hlow hF
      exact walk60e hrt (by have := hF.ln; omega) (by simp) hl3
end Go.AM.Tb
