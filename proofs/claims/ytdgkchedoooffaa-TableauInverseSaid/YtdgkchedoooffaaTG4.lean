/- A part of the proof: TG4. -/
import Derived.Test.YtdgkchedoooffaaTG3
set_option linter.unusedVariables false
set_option linter.unusedSimpArgs false
set_option linter.unusedSectionVars false
namespace Go.AM.Tb
def flt (j : Int) (r : List Int) : List Int := r.filter fun v => decide (v ≤ j)
def rs (j : Int) : List (List Int) → List (List Int)
  | [] => []
  | r :: R => if flt j r = [] then [] else flt j r :: rs j R
def PW (w : List Int) : List (List Int) := w.foldl insT []
theorem flt_append (j : Int) (a b : List Int) : flt j (a ++ b) = flt j a ++ flt j b := by simp [flt]
theorem flt_all {j : Int} {r : List Int} (h : ∀ v ∈ r, v ≤ j) : flt j r = r := by
  unfold flt
  rw [List.filter_eq_self]
  intro v hv; simpa using h v hv
theorem flt_none {j : Int} {r : List Int} (h : ∀ v ∈ r, j < v) : flt j r = [] := by
  unfold flt
  rw [List.filter_eq_nil_iff]
  intro v hv
  have := h v hv
  simp; omega
theorem fgt_at_split {L M : List Int} {x y : Int} (h1 : ∀ l ∈ L, l ≤ x) (h2 : x < y) : fgt x (L ++ y :: M) = L.length := by
  induction L with
  | nil => simp [fgt, h2]
  | cons a L ih =>
    have ha := h1 a (by simp)
    simp only [List.cons_append, fgt, List.length_cons]
    rw [if_neg (by omega), ih fun l hl => h1 l (by simp [hl])]
theorem fgt_at_end {L : List Int} {x : Int} (h1 : ∀ l ∈ L, l ≤ x) : fgt x L = L.length := by
  induction L with
  | nil => rfl
  | cons a L ih =>
    have ha := h1 a (by simp)
    simp only [fgt, List.length_cons]
    rw [if_neg (by omega), ih fun l hl => h1 l (by simp [hl])]
theorem low_rows {r : List Int} {R : List (List Int)} {j : Int} (h : Tab (r :: R)) (hj : ∀ v ∈ r, j < v) : ∀ s ∈ R, ∀ v ∈ s, j < v := by
  intro s hs v hv
  have hc := h.2.all s hs
  obtain ⟨i, hi, rfl⟩ := List.mem_iff_getElem.1 hv
  have h1 := hc.2 i hi (by have := hc.1; omega)
  have h2 := hj _ (List.getElem_mem (by have := hc.1; omega : i < r.length))
  omega
theorem rs_low {R : List (List Int)} {j : Int} (h : ∀ s ∈ R, ∀ v ∈ s, j < v) : rs j R = [] := by
  cases R with
  | nil => rfl
  | cons s R => simp only [rs]; rw [if_pos (flt_none (h s (by simp)))]
theorem insT_split {L M : List Int} {x y : Int} {R : List (List Int)} (h1 : ∀ l ∈ L, l ≤ x) (h2 : x < y) : insT ((L ++ y :: M) :: R) x = (L ++ x :: M) :: insT R y := by
  simp only [insT]
  rw [fgt_at_split h1 h2, if_pos (by simp), set_split, getD_split]
theorem insT_end {L : List Int} {x : Int} {R : List (List Int)} (h1 : ∀ l ∈ L, l ≤ x) : insT (L :: R) x = (L ++ [x]) :: R := by
  simp only [insT]
  rw [fgt_at_end h1, if_neg (by omega)]
theorem rs_ins (j : Int) : ∀ (P : List (List Int)) (x : Int), Tab P → rs j (insT P x) = if x ≤ j then insT (rs j P) x else rs j P
  | [], x, _ => by
    simp only [insT, rs]
    by_cases h : x ≤ j
    · rw [if_pos h, flt_all (by simpa using h)]; rfl
    · rw [if_neg h, flt_none (by simp; omega)]; rfl
  | r :: R, x, ht => by
    have hs := (ht.rows r (by simp)).1
    have hne := (ht.rows r (by simp)).2
    have ih := fun y => rs_ins j R y ht.tail
    by_cases hq : fgt x r < r.length
    · obtain ⟨L, y, M, e, e2, h1, h2⟩ := fgt_split x r hq
      subst e
      unfold Srt at hs
      rw [List.pairwise_append, List.pairwise_cons] at hs
      have hM := hs.2.1.1
      rw [insT_split h1 h2]
      simp only [rs]
      by_cases hx : x ≤ j
      · rw [if_pos hx]
        have hL : flt j L = L := flt_all fun v hv => by have := h1 v hv; omega
        by_cases hy : y ≤ j
        · have e1 : flt j (L ++ x :: M) = L ++ x :: flt j M := by rw [flt_append, hL]; simp [flt, hx]
          have e3 : flt j (L ++ y :: M) = L ++ y :: flt j M := by rw [flt_append, hL]; simp [flt, hy]
          rw [e1, e3, if_neg (by simp), if_neg (by simp), insT_split h1 h2, ih, if_pos hy]
        · have hMn : flt j M = [] := flt_none fun v hv => by have := hM v hv; omega
          have e1 : flt j (L ++ x :: M) = L ++ [x] := by rw [flt_append, hL]; simp only [flt, List.filter_cons, hx, decide_true, if_true] at hMn ⊢; rw [hMn]
          have e3 : flt j (L ++ y :: M) = L := by rw [flt_append, hL]; simp only [flt, List.filter_cons, hy, decide_false] at hMn ⊢; rw [if_neg (by simp), hMn, List.append_nil]
          rw [e1, e3, if_neg (by simp), ih, if_neg hy]
          by_cases hL0 : L = []
          · subst hL0
            rw [if_pos rfl, List.nil_append]
            have hlow : ∀ v ∈ [] ++ y :: M, j < v := fun v hv => by
              rcases List.mem_cons.1 hv with rfl | hv
              · omega
              · have := hM v hv; omega
            rw [rs_low (low_rows ht hlow)]
            rfl
          · rw [if_neg hL0, insT_end h1]
      · rw [if_neg hx]
        have e0 : ∀ z, x ≤ z → flt j (L ++ z :: M) = flt j L := fun z hz => by
          rw [flt_append]
          have : flt j (z :: M) = [] := flt_none fun v hv => by
            rcases List.mem_cons.1 hv with rfl | hv
            · omega
            · have := hM v hv; omega
          rw [this, List.append_nil]
        rw [e0 x (Int.le_refl _), e0 y (by omega), ih, if_neg (show ¬ y ≤ j by omega)]
    · have h1 := fgt_end x r hq
      rw [insT_end h1]
      simp only [rs]
      by_cases hx : x ≤ j
      · have e1 : flt j (r ++ [x]) = r ++ [x] := flt_all fun v hv => by
          rcases List.mem_append.1 hv with hv | hv
          · have := h1 v hv; omega
          · simp at hv; omega
        have e2 : flt j r = r := flt_all fun v hv => by have := h1 v hv; omega
        rw [if_pos hx, e1, e2, if_neg (by simp), if_neg hne, insT_end h1]
      · have e1 : flt j (r ++ [x]) = flt j r := by rw [flt_append]; rw [show flt j [x] = [] from flt_none (by simp; omega), List.append_nil]
        rw [if_neg hx, e1]
theorem tab_fold : ∀ (w : List Int) (P : List (List Int)), Tab P → Tab (w.foldl insT P)
  | [], P, h => h
  | x :: w, P, h => tab_fold w _ (tab_ins h x)
theorem rs_fold (j : Int) : ∀ (w : List Int) (P : List (List Int)), Tab P → rs j (w.foldl insT P) = (flt j w).foldl insT (rs j P)
  | [], P, _ => rfl
  | x :: w, P, h => by
    rw [List.foldl_cons, rs_fold j w _ (tab_ins h x), rs_ins j P x h]
    by_cases hx : x ≤ j
    · rw [if_pos hx]; simp [flt, hx]
    · rw [if_neg hx]; simp [flt, hx]
theorem rs_PW (j : Int) (w : List Int) : rs j (PW w) = PW (flt j w) := rs_fold j w [] trivial
theorem pq_PW (w : List Int) : ∀ i, i ≤ w.length → (pq w i).1 = PW (w.take i)
  | 0, _ => by simp [pq, PW]
  | i + 1, h => by
    have hs : w.take (i + 1) = w.take i ++ [getI w (i : Int)] := by
      rw [List.take_succ_eq_append_getElem (by omega), getI_nat]
      simp [List.getD, show i < w.length by omega]
    rw [hs]
    unfold PW
    rw [List.foldl_append]
    simp only [pq, List.foldl_cons, List.foldl_nil]
    rw [pq_PW w i (by omega)]
    rfl
theorem pq_all (w : List Int) : (pq w w.length).1 = PW w := by rw [pq_PW w _ (Nat.le_refl _), List.take_length]
theorem tab_PW (w : List Int) : Tab (PW w) := tab_fold w [] trivial
theorem PW_shape {w w' : List Int} (h : ∀ k n, Has k w n ↔ Has k w' n) : lens (PW w) = lens (PW w') := by
  rw [← pq_all, ← pq_all]; exact shape_eq h
theorem getLL_out {P : List (List Int)} {i : Nat} (h : P.length ≤ i) : getLL P (i : Int) = [] := by rw [getLL_nat]; simp [List.getD, h]
theorem addQ_get {Q : List (List Int)} {k : Nat} {n : Int} {i : Nat} (hk : k ≤ Q.length) : getLL (addQ Q k n) (i : Int) = if i = k then getLL Q (k : Int) ++ [n] else getLL Q (i : Int) := by
  unfold addQ
  by_cases h : k < Q.length
  · rw [if_pos h, getLL_set h]
  · rw [if_neg h]
    obtain rfl : k = Q.length := by omega
    rw [getLL_nat, getLL_nat, getLL_nat]
    simp only [List.getD]
    by_cases hi : i < Q.length
    · rw [List.getElem?_append_left hi, if_neg (by omega)]
    · rw [List.getElem?_append_right (by omega)]
      by_cases h2 : i = Q.length
      · subst h2; simp
      · rw [if_neg h2, List.getElem?_eq_none (by simp; omega), List.getElem?_eq_none (by omega)]
theorem pq_k (w : List Int) (i : Nat) : insK (pq w i).1 (getI w (i : Int)) ≤ (pq w i).2.length := by
  have := (ins_len (pq w i).1 (getI w (i : Int))).2
  have := (pq_len w i).2.1
  omega
theorem pq_Q (w : List Int) : ∀ i (c : Nat), Srt (getLL (pq w i).2 (c : Int)) ∧ ∀ v ∈ getLL (pq w i).2 (c : Int), 1 ≤ v ∧ v ≤ i
  | 0, c => by
    have : getLL (pq w 0).2 (c : Int) = [] := getLL_out (by simp [pq])
    rw [this]; exact ⟨.nil, by simp⟩
  | i + 1, c => by
    obtain ⟨h1, h2⟩ := pq_Q w i c
    simp only [pq]
    rw [addQ_get (pq_k w i)]
    split
    · rename_i e
      rw [← e]
      refine ⟨srt_end h1 fun l hl => by have := h2 l hl; omega, fun v hv => ?_⟩
      rcases List.mem_append.1 hv with hv | hv
      · have := h2 v hv; omega
      · simp at hv; omega
    · exact ⟨h1, fun v hv => by have := h2 v hv; omega⟩
theorem pq_Qf (w : List Int) (j : Nat) : ∀ d (c : Nat), flt (j : Int) (getLL (pq w (j + d)).2 (c : Int)) = getLL (pq w j).2 (c : Int)
  | 0, c => flt_all fun v hv => ((pq_Q w j c).2 v hv).2
  | d + 1, c => by
    have ih := pq_Qf w j d c
    rw [← Nat.add_assoc]
    simp only [pq]
    rw [addQ_get (pq_k w (j + d))]
    split
    · rename_i e
      rw [← e, flt_append, ih, show flt (j : Int) [((j + d : Nat) : Int) + 1] = [] from flt_none (by simp; omega), List.append_nil]
    · exact ih
theorem rs_get (j : Int) : ∀ (P : List (List Int)), Tab P → ∀ c : Nat, getLL (rs j P) (c : Int) = flt j (getLL P (c : Int))
  | [], _, c => by
    rw [getLL_out (P := rs j []) (Nat.zero_le _), getLL_out (P := []) (Nat.zero_le _)]
    rfl
  | r :: R, ht, c => by
    simp only [rs]
    have hlow : flt j r = [] → ∀ s ∈ R, flt j s = [] := fun h s hs => flt_none (low_rows ht (fun v hv => by
      unfold flt at h
      rw [List.filter_eq_nil_iff] at h
      have := h v hv
      simp at this
      omega) s hs)
    rcases c with _ | c
    · have e : getLL (r :: R) ((0 : Nat) : Int) = r := by rw [getLL_nat]; rfl
      rw [e]
      split
      · rename_i h; rw [getLL_out (by simp), h]
      · rw [getLL_nat]; rfl
    · have e : ∀ (a : List Int) (B : List (List Int)), getLL (a :: B) ((c + 1 : Nat) : Int) = getLL B (c : Int) := fun a B => by rw [getLL_nat, getLL_nat]; rfl
      rw [e]
      split
      · rename_i h
        rw [getLL_out (by simp)]
        rcases Nat.lt_or_ge c R.length with h1 | h1
        · rw [hlow h _ (by rw [getLL_get h1]; exact List.getElem_mem _)]
        · rw [getLL_out h1]; rfl
      · rw [e]; exact rs_get j R ht.tail c
theorem srt_ext : ∀ {a b : List Int}, Srt a → Srt b → (∀ j : Int, (flt j a).length = (flt j b).length) → a = b
  | [], [], _, _, _ => rfl
  | [], y :: b, _, _, h => by have := h y; simp [flt] at this
  | x :: a, [], _, _, h => by have := h x; simp [flt] at this
  | x :: a, y :: b, ha, hb, h => by
    unfold Srt at ha hb
    rw [List.pairwise_cons] at ha hb
    have hxy : x = y := by
      have h1 := h x
      have h2 := h y
      rcases Int.lt_trichotomy x y with h3 | h3 | h3
      · have : flt x (y :: b) = [] := flt_none fun v hv => by
          rcases List.mem_cons.1 hv with rfl | hv
          · exact h3
          · have := hb.1 v hv; omega
        rw [this] at h1
        simp [flt] at h1
      · exact h3
      · have : flt y (x :: a) = [] := flt_none fun v hv => by
          rcases List.mem_cons.1 hv with rfl | hv
          · exact h3
          · have := ha.1 v hv; omega
        rw [this] at h2
        simp [flt] at h2
    subst hxy
    congr 1
    refine srt_ext ha.2 hb.2 fun j => ?_
    have := h j
    by_cases hx : x ≤ j
    · have e : ∀ r, flt j (x :: r) = x :: flt j r := fun r => by simp [flt, hx]
      rw [e, e] at this
      simpa using this
    · have e : ∀ r, flt j (x :: r) = flt j r := fun r => by simp [flt, hx]
      rw [e, e] at this
      exact this
theorem getLL_ext {A B : List (List Int)} (hl : A.length = B.length) (h : ∀ c : Nat, getLL A (c : Int) = getLL B (c : Int)) : A = B := by
  refine List.ext_getElem hl fun i h1 h2 => ?_
  have := h i
  rwa [getLL_get h1, getLL_get h2] at this
theorem P_eq_Q {s t : List Int} (hl : t.length = s.length) (ht : ∀ v ∈ t, 1 ≤ v ∧ v ≤ s.length) (h : ∀ j : Nat, j ≤ s.length → lens (PW (flt j t)) = lens (PW (s.take j))) : (pq t t.length).1 = (pq s s.length).2 := by
  rw [pq_all]
  have hlens : ∀ j : Nat, j ≤ s.length → lens (PW (s.take j)) = lens (pq s j).2 := fun j hj => by rw [← pq_PW s j hj, (pq_ok s j).2.1]
  have hlen : (PW t).length = (pq s s.length).2.length := by
    have := h s.length (Nat.le_refl _)
    rw [hlens _ (Nat.le_refl _), flt_all fun v hv => (ht v hv).2] at this
    exact lens_len this
  refine getLL_ext hlen fun c => srt_ext ?_ (pq_Q s _ c).1 fun j => ?_
  · rcases Nat.lt_or_ge c (PW t).length with h1 | h1
    · rw [getLL_get h1]; exact ((tab_PW t).rows _ (List.getElem_mem _)).1
    · rw [getLL_out h1]; exact .nil
  · have key : ∀ j : Nat, j ≤ s.length → (flt j (getLL (PW t) (c : Int))).length = (flt j (getLL (pq s s.length).2 (c : Int))).length := fun j hj => by
      rw [← rs_get _ _ (tab_PW t), rs_PW]
      have e := pq_Qf s j (s.length - j) c
      rw [show j + (s.length - j) = s.length by omega] at e
      rw [e]
      have e2 := h j hj
      rw [hlens j hj] at e2
      rw [getLL_nat, getLL_nat]
      have e3 : ∀ (A : List (List Int)), (A.getD c []).length = (lens A).getD c 0 := fun A => by
        unfold lens
        simp only [List.getD, List.getElem?_map]
        cases A[c]? <;> rfl
      rw [e3, e3, e2]
    rcases Int.lt_or_le j 0 with h1 | h1
    · have e1 : ∀ (A : List Int), (∀ v ∈ A, 1 ≤ v) → flt j A = flt ((0 : Nat) : Int) A := fun A hA => by rw [flt_none fun v hv => by have := hA v hv; omega, flt_none fun v hv => by have := hA v hv; omega]
      have hP1 : ∀ v ∈ getLL (PW t) (c : Int), 1 ≤ v := by
        have : ∀ (w : List Int) (P : List (List Int)), (∀ r ∈ P, ∀ v ∈ r, 1 ≤ v) → (∀ v ∈ w, 1 ≤ v) → ∀ r ∈ w.foldl insT P, ∀ v ∈ r, 1 ≤ v := by
          intro w
          induction w with
          | nil => intro P h _; exact h
          | cons x w ih =>
            intro P h hw
            refine ih _ ?_ fun v hv => hw v (by simp [hv])
            have : ∀ (P : List (List Int)) (x : Int), 1 ≤ x → (∀ r ∈ P, ∀ v ∈ r, 1 ≤ v) → ∀ r ∈ insT P x, ∀ v ∈ r, 1 ≤ v := by
              intro P
              induction P with
              | nil => intro x hx _ r hr v hv; simp [insT] at hr; subst hr; simp at hv; omega
              | cons r R ih2 =>
                intro x hx h q hq v hv
                by_cases hf : fgt x r < r.length
                · obtain ⟨L, y, M, e, e2, h1, h2⟩ := fgt_split x r hf
                  subst e
                  rw [insT_split h1 h2] at hq
                  have hall := h (L ++ y :: M) (by simp)
                  rcases List.mem_cons.1 hq with rfl | hq
                  · rcases List.mem_append.1 hv with hv | hv
                    · exact hall v (by simp [hv])
                    · rcases List.mem_cons.1 hv with rfl | hv
                      · exact hx
                      · exact hall v (by simp [hv])
                  · exact ih2 y (hall y (by simp)) (fun s hs => h s (by simp [hs])) q hq v hv
                · rw [insT_end (fgt_end x r hf)] at hq
                  rcases List.mem_cons.1 hq with rfl | hq
                  · rcases List.mem_append.1 hv with hv | hv
                    · exact h r (by simp) v hv
                    · simp at hv; omega
                  · exact h q (by simp [hq]) v hv
            exact this P x (hw x (by simp)) h
        rcases Nat.lt_or_ge c (PW t).length with h1 | h1
        · rw [getLL_get h1]; exact this t [] (by simp) (fun v hv => (ht v hv).1) _ (List.getElem_mem _)
        · rw [getLL_out h1]; simp
      rw [e1 _ hP1, e1 _ fun v hv => ((pq_Q s _ c).2 v hv).1]
      exact key 0 (Nat.zero_le _)
    · rcases Int.lt_or_le (s.length : Int) j with h2 | h2
      · have hb : ∀ (A : List Int), (∀ v ∈ A, v ≤ s.length) → flt j A = flt ((s.length : Nat) : Int) A := fun A hA => by rw [flt_all fun v hv => by have := hA v hv; omega, flt_all fun v hv => by have := hA v hv; omega]
        have hP2 : flt j (getLL (PW t) (c : Int)) = flt ((s.length : Nat) : Int) (getLL (PW t) (c : Int)) := by
          rw [← rs_get _ _ (tab_PW t), ← rs_get _ _ (tab_PW t), rs_PW, rs_PW, hb t fun v hv => (ht v hv).2]
        rw [hP2, hb _ fun v hv => ((pq_Q s _ c).2 v hv).2]
        exact key s.length (Nat.le_refl _)
      · obtain ⟨q, rfl⟩ : ∃ q : Nat, j = (q : Int) := ⟨j.toNat, by omega⟩
        exact key q (by omega)
end Go.AM.Tb
