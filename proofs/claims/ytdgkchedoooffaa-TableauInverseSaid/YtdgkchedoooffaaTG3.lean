/- A part of the proof: TG3. -/
import Derived.Test.YtdgkchedoooffaaT10
import Derived.Test.YtdgkchedoooffaaTC5
set_option linter.unusedVariables false
set_option linter.unusedSimpArgs false
set_option linter.unusedSectionVars false
namespace Go.AM.Tb
def rdC : List (List (Int × Nat)) → List (Int × Nat)
  | [] => []
  | r :: R => rdC R ++ r
theorem rdC_split : ∀ (P : List (List Int)) (L : List (Int × Nat)), Wd L = rdW P → ∃ C : List (List (Int × Nat)), rdC C = L ∧ C.map Wd = P
  | [], L, h => by
    have : L = [] := by simpa [Wd, rdW] using h
    exact ⟨[], by rw [this]; rfl, rfl⟩
  | r :: R, L, h => by
    unfold Wd at h
    simp only [rdW] at h
    obtain ⟨A, B, rfl, h1, h2⟩ := List.map_eq_append_iff.1 h
    obtain ⟨C, c1, c2⟩ := rdC_split R A h1
    exact ⟨B :: C, by rw [rdC, c1], by rw [List.map_cons, c2]; congr 1⟩
def ind (r : List (Int × Nat)) (j : Nat) : Nat := match r[j]? with
  | some p => if p.2 ≠ 0 then 1 else 0
  | none => 0
theorem cnt_ind : ∀ (r : List (Int × Nat)) (N : Nat), r.length ≤ N → cnt r = sN N (ind r)
  | [], N, _ => by
    have : ∀ N, sN N (ind []) = 0 := by intro N; induction N with
      | zero => rfl
      | succ N ih => rw [sN, ih]; rfl
    rw [this]; rfl
  | p :: r, 0, h => by simp at h
  | p :: r, N + 1, h => by
    have ih := cnt_ind r N (by simpa using h)
    rw [sN_cons]
    have e : (fun j => ind (p :: r) (j + 1)) = ind r := by funext j; simp [ind]
    rw [e, ← ih]
    simp only [cnt, List.countP_cons, ind, List.getElem?_cons_zero, decide_eq_true_eq]
    omega
def colL (C : List (List (Int × Nat))) (j : Nat) : List (Int × Nat) := C.filterMap fun r => r[j]?
def ccol (C : List (List (Int × Nat))) (j : Nat) : Nat := (colL C j).countP fun p => decide (p.2 ≠ 0)
theorem ccol_cons (r C j) : ccol (r :: C) j = ind r j + ccol C j := by
  unfold ccol colL ind
  cases h : r[j]? with
  | none => simp [h]
  | some p =>
    simp only [List.filterMap_cons, h, List.countP_cons, decide_eq_true_eq]
    omega
theorem sN_addf {f g : Nat → Nat} : ∀ c, sN c (fun k => f k + g k) = sN c f + sN c g
  | 0 => rfl
  | c + 1 => by simp only [sN]; rw [sN_addf c]; omega
theorem cnt_cols : ∀ (C : List (List (Int × Nat))) (N : Nat), (∀ r ∈ C, r.length ≤ N) → cnt (rdC C) = sN N (ccol C)
  | [], N, _ => by
    have : ∀ N, sN N (ccol []) = 0 := by intro N; induction N with
      | zero => rfl
      | succ N ih => rw [sN, ih]; rfl
    rw [this]; rfl
  | r :: C, N, h => by
    have e : ccol (r :: C) = fun j => ind r j + ccol C j := by funext j; exact ccol_cons r C j
    rw [e, sN_addf, ← cnt_ind r N (h r (by simp)), ← cnt_cols C N fun s hs => h s (by simp [hs])]
    simp only [rdC, cnt, List.countP_append]
    omega
def hcol (k : Nat) (C : List (List (Int × Nat))) (j : Nat) : Nat := (colL (C.take k) j).length
theorem hcol_sum : ∀ (C : List (List (Int × Nat))) (N : Nat), (∀ r ∈ C, r.length ≤ N) → sN N (fun j => (colL C j).length) = (C.map List.length).sum
  | [], N, _ => by
    have : ∀ N, sN N (fun j => (colL [] j).length) = 0 := by intro N; induction N with
      | zero => rfl
      | succ N ih => rw [sN, ih]; rfl
    rw [this]; rfl
  | r :: C, N, h => by
    have ih := hcol_sum C N fun s hs => h s (by simp [hs])
    have e : (fun j => (colL (r :: C) j).length) = fun j => (if j < r.length then 1 else 0) + (colL C j).length := by
      funext j
      unfold colL
      by_cases hj : j < r.length
      · simp [hj]; omega
      · simp [hj]
    rw [e, sN_addf, ih]
    have : ∀ N, r.length ≤ N → sN N (fun j => if j < r.length then 1 else 0) = r.length := by
      intro N hN
      have lo : ∀ q, q ≤ r.length → sN q (fun j => if j < r.length then 1 else 0) = q := by
        intro q
        induction q with
        | zero => intro _; rfl
        | succ q ih => intro hq; rw [sN, ih (by omega), if_pos (by omega)]
      have hi : ∀ d, sN (r.length + d) (fun j => if j < r.length then 1 else 0) = r.length := by
        intro d
        induction d with
        | zero => exact lo _ (Nat.le_refl _)
        | succ d ih => rw [← Nat.add_assoc, sN, ih, if_neg (by omega)]; omega
      have := hi (N - r.length)
      rwa [show r.length + (N - r.length) = N by omega] at this
    rw [this N (h r (by simp))]
    simp
theorem pigeon : ∀ (k : Nat) (l : List Nat), l.Nodup → (∀ a ∈ l, 1 ≤ a ∧ a ≤ k) → l.length ≤ k
  | 0, l, _, h => by
    rcases l with _ | ⟨a, l⟩
    · simp
    · have := h a (by simp); omega
  | k + 1, l, hn, h => by
    by_cases hk : k + 1 ∈ l
    · have h1 := pigeon k (l.erase (k + 1)) (hn.erase _) fun a ha => by
        have := h a (List.mem_of_mem_erase ha)
        have : a ≠ k + 1 := fun e => by subst e; exact (List.Nodup.not_mem_erase hn) ha
        omega
      rw [List.length_erase_of_mem hk] at h1
      omega
    · have := pigeon k l hn fun a ha => by
        have := h a ha
        have : a ≠ k + 1 := fun e => hk (e ▸ ha)
        omega
      omega
theorem rdC_pair : ∀ (C : List (List (Int × Nat))), Val (rdC C) → C.Pairwise fun r s => ∀ a ∈ r, ∀ b ∈ s, CR b a
  | [], _ => .nil
  | r :: C, h => by
    unfold Val at h
    simp only [rdC] at h
    rw [List.pairwise_append] at h
    refine List.pairwise_cons.2 ⟨fun s hs a ha b hb => h.2.2 b ?_ a ha, rdC_pair C h.1⟩
    have : ∀ C : List (List (Int × Nat)), s ∈ C → b ∈ rdC C := by
      intro C
      induction C with
      | nil => intro h; simp at h
      | cons t C ih =>
        intro h
        simp only [rdC, List.mem_append]
        rcases List.mem_cons.1 h with rfl | h
        · exact .inr hb
        · exact .inl (ih h)
    exact this C hs
theorem tab_pair {P : List (List Int)} (h : Tab P) : P.Pairwise Col := by
  induction P with
  | nil => exact .nil
  | cons r R ih => exact List.pairwise_cons.2 ⟨h.2.all, ih h.tail⟩
theorem ccol_le {C : List (List (Int × Nat))} {k : Nat} (hv : Val (rdC C)) (hk : ∀ a ∈ rdC C, a.2 ≤ k) (ht : Tab (C.map Wd)) (j : Nat) : ccol C j ≤ hcol k C j := by
  have h1 := rdC_pair C hv
  have h2 := List.pairwise_map.1 (tab_pair ht)
  have hmem : ∀ r ∈ C, ∀ a ∈ r, a.2 ≤ k := by
    intro r hr a ha
    refine hk a ?_
    clear hv hk ht h1 h2
    induction C with
    | nil => simp at hr
    | cons t C ih =>
      simp only [rdC, List.mem_append]
      rcases List.mem_cons.1 hr with rfl | hr
      · exact .inr ha
      · exact .inl (ih hr)
  have hnd : (colL C j).Pairwise fun a b => a.2 ≠ 0 → a.2 ≠ b.2 := by
    unfold colL
    rw [List.pairwise_filterMap]
    refine List.Pairwise.imp ?_ (List.Pairwise.and h1 h2)
    rintro r s ⟨h3, h4⟩ a ha b hb h0 he
    obtain ⟨ja, ea⟩ := List.getElem?_eq_some_iff.1 ha
    obtain ⟨jb, eb⟩ := List.getElem?_eq_some_iff.1 hb
    have h5 := h3 a (List.mem_of_getElem? ha) b (List.mem_of_getElem? hb) (by rw [← he]; exact h0) he.symm
    have h6 := h4.2 j (by simpa [Wd] using jb) (by simpa [Wd] using ja)
    simp only [Wd, List.getElem_map] at h6
    rw [ea, eb] at h6
    omega
  have hle : ∀ a ∈ colL C j, a.2 ≤ k := fun a ha => by
    unfold colL at ha
    obtain ⟨r, hr, e⟩ := List.mem_filterMap.1 ha
    exact hmem r hr a (List.mem_of_getElem? e)
  have hc1 : ccol C j ≤ k := by
    unfold ccol
    rw [List.countP_eq_length_filter]
    have hp := pigeon k (((colL C j).filter fun p => decide (p.2 ≠ 0)).map (·.2)) ?_ ?_
    · rwa [List.length_map] at hp
    · rw [List.nodup_iff_pairwise_ne, List.pairwise_map]
      have := List.Pairwise.filter (fun p : Int × Nat => decide (p.2 ≠ 0)) hnd
      refine List.Pairwise.imp_of_mem (fun {a b} ha hb h => ?_) this
      have := (List.mem_filter.1 ha).2
      exact h (by simpa using this)
    · intro a ha
      obtain ⟨p, hp, rfl⟩ := List.mem_map.1 ha
      have h3 := List.mem_filter.1 hp
      have h4 := hle p h3.1
      have : p.2 ≠ 0 := by simpa using h3.2
      omega
  have hc2 : ccol C j ≤ (colL C j).length := List.countP_le_length
  have hpre : min k (colL C j).length ≤ hcol k C j := by
    unfold hcol
    clear hv hk ht h1 hmem hnd hle hc1 hc2
    induction C generalizing k with
    | nil => simp [colL]
    | cons r C ih =>
      obtain ⟨g1, g2⟩ := List.pairwise_cons.1 h2
      rcases k with _ | k
      · simp
      · simp only [List.take_succ_cons]
        by_cases hj : j < r.length
        · have e1 : colL (r :: C) j = r[j] :: colL C j := by simp [colL, hj]
          have e2 : colL (r :: C.take k) j = r[j] :: colL (C.take k) j := by simp [colL, hj]
          rw [e1, e2]
          have := ih (k := k) g2
          simp only [List.length_cons]
          omega
        · have e1 : colL (r :: C) j = [] := by
            unfold colL
            rw [List.filterMap_eq_nil_iff]
            intro s hs
            rcases List.mem_cons.1 hs with rfl | hs
            · simp; omega
            · have := (g1 s hs).1
              simp [Wd] at this
              simp; omega
          rw [e1]
          simp
  omega
theorem greene_up {P : List (List Int)} (ht : Tab P) {k n : Nat} (h : Has k (rdW P) n) : n ≤ ((lens P).take k).sum := by
  obtain ⟨L, hw, hk, hv, hc⟩ := h
  obtain ⟨C, c1, c2⟩ := rdC_split P L hw
  subst c1
  obtain ⟨N, hN⟩ : ∃ N, ∀ r ∈ C, r.length ≤ N := by
    refine ⟨(C.map List.length).sum, fun r hr => ?_⟩
    clear hw hk hv hc c2
    induction C with
    | nil => simp at hr
    | cons t C ih =>
      simp only [List.map_cons, List.sum_cons]
      rcases List.mem_cons.1 hr with rfl | hr
      · omega
      · have := ih hr; omega
  rw [← hc, cnt_cols C N hN]
  have hle : ∀ N, sN N (ccol C) ≤ sN N (hcol k C) := by
    intro N
    induction N with
    | zero => exact Nat.le_refl _
    | succ N ih => have := ccol_le hv hk (by rw [c2]; exact ht) N; simp only [sN]; omega
  refine Nat.le_trans (hle N) ?_
  have := hcol_sum (C.take k) N fun r hr => hN r (List.mem_of_mem_take hr)
  have e : sN N (hcol k C) = ((C.take k).map List.length).sum := this
  rw [e]
  have : (C.take k).map List.length = (lens P).take k := by
    rw [← c2, List.map_take]
    unfold lens
    rw [List.map_map]
    congr 1
    refine List.map_congr_left fun r _ => ?_
    simp [Wd]
  rw [this]
  exact Nat.le_refl _
def colr (k : Nat) : Nat → List (List Int) → List (List (Int × Nat))
  | _, [] => []
  | i, r :: R => r.map (fun v => (v, if i < k then i + 1 else 0)) :: colr k (i + 1) R
theorem greene_lo {P : List (List Int)} (ht : ∀ r ∈ P, Srt r) {k : Nat} : Has k (rdW P) ((lens P).take k).sum := by
  have key : ∀ (P : List (List Int)) (i : Nat), (∀ r ∈ P, Srt r) → Wd (rdC (colr k i P)) = rdW P ∧ (∀ a ∈ rdC (colr k i P), a.2 ≤ k ∧ (a.2 ≠ 0 → i + 1 ≤ a.2)) ∧ Val (rdC (colr k i P)) ∧ cnt (rdC (colr k i P)) = ((lens P).take (k - i)).sum := by
    intro P
    induction P with
    | nil => intro i _; exact ⟨rfl, by simp [colr, rdC], .nil, by simp [colr, rdC, cnt, lens]⟩
    | cons r R ih =>
      intro i hs
      obtain ⟨h1, h2, h3, h4⟩ := ih (i + 1) fun s hs' => hs s (by simp [hs'])
      refine ⟨?_, fun a ha => ?_, ?_, ?_⟩
      · have : Wd (rdC (colr k (i + 1) R) ++ r.map fun v => (v, if i < k then i + 1 else 0)) = Wd (rdC (colr k (i + 1) R)) ++ r := by simp [Wd, List.map_map, Function.comp_def]
        simp only [colr, rdC, rdW]
        rw [this, h1]
      · simp only [colr, rdC, List.mem_append] at ha
        rcases ha with ha | ha
        · have := h2 a ha; exact ⟨this.1, fun h0 => by have := this.2 h0; omega⟩
        · obtain ⟨v, _, rfl⟩ := List.mem_map.1 ha
          dsimp only
          split <;> omega
      · unfold Val
        simp only [colr, rdC]
        rw [List.pairwise_append]
        refine ⟨h3, ?_, fun a ha b hb h0 he => ?_⟩
        · rw [List.pairwise_map]
          exact List.Pairwise.imp (fun h _ _ => h) (hs r (by simp))
        · have := (h2 a ha).2 h0
          obtain ⟨v, _, rfl⟩ := List.mem_map.1 hb
          dsimp only at he
          split at he <;> omega
      · simp only [colr, rdC]
        have e : cnt (rdC (colr k (i + 1) R) ++ r.map fun v => (v, if i < k then i + 1 else 0)) = cnt (rdC (colr k (i + 1) R)) + (if i < k then r.length else 0) := by
          unfold cnt
          rw [List.countP_append]
          congr 1
          rw [List.countP_map]
          by_cases hik : i < k
          · simp only [if_pos hik]
            exact List.countP_eq_length.2 fun v _ => by simp
          · simp only [if_neg hik]
            exact List.countP_eq_zero.2 fun v _ => by simp
        rw [e, h4]
        by_cases hik : i < k
        · rw [if_pos hik]
          obtain ⟨d, hd⟩ : ∃ d, k - i = d + 1 := ⟨k - i - 1, by omega⟩
          rw [hd, show k - (i + 1) = d by omega]
          simp [lens]; omega
        · rw [if_neg hik, show k - i = 0 by omega, show k - (i + 1) = 0 by omega]
          simp
  obtain ⟨h1, h2, h3, h4⟩ := key P 0 ht
  exact ⟨_, h1, fun a ha => (h2 a ha).1, h3, h4⟩
theorem kn_pq (w : List Int) : ∀ i, i ≤ w.length → Kn (w.take i) (rdW (pq w i).1)
  | 0, _ => by simp [pq, rdW]; exact .refl _
  | i + 1, h => by
    have ih := (kn_pq w i (by omega)).cong [] [getI w (i : Int)]
    have hs : w.take (i + 1) = w.take i ++ [getI w (i : Int)] := by
      rw [List.take_succ_eq_append_getElem (by omega), getI_nat]
      simp [List.getD, show i < w.length by omega]
    rw [hs]
    refine Kn.trans (by simpa using ih) ?_
    simp only [pq]
    exact kn_ins _ _ fun r hr => ((pq_ok w i).1.rows r hr).1
theorem greene (w : List Int) (k n : Nat) : Has k w n → n ≤ ((lens (pq w w.length).1).take k).sum := fun h => by
  have := kn_pq w w.length (Nat.le_refl _)
  rw [List.take_length] at this
  exact greene_up (pq_ok w w.length).1 (this.has h)
theorem greene_at (w : List Int) (k : Nat) : Has k w ((lens (pq w w.length).1).take k).sum := by
  have := kn_pq w w.length (Nat.le_refl _)
  rw [List.take_length] at this
  exact this.symm.has (greene_lo fun r hr => ((pq_ok w w.length).1.rows r hr).1)
theorem take_sums {a b : List Nat} (ha : ∀ x ∈ a, x ≠ 0) (hb : ∀ x ∈ b, x ≠ 0) (h : ∀ k, (a.take k).sum = (b.take k).sum) : a = b := by
  induction a generalizing b with
  | nil =>
    rcases b with _ | ⟨y, b⟩
    · rfl
    · have := h 1
      simp at this
      have := hb y (by simp); omega
  | cons x a ih =>
    rcases b with _ | ⟨y, b⟩
    · have := h 1
      simp at this
      have := ha x (by simp); omega
    · have h1 := h 1
      simp at h1
      subst h1
      congr 1
      exact ih (fun z hz => ha z (by simp [hz])) (fun z hz => hb z (by simp [hz])) fun k => by
        have := h (k + 1)
        simp at this
        omega
theorem shape_eq {w w' : List Int} (h : ∀ k n, Has k w n ↔ Has k w' n) : lens (pq w w.length).1 = lens (pq w' w'.length).1 := by
  have pos : ∀ w : List Int, ∀ x ∈ lens (pq w w.length).1, x ≠ 0 := fun w x hx e => by
    subst e
    obtain ⟨r, hr, e⟩ := List.mem_map.1 hx
    exact ((pq_ok w w.length).1.rows r hr).2 (List.length_eq_zero_iff.1 e)
  refine take_sums (pos w) (pos w') fun k => ?_
  have h1 := greene w' k _ ((h k _).1 (greene_at w k))
  have h2 := greene w k _ ((h k _).2 (greene_at w' k))
  omega
end Go.AM.Tb
