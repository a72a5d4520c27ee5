/- A part of the proof: TG2. -/
import Derived.Test.YtdgkchedoooffaaTG1
set_option linter.unusedVariables false
set_option linter.unusedSimpArgs false
set_option linter.unusedSectionVars false
namespace Go.AM.Tb
def fgt (x : Int) : List Int → Nat
  | [] => 0
  | a :: r => if x < a then 0 else fgt x r + 1
def insT : List (List Int) → Int → List (List Int)
  | [], x => [[x]]
  | r :: R, x => if fgt x r < r.length then r.set (fgt x r) x :: insT R (r.getD (fgt x r) 0) else (r ++ [x]) :: R
def insK : List (List Int) → Int → Nat
  | [], x => 0
  | r :: R, x => if fgt x r < r.length then insK R (r.getD (fgt x r) 0) + 1 else 0
def rdW : List (List Int) → List Int
  | [] => []
  | r :: R => rdW R ++ r
def Srt (r : List Int) : Prop := r.Pairwise (· ≤ ·)
theorem fgt_le (x : Int) : ∀ r, fgt x r ≤ r.length
  | [] => by simp [fgt]
  | a :: r => by have := fgt_le x r; simp only [fgt, List.length_cons]; split <;> omega
theorem fgt_split (x : Int) : ∀ r, fgt x r < r.length → ∃ L y M, r = L ++ y :: M ∧ L.length = fgt x r ∧ (∀ l ∈ L, l ≤ x) ∧ x < y
  | [], h => by simp [fgt] at h
  | a :: r, h => by
    simp only [fgt] at h ⊢
    by_cases hx : x < a
    · rw [if_pos hx]; exact ⟨[], a, r, rfl, rfl, by simp, hx⟩
    · rw [if_neg hx] at h ⊢
      obtain ⟨L, y, M, h1, h2, h3, h4⟩ := fgt_split x r (by simpa using h)
      exact ⟨a :: L, y, M, by rw [h1]; rfl, by simp [h2], by intro l hl; rcases List.mem_cons.1 hl with rfl | hl; omega; exact h3 l hl, h4⟩
theorem fgt_end (x : Int) : ∀ r, ¬ fgt x r < r.length → ∀ l ∈ r, l ≤ x
  | [], _ => by simp
  | a :: r, h => by
    simp only [fgt] at h
    by_cases hx : x < a
    · rw [if_pos hx] at h; simp at h
    · rw [if_neg hx] at h
      intro l hl
      rcases List.mem_cons.1 hl with rfl | hl
      · omega
      · exact fgt_end x r (by simpa using h) l hl
theorem set_split {L M : List Int} {x y : Int} : (L ++ y :: M).set L.length x = L ++ x :: M := by
  rw [List.set_append_right _ _ (Nat.le_refl _)]; simp
theorem getD_split {L M : List Int} {y : Int} : (L ++ y :: M).getD L.length 0 = y := by
  simp [List.getD]
theorem kn_m (x : Int) : ∀ (M : List Int) (y : Int), x < y → Srt (y :: M) → Kn (y :: M ++ [x]) (y :: x :: M)
  | [], y, h, _ => .refl _
  | m :: M, y, h, hs => by
    unfold Srt at hs
    rw [List.pairwise_cons] at hs
    have hm : y ≤ m := hs.1 m (by simp)
    have ih := kn_m x M m (by omega) hs.2
    have := ih.cong [y] []
    refine Kn.trans (by simpa using this) ?_
    exact .bw (.refl _) (by simpa using Kn1.b [] M h hm)
theorem kn_l (x y : Int) (h : x < y) : ∀ (L R : List Int), (∀ l ∈ L, l ≤ x) → Srt L → Kn (L ++ y :: x :: R) (y :: (L ++ x :: R))
  | [], R, _, _ => .refl _
  | l :: L, R, hl, hs => by
    unfold Srt at hs
    rw [List.pairwise_cons] at hs
    have ih := (kn_l x y h L R (fun a ha => hl a (by simp [ha])) hs.2).cong [l] []
    refine Kn.trans (by simpa using ih) ?_
    cases L with
    | nil => exact .fw (.refl _) (by simpa using Kn1.a [] R (hl l (by simp)) h)
    | cons c L =>
      have h1 := hs.1 c (by simp)
      have h2 := hl c (by simp)
      exact .fw (.refl _) (by simpa using Kn1.a [] (L ++ x :: R) h1 (show c < y by omega))
theorem kn_row {L M : List Int} {x y : Int} (hs : Srt (L ++ y :: M)) (hl : ∀ l ∈ L, l ≤ x) (h : x < y) : Kn (L ++ y :: M ++ [x]) (y :: (L ++ x :: M)) := by
  unfold Srt at hs
  rw [List.pairwise_append] at hs
  have h1 := (kn_m x M y h hs.2.1).cong L []
  refine Kn.trans (by simpa using h1) ?_
  exact kn_l x y h L M hl hs.1
theorem kn_ins : ∀ (P : List (List Int)) (x : Int), (∀ r ∈ P, Srt r) → Kn (rdW P ++ [x]) (rdW (insT P x))
  | [], x, _ => .refl _
  | r :: R, x, hs => by
    simp only [insT]
    split
    · rename_i h
      obtain ⟨L, y, M, e, e2, h1, h2⟩ := fgt_split x r h
      rw [← e2, e, set_split, getD_split]
      have hr := hs r (by simp)
      rw [e] at hr
      simp only [rdW]
      have k1 := (kn_row hr h1 h2).cong (rdW R) []
      have k2 := (kn_ins R y (fun s h => hs s (by simp [h]))).cong [] (L ++ x :: M)
      simp only [List.append_nil, List.nil_append] at k1 k2
      rw [List.append_assoc]
      refine Kn.trans k1 ?_
      rw [List.append_assoc] at k2
      simpa using k2
    · simp only [rdW]
      rw [List.append_assoc]
      exact .refl _
theorem srt_set {L M : List Int} {x y : Int} (hs : Srt (L ++ y :: M)) (hl : ∀ l ∈ L, l ≤ x) (h : x < y) : Srt (L ++ x :: M) := by
  unfold Srt at hs ⊢
  rw [List.pairwise_append] at hs ⊢
  obtain ⟨h1, h2, h3⟩ := hs
  rw [List.pairwise_cons] at h2 ⊢
  refine ⟨h1, ⟨fun m hm => by have := h2.1 m hm; omega, h2.2⟩, fun a ha b hb => ?_⟩
  rcases List.mem_cons.1 hb with rfl | hb
  · exact hl a ha
  · exact h3 a ha b (by simp [hb])
theorem srt_end {r : List Int} {x : Int} (hs : Srt r) (h : ∀ l ∈ r, l ≤ x) : Srt (r ++ [x]) := by
  unfold Srt at hs ⊢
  rw [List.pairwise_append]
  exact ⟨hs, by simp, fun a ha b hb => by simp at hb; subst hb; exact h a ha⟩
theorem srt_ins : ∀ (P : List (List Int)) (x : Int), (∀ r ∈ P, Srt r ∧ r ≠ []) → ∀ r ∈ insT P x, Srt r ∧ r ≠ []
  | [], x, _ => by intro r hr; simp [insT] at hr; subst hr; exact ⟨by simp [Srt], by simp⟩
  | s :: R, x, hs => by
    intro r hr
    have h0 := hs s (by simp)
    simp only [insT] at hr
    split at hr
    · rename_i h
      rcases List.mem_cons.1 hr with rfl | hr
      · obtain ⟨L, y, M, e, e2, h1, h2⟩ := fgt_split x s h
        rw [← e2, e, set_split]
        rw [e] at h0
        exact ⟨srt_set h0.1 h1 h2, by simp⟩
      · exact srt_ins R _ (fun a ha => hs a (by simp [ha])) r hr
    · rename_i h
      rcases List.mem_cons.1 hr with rfl | hr
      · exact ⟨srt_end h0.1 (fgt_end x s h), by simp⟩
      · exact hs r (by simp [hr])
def Col (r s : List Int) : Prop := s.length ≤ r.length ∧ ∀ i (h : i < s.length) (h' : i < r.length), r[i] < s[i]
def Cch : List Int → List (List Int) → Prop
  | _, [] => True
  | r, s :: R => Col r s ∧ Cch s R
def Tab : List (List Int) → Prop
  | [] => True
  | r :: R => (∀ s ∈ r :: R, Srt s ∧ s ≠ []) ∧ Cch r R
theorem Tab.rows {P} (h : Tab P) : ∀ s ∈ P, Srt s ∧ s ≠ [] := by
  cases P with
  | nil => simp
  | cons r R => exact h.1
theorem Col.trans {r s t} (h : Col r s) (g : Col s t) : Col r t := ⟨Nat.le_trans g.1 h.1, fun i h1 h2 => by have := h.2 i (by have := g.1; omega) h2; have := g.2 i h1 (by have := g.1; omega); omega⟩
theorem Cch.all : ∀ {r R}, Cch r R → ∀ s ∈ R, Col r s
  | r, [], _ => by simp
  | r, t :: R, h => by
    intro s hs
    rcases List.mem_cons.1 hs with rfl | hs
    · exact h.1
    · exact h.1.trans (Cch.all h.2 s hs)
theorem Tab.tail {r R} (h : Tab (r :: R)) : Tab R := by
  cases R with
  | nil => trivial
  | cons s R => exact ⟨fun t ht => h.1 t (by simp [List.mem_cons.1 ht]), h.2.2⟩
theorem cch_ins : ∀ (R : List (List Int)) (L M : List Int) (x y : Int), Srt (L ++ y :: M) → (∀ s ∈ R, Srt s) → Cch (L ++ y :: M) R → x < y → (∀ l ∈ L, l ≤ x) → Cch (L ++ x :: M) (insT R y)
  | [], L, M, x, y, hr, _, _, h, hl => by
    refine ⟨⟨by simp; omega, fun i h1 h2 => ?_⟩, trivial⟩
    simp at h1; subst h1
    cases L with
    | nil => simpa using h
    | cons l L => have := hl l (by simp); simp; omega
  | s :: R, L, M, x, y, hr, hs, hc, h, hl => by
    obtain ⟨c1, c2⟩ := hc
    have hss := hs s (by simp)
    simp only [insT]
    have key : ∀ i (hi : i < s.length), L.length ≤ i → y < s[i] := fun i hi hLi => by
      have h0 : L.length < s.length := by omega
      have h1 := c1.2 L.length h0 (by simp)
      simp at h1
      unfold Srt at hss
      rw [List.pairwise_iff_getElem] at hss
      rcases Nat.lt_or_ge L.length i with h2 | h2
      · have := hss L.length i h0 hi h2; omega
      · obtain rfl : i = L.length := by omega
        exact h1
    have hlow : ∀ i (hi : i < (L ++ x :: M).length), i ≤ L.length → (L ++ x :: M)[i] < y := fun i hi hLi => by
      rcases Nat.lt_or_ge i L.length with h2 | h2
      · rw [List.getElem_append_left h2]
        have := hl _ (List.getElem_mem h2); omega
      · obtain rfl : i = L.length := by omega
        simpa using h
    have hsame : ∀ i (hi : i < (L ++ x :: M).length) (hi' : i < (L ++ y :: M).length), (L ++ x :: M)[i] ≤ (L ++ y :: M)[i] := fun i hi hi' => by
      grind
    split
    · rename_i hq
      obtain ⟨L2, y2, M2, e, e2, h1, h2⟩ := fgt_split y s hq
      rw [← e2, e, set_split, getD_split]
      subst e
      refine ⟨⟨by have := c1.1; simp at this ⊢; omega, fun i g1 g2 => ?_⟩, cch_ins R L2 M2 y y2 hss (fun t ht => hs t (by simp [ht])) c2 h2 h1⟩
      have hle : L2.length ≤ L.length := by
        rcases Nat.lt_or_ge L.length L2.length with h3 | h3
        · have := key L.length (by simp; omega) (Nat.le_refl _)
          rw [List.getElem_append_left h3] at this
          have := h1 _ (List.getElem_mem h3); omega
        · exact h3
      rcases Nat.lt_trichotomy i L2.length with h3 | h3 | h3
      · have a1 := c1.2 i (by simp; omega) (by have := c1.1; simp at this ⊢; omega)
        have a2 := hsame i g2 (by have := c1.1; simp at this ⊢; omega)
        rw [List.getElem_append_left h3] at a1 ⊢
        omega
      · subst h3
        have := hlow L2.length g2 hle
        simpa using this
      · have hi1 : i < (L2 ++ y2 :: M2).length := by simp at g1 ⊢; omega
        have a1 := c1.2 i hi1 (by have := c1.1; omega)
        have a2 := hsame i g2 (by have := c1.1; omega)
        have a3 : (L2 ++ y :: M2)[i] = (L2 ++ y2 :: M2)[i] := by
          rw [List.getElem_append_right (by omega), List.getElem_append_right (by omega)]
          obtain ⟨d, hd⟩ : ∃ d, i - L2.length = d + 1 := ⟨i - L2.length - 1, by omega⟩
          simp only [hd, List.getElem_cons_succ]
        rw [a3]; omega
    · rename_i hq
      have hle : s.length ≤ L.length := by
        rcases Nat.lt_or_ge L.length s.length with h3 | h3
        · have := key L.length h3 (Nat.le_refl _)
          have := fgt_end y s hq _ (List.getElem_mem h3); omega
        · exact h3
      refine ⟨⟨by simp; omega, fun i g1 g2 => ?_⟩, ?_⟩
      · simp at g1
        rcases Nat.lt_or_ge i s.length with h3 | h3
        · rw [List.getElem_append_left h3]
          have a1 := c1.2 i h3 (by have := c1.1; omega)
          have a2 := hsame i g2 (by have := c1.1; omega)
          omega
        · obtain rfl : i = s.length := by omega
          have := hlow s.length g2 hle
          simpa using this
      · cases R with
        | nil => trivial
        | cons t R =>
          refine ⟨⟨by have := c2.1.1; simp; omega, fun i g1 g2 => ?_⟩, c2.2⟩
          have := c2.1.1
          rw [List.getElem_append_left (by omega)]
          exact c2.1.2 i g1 (by omega)
theorem tab_ins {P : List (List Int)} (h : Tab P) (x : Int) : Tab (insT P x) := by
  have hr := srt_ins P x h.rows
  cases P with
  | nil => exact ⟨by intro s hs; exact hr s hs, trivial⟩
  | cons r R =>
    have h0 := (h.1 r (by simp)).1
    simp only [insT] at hr ⊢
    split
    · rename_i hq
      rw [if_pos hq] at hr
      refine ⟨hr, ?_⟩
      obtain ⟨L, y, M, e, e2, h1, h2⟩ := fgt_split x r hq
      rw [← e2, e, set_split, getD_split]
      subst e
      exact cch_ins R L M x y h0 (fun s hs => (h.1 s (by simp [hs])).1) h.2 h2 h1
    · rename_i hq
      rw [if_neg hq] at hr
      refine ⟨hr, ?_⟩
      cases R with
      | nil => trivial
      | cons t R =>
        refine ⟨⟨by have := h.2.1.1; simp; omega, fun i g1 g2 => ?_⟩, h.2.2⟩
        have := h.2.1.1
        rw [List.getElem_append_left (by omega)]
        exact h.2.1.2 i g1 (by omega)
end Go.AM.Tb
