/- A part of the proof: QF. -/
import Derived.Test.YtmeajfgjbebkiaaQ8b
set_option linter.unusedSectionVars false
set_option linter.unusedVariables false
set_option linter.unusedSimpArgs false
namespace Go.AM.Pa
/-! lists that are made one by one -/
def fil (n : Nat) (f : Nat → Bool) : List Int := ((List.range n).filter f).map fun (j : Nat) => (j : Int)
theorem fil_succ (n : Nat) (f : Nat → Bool) : fil (n + 1) f = if f n then fil n f ++ [(n : Int)] else fil n f := by
  simp only [fil, List.range_succ, List.filter_append]
  cases h : f n <;> simp [h]
theorem fil_len (n : Nat) (f : Nat → Bool) : (fil n f).length ≤ n := by
  simp only [fil, List.length_map]
  exact Nat.le_trans (List.length_filter_le _ _) (by simp)
theorem fil_mem {n : Nat} {f : Nat → Bool} {v : Nat} : (v : Int) ∈ fil n f ↔ v < n ∧ f v = true := by
  unfold fil
  rw [List.mem_map]
  constructor
  · rintro ⟨a, ha, e⟩
    rw [List.mem_filter, List.mem_range] at ha
    have : a = v := by omega
    rw [← this]; exact ha
  · intro h
    exact ⟨v, by rw [List.mem_filter, List.mem_range]; exact h, rfl⟩
theorem fil_nat {n : Nat} {f : Nat → Bool} {x : Int} (h : x ∈ fil n f) : ∃ v : Nat, x = v ∧ v < n ∧ f v = true := by
  obtain ⟨v, hv, rfl⟩ := List.mem_map.1 h
  rw [List.mem_filter, List.mem_range] at hv
  exact ⟨v, rfl, hv.1, hv.2⟩
theorem fil_congr {n : Nat} {f h : Nat → Bool} (e : ∀ v, v < n → f v = h v) : fil n f = fil n h := by
  unfold fil
  congr 1
  exact List.filter_congr fun v hv => e v (List.mem_range.1 hv)
def owK (l : List AV) : Heap := match l with
  | [] => []
  | _ :: _ => [none]
theorem e_app_own {call : CallF} {Pr : Heap} {l : List AV} {v : AV} {q id : Nat} (hi : id = Pr.length) (hl : l.length < 1000) :
    evE call (Pr ++ owH l) (.app false 1 q) [ownV id l, .rd 1 1 [v]] = some (.sl (id + (owK l).length) 1 0 (l.length + 1), Pr ++ owK l ++ [some (.data (l ++ [v]))]) := by
  subst hi
  rcases l with _ | ⟨a, r⟩
  · have : ¬ most < 1 := by unfold most; omega
    simp [evE, appOf, szOk, lenOf, rowOf, killRow, newRow, ownV, owH, owK, most]
  · have h2 : r.length + 1 + 1 ≤ most := by unfold most; simp at hl; omega
    have h3 : (a :: r).take (r.length + 1) = a :: r := List.take_of_length_le (by simp)
    simp [evE, appOf, szOk, lenOf, rowOf, killRow, newRow, ownV, owH, owK, h2, Heap.data?, h3]
theorem fz_nil : fzL [] = .nilS := by unfold fzL; rfl
theorem asc_len {l : List Int} {n : Nat} (h : Asc l n) : l.length ≤ n := by
  rcases Nat.lt_or_ge n l.length with hlt | hle
  · exfalso
    have key : ∀ i : Nat, i < l.length → (i : Int) ≤ getI l i ∧ getI l i < n := by
      intro i
      induction i with
      | zero =>
        intro hi
        have := h 0 hi
        unfold badAt at this
        simp only [Int.natCast_zero] at this ⊢
        omega
      | succ i ih =>
        intro hi
        have h1 := ih (by omega)
        have := h (i + 1) hi
        unfold badAt at this
        rw [show (((i + 1 : Nat) : Int) - 1) = (i : Int) by omega] at this
        omega
    have := key n hlt
    omega
  · exact hle
end Go.AM.Pa
