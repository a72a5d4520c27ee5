/- A part of the proof: Q8b. -/
import Derived.Test.YtmeajfgjbebkiaaQ8
set_option linter.unusedSectionVars false
set_option linter.unusedVariables false
set_option linter.unusedSimpArgs false
namespace Go.AM.Pa
theorem awakeM (m : Nat) : evF tab it (m + 200) 23 [] [] = some (.bool true, []) := by kernel_rfl
theorem c23m {m : Nat} (hm : 200 ≤ m) (H : Heap) : callPure (evF tab it m) true 23 [] H = some (.bool true, H) := by
  obtain ⟨j, rfl⟩ : ∃ j, m = j + 200 := ⟨m - 200, by omega⟩
  exact callPure_free rfl (by simp) (awakeM j) rfl
theorem c23 (H : Heap) : callPure (evF tab it 200) true 23 [] H = some (.bool true, H) := c23m (by omega) H
theorem g30_g30 (a : Gm) : g30 (g30 a) = g30 a := by
  simp [g30, List.map_take, List.take_take, Function.comp_def]
theorem g30_row {a : Gm} : ∀ l ∈ (g30 a).next, l.length < 50 := by
  intro l hl
  simp only [g30, List.mem_map] at hl
  obtain ⟨l', -, rfl⟩ := hl
  rw [List.length_take]; omega
theorem g30_len (a : Gm) : (g30 a).owner.length < 50 ∧ (g30 a).rank.length < 50 ∧ (g30 a).next.length < 50 := by
  simp only [g30, List.length_take, List.length_map]; omega
theorem getB_set (b : List Bool) (v : Nat) (x : Bool) (i : Nat) : getB (b.set v x) i = if v = i ∧ v < b.length then x else getB b i := by
  simp only [getB_nat, List.getD]
  rw [List.getElem?_set]
  by_cases h : v = i
  · subst h
    by_cases h2 : v < b.length
    · simp [h2]
    · simp [h2, List.getElem?_eq_none (Nat.le_of_not_lt h2)]
  · simp [h]
theorem getB_ge {b : List Bool} {i : Nat} (h : b.length ≤ i) : getB b i = false := by
  rw [getB_nat]; simp [List.getD, List.getElem?_eq_none h]
theorem truesFrom_eq (b : List Bool) : ∀ d i, truesFrom b d i = (List.range' i d).filter fun (j : Nat) => getB b j
  | 0, i => by simp [truesFrom]
  | d + 1, i => by
    rw [List.range'_succ, List.filter_cons, truesFrom, truesFrom_eq b d (i + 1)]
theorem getB_mark (l : List Int) : ∀ (b : List Bool) (n : Nat), n ≤ b.length → (∀ v ∈ l, 0 ≤ v ∧ v < n) → ∀ i : Nat, getB (mark b l) i = (getB b i || decide ((i : Int) ∈ l)) := by
  induction l with
  | nil => intro b n _ _ i; simp [mark]
  | cons v l ih =>
    intro b n hn hv i
    have h1 := hv v List.mem_cons_self
    have := ih (b.set v.toNat true) n (by simpa using hn) (fun w hw => hv w (List.mem_cons_of_mem _ hw)) i
    rw [mark, List.foldl_cons]
    rw [mark] at this
    rw [this, getB_set]
    by_cases h : v.toNat = i
    · have e : v = (i : Int) := by omega
      have h2 : v.toNat < b.length := by omega
      subst e
      simp
      left
      left
      omega
    · have e : ¬ ((i : Int) = v) := by omega
      simp [h, e]
theorem row_ok {g : Gm} {n : Nat} (hg : Good g) (hnn : g.next.length = n) (v : Nat) (hv : v < n) (i : Nat) (hi : i < (getLL g.next v).length) : 0 ≤ getI (getLL g.next v) i ∧ getI (getLL g.next v) i < n := by
  have h := (hg.2.2.2 v (by omega)).2.2.2 i hi
  unfold badAt at h
  rw [hnn] at h
  omega
section
variable {g : Gm} {n : Nat} (hg : Good g) (hnn : g.next.length = n) {p : Int}
include hg hnn
theorem row_mem {v : Nat} (hv : v < n) : ∀ u ∈ getLL g.next v, 0 ≤ u ∧ u < n := by
  intro u hu
  obtain ⟨i, hi, rfl⟩ := List.getElem_of_mem hu
  have := row_ok hg hnn v hv i hi
  simpa [getI_nat, hi] using this
theorem row_ne {v : Nat} (hv : v < n) : getLL g.next v ≠ [] := (hg.2.2.2 v (by omega)).2.2.1
end
end Go.AM.Pa
