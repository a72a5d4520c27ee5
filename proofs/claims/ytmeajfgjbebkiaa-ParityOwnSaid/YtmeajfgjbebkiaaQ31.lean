/- A part of the proof: Q31. -/
import Derived.Test.YtmeajfgjbebkiaaQ30
set_option linter.unusedSectionVars false
set_option linter.unusedVariables false
set_option linter.unusedSimpArgs false
namespace Go.AM.Pa
/-! the tamed game -/
def tameN (a : Gm) : Nat := (1 + mdF ((g30 a).owner.length - 1) 16).toNat
def tameG (a : Gm) (hi : Int) : Gm :=
  ⟨(List.range (tameN a)).map fun (i : Nat) => mdF (getI (g30 a).owner i) 2, (List.range (tameN a)).map fun (i : Nat) => mdF (getI (g30 a).rank i) hi, (List.range (tameN a)).map fun i => tRow (g30 a) (tameN a) i (tameN a)⟩
theorem tameN_eq (a : Gm) : 1 + mdF ((g30 a).owner.length - 1) 16 = (tameN a : Int) ∧ 1 ≤ tameN a ∧ tameN a ≤ 16 := by
  have := mdF_range (x := (g30 a).owner.length - 1) (n := 16) (by omega)
  unfold tameN
  omega
theorem tameG_len (a : Gm) (hi : Int) : (tameG a hi).owner.length = tameN a ∧ (tameG a hi).rank.length = tameN a ∧ (tameG a hi).next.length = tameN a := by simp [tameG]
theorem c28 {x : AV} {a : Gm} {hi : Int} (hx : IsG x a) (hhi : 1 ≤ hi ∧ hi ≤ 1000) {m : Nat} (hm : 110 ≤ m) (H : Heap) :
    callPure (evF tab it m) true 28 [x, .int .i64 16, .int .i64 hi] H = some (fzG (tameG a hi), H) := by
  obtain ⟨e1, e2, e3⟩ := tameN_eq a
  refine callPure_frz (by simp [idFreeL, hx.free, idf_int]) (by simp) (f28 hx hhi e1 hm) ?_
  obtain ⟨l1, l2, l3⟩ := tameG_len a hi
  rw [fzG, fzL_ne l1 e2, fzL_ne l2 e2, fzLL_ne l3 e2]
  have h1 : iL (tameG a hi).owner = tO (g30 a) (tameN a) := rfl
  have h2 : iL (tameG a hi).rank = tR (g30 a) hi (tameN a) := rfl
  have h3 : (tameG a hi).next.map fzL = tN (g30 a) (tameN a) (tameN a) := by simp [tameG, tN]
  have k1 := tO_len (g30 a) (tameN a)
  have k2 := tR_len (g30 a) hi (tameN a)
  have k3 := tN_len (g30 a) (tameN a) (tameN a)
  rw [h1, h2, h3]
  simp [frzV_agg, frzL_cons, frzL_nil, frzV_sl, idFreeL, idf_sl, Heap.data?, k1, k2, k3, List.take_of_length_le]
theorem range_pair (n : Nat) : (List.range n).Pairwise (· < ·) := List.pairwise_lt_range
theorem asc_filter (n : Nat) (f : Nat → Bool) : Asc (((List.range n).filter f).map fun (j : Nat) => (j : Int)) n := by
  have hp : ((List.range n).filter f).Pairwise (· < ·) := List.Pairwise.filter _ List.pairwise_lt_range
  have hm : ∀ x ∈ (List.range n).filter f, x < n := fun x hx => List.mem_range.1 (List.mem_filter.1 hx).1
  generalize (List.range n).filter f = l at hp hm
  intro i hi hb
  simp only [List.length_map] at hi
  have e : getI (l.map fun (j : Nat) => (j : Int)) (i : Nat) = (l[i] : Nat) := by simp [getI_nat, hi]
  have h1 := hm l[i] (List.getElem_mem hi)
  rcases hb with hb | hb | ⟨h0, hb⟩
  · rw [e] at hb; omega
  · rw [e] at hb; omega
  · rw [show ((i : Int) - 1) = ((i - 1 : Nat) : Int) by omega, e] at hb
    have e2 : getI (l.map fun (j : Nat) => (j : Int)) ((i - 1 : Nat) : Int) = (l[i - 1] : Nat) := by simp [getI_nat, show i - 1 < l.length by omega]
    rw [e2] at hb
    have := List.pairwise_iff_getElem.1 hp (i - 1) i (by omega) hi (by omega)
    omega
theorem getLL_map {n : Nat} {f : Nat → List Int} {i : Nat} (h : i < n) : getLL ((List.range n).map f) i = f i := by
  rw [getLL_nat]; simp [h]
theorem getI_map {n : Nat} {f : Nat → Int} {i : Nat} (h : i < n) : getI ((List.range n).map f) i = f i := by
  rw [getI_nat]; simp [h]
theorem tRow_mem {g : Gm} {n : Int} {i N j : Nat} (h : j < N) (hc : tCnd g n i j = true) : (j : Int) ∈ tRow g n i N :=
  List.mem_map.2 ⟨j, List.mem_filter.2 ⟨List.mem_range.2 h, hc⟩, rfl⟩
theorem tRow_ne (g : Gm) {n i : Nat} (hn : 1 ≤ n ∧ n ≤ 16) (hi : i < n) : tRow g n i n ≠ [] := by
  have key : ∃ j, j < n ∧ tCnd g n i j = true := by
    rcases Nat.lt_or_ge i g.next.length with h | h
    · rcases hu : getLL g.next i with _ | ⟨u, r⟩
      · exact ⟨i, hi, by simp [tCnd, hu, h]⟩
      · have := mdF_range (x := u) (n := n) (by omega)
        refine ⟨(mdF u n).toNat, by omega, ?_⟩
        have e : mdF u n = (((mdF u n).toNat : Nat) : Int) := by omega
        have : tHit g n i (mdF u n).toNat = true := by
          rw [tHit, hu, List.any_cons, ← e]
          simp
        rw [tCnd, this]; simp
    · exact ⟨0, by omega, by simp [tCnd, h]⟩
  obtain ⟨j, hj, hc⟩ := key
  intro e
  have := tRow_mem hj hc
  rw [e] at this
  cases this
theorem tame_good (a : Gm) {hi : Int} (hhi : 1 ≤ hi ∧ hi ≤ 10) : Good (tameG a hi) := by
  obtain ⟨e1, e2, e3⟩ := tameN_eq a
  obtain ⟨l1, l2, l3⟩ := tameG_len a hi
  refine ⟨by omega, by omega, by omega, fun i h => ?_⟩
  rw [l3] at h
  have r1 := mdF_range (x := getI (g30 a).owner i) (n := 2) (by omega)
  have r2 := mdF_range (x := getI (g30 a).rank i) (n := hi) (by omega)
  refine ⟨?_, ?_, ?_, ?_⟩
  · simp only [tameG, getI_map h]; omega
  · simp only [tameG, getI_map h]; omega
  · simp only [tameG, getLL_map h]
    exact tRow_ne _ ⟨e2, e3⟩ h
  · rw [l3]
    simp only [tameG, getLL_map h]
    exact asc_filter _ _
theorem tame_rows (a : Gm) (hi : Int) : (tameG a hi).next.length < 50 ∧ ∀ l ∈ (tameG a hi).next, l.length < 50 := by
  obtain ⟨e1, e2, e3⟩ := tameN_eq a
  obtain ⟨l1, l2, l3⟩ := tameG_len a hi
  refine ⟨by omega, fun l hl => ?_⟩
  simp only [tameG, List.mem_map, List.mem_range] at hl
  obtain ⟨i, hi, rfl⟩ := hl
  have := tRow_len (g30 a) (tameN a) i (tameN a)
  omega
end Go.AM.Pa
