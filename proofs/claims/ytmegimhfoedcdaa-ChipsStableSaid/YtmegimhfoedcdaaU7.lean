/- A part of the proof: U7. -/
import Derived.Test.YtmegimhfoedcdaaU6
set_option linter.unusedSectionVars false
set_option linter.unusedVariables false
set_option linter.unusedSimpArgs false
namespace Go.AM.Ch
set_option maxHeartbeats 2000000
theorem p_ixO {H : Heap} {id n i : Nat} (hi : i < n) : evP H (.idxA 1) [.sl id 1 0 n, .int .i64 (i : Int)] = some (.ptr id i) := by
  simp [evP, idxSl, hi]
theorem p_ldO {H : Heap} {id : Nat} {l : List Int} {i : Nat} (h : H.data? id = some (iL l)) (hi : i < l.length) : evP H (.ld false 1) [.ptr id i] = some (.int .i64 (getI l (i : Int))) := by
  have : H.cells? id = some (iL l) := cells_of_data h
  have hl := iL_len l
  have e : ((iL l).drop i).take 1 = [.int .i64 (getI l (i : Int))] := by
    rw [List.drop_eq_getElem_cons (by omega), getI_nat]
    simp [iL, List.getD, hi]
  have hg : getRow H id i 1 = some [.int .i64 (getI l (i : Int))] := by
    unfold getRow
    rw [this, Option.bind_some, if_pos (by omega), e]
  simp [evP, ldc, hg, wholeOf]
theorem e_stO {call : CallF} {H : Heap} {id : Nat} {l : List Int} {i : Nat} {v : Int} (h : H.data? id = some (iL l)) (hi : i < l.length) : evE call H (.st 1) [.ptr id i, .int .i64 v] = some (.undef, H.set id (some (.data (iL (l.set i v))))) := by
  have := e_stI (call := call) (v := v) (i := (i : Int)) h (by simpa using hi)
  simpa using this
theorem getI_set {l : List Int} {i j : Nat} {v : Int} (hi : i < l.length) : getI (l.set i v) (j : Int) = if j = i then v else getI l (j : Int) := by
  rw [getI_nat, getI_nat]
  by_cases h : j = i
  · subst h; simp [List.getD, hi]
  · rw [if_neg h]; simp [List.getD, List.getElem?_set_ne (Ne.symm h)]
/-- what a place gives along its edges -/
def wt (b : List (List Int)) (t : List Int) (v k : Nat) : Int := getI t (v : Int) * getI (getLL b (v : Int)) (k : Int)
theorem mul3 {a c T : Int} (ha : -T ≤ a ∧ a ≤ T) (hc : 0 ≤ c ∧ c ≤ 3) (hT : 0 ≤ T) : -(3 * T) ≤ a * c ∧ a * c ≤ 3 * T := by
  rcases (by omega : c = 0 ∨ c = 1 ∨ c = 2 ∨ c = 3) with rfl | rfl | rfl | rfl <;> omega
/-- the numbers in the middle of apply: at place v, edge k -/
def mid (b : List (List Int)) (s t : List Int) (v k i : Nat) : Int :=
  getI s (i : Int) - (if i < v then sumTo (wt b t i) b.length else if i = v then sumTo (wt b t v) k else 0) + sumTo (fun j => wt b t j i) v + (if i < k then wt b t v i else 0)
theorem mid_zero (b : List (List Int)) (s t : List Int) (i : Nat) : mid b s t 0 0 i = getI s (i : Int) := by
  unfold mid
  by_cases h : i = 0 <;> simp [h, sumTo]
theorem mid_next (b : List (List Int)) (s t : List Int) (v i : Nat) (hi : i < b.length) : mid b s t v b.length i = mid b s t (v + 1) 0 i := by
  unfold mid
  rw [if_pos hi, if_neg (Nat.not_lt_zero i)]
  simp only [sumTo]
  by_cases h1 : i < v
  · rw [if_pos h1, if_pos (by omega)]; omega
  · by_cases h2 : i = v
    · subst h2; rw [if_neg h1, if_pos rfl, if_pos (by omega)]; omega
    · rw [if_neg h1, if_neg h2, if_neg (by omega)]
      by_cases h3 : i = v + 1
      · subst h3; simp [sumTo]; omega
      · rw [if_neg h3]; omega
theorem mid_step (b : List (List Int)) (s t : List Int) (v k i : Nat) : mid b s t v (k + 1) i = mid b s t v k i - (if i = v then wt b t v k else 0) + (if i = k then wt b t v k else 0) := by
  unfold mid
  by_cases h1 : i = v
  · subst h1
    simp only [if_neg (Nat.lt_irrefl i), if_true, sumTo]
    by_cases h2 : i = k
    · subst h2; first | (simp; done) | (simp; omega)
    · by_cases h3 : i < k
      · rw [if_pos h3, if_pos (show i < k + 1 by omega), if_neg h2]; omega
      · rw [if_neg h3, if_neg (show ¬ i < k + 1 by omega), if_neg h2]; omega
  · simp only [if_neg h1]
    by_cases h2 : i = k
    · subst h2; first | (simp; done) | (simp; omega)
    · by_cases h3 : i < k
      · rw [if_pos h3, if_pos (show i < k + 1 by omega), if_neg h2]; omega
      · rw [if_neg h3, if_neg (show ¬ i < k + 1 by omega), if_neg h2]; omega
/-- what a board has at least -/
structure Bd (b : List (List Int)) : Prop where
  len : b.length ≤ 12
  row : ∀ v : Nat, v < b.length → (getLL b (v : Int)).length = b.length
  val : ∀ v k : Nat, v < b.length → k < b.length → 0 ≤ getI (getLL b (v : Int)) (k : Int) ∧ getI (getLL b (v : Int)) (k : Int) ≤ 3
theorem wt_le {b : List (List Int)} {t : List Int} (hb : Bd b) (ht : ∀ v : Nat, v < b.length → -4503599627370496 ≤ getI t (v : Int) ∧ getI t (v : Int) ≤ 4503599627370496) {v k : Nat} (hv : v < b.length) (hk : k < b.length) : -13510798882111488 ≤ wt b t v k ∧ wt b t v k ≤ 13510798882111488 :=
  mul3 (ht v hv) (hb.val v k hv hk) (by omega)
theorem mid_le {b : List (List Int)} {s t : List Int} (hb : Bd b) (ht : ∀ v : Nat, v < b.length → -4503599627370496 ≤ getI t (v : Int) ∧ getI t (v : Int) ≤ 4503599627370496) (hs : ∀ v : Nat, v < b.length → -288230376151711744 ≤ getI s (v : Int) ∧ getI s (v : Int) ≤ 288230376151711744)
    {v k i : Nat} (hv : v < b.length) (hk : k ≤ b.length) (hi : i < b.length) : -1152921504606846976 ≤ mid b s t v k i ∧ mid b s t v k i ≤ 1152921504606846976 := by
  have hl := hb.len
  have a := hs i hi
  have b1 := sumTo_le (f := wt b t i) (M := 13510798882111488) (n := b.length) fun j hj => wt_le hb ht hi hj
  have b2 := sumTo_le (f := wt b t v) (M := 13510798882111488) (n := k) fun j hj => wt_le hb ht hv (by omega)
  have b3 := sumTo_le (f := fun j => wt b t j i) (M := 13510798882111488) (n := v) fun j hj => wt_le hb ht (by omega) hi
  have b4 := wt_le hb ht hv hi
  unfold mid
  generalize sumTo (wt b t i) b.length = A at *
  generalize sumTo (wt b t v) k = B at *
  generalize sumTo (fun j => wt b t j i) v = C at *
  generalize wt b t v i = D at *
  have e1 : (b.length : Int) * 13510798882111488 ≤ 12 * 13510798882111488 := by omega
  have e2 : (k : Int) * 13510798882111488 ≤ 12 * 13510798882111488 := by omega
  have e3 : (v : Int) * 13510798882111488 ≤ 12 * 13510798882111488 := by omega
  (repeat' split) <;> omega
end Go.AM.Ch
