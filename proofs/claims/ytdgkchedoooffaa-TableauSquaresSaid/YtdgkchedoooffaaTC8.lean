/- A part of the proof: TC8. -/
import Derived.Test.YtdgkchedoooffaaTC6
set_option linter.unusedVariables false
set_option linter.unusedSimpArgs false
set_option linter.unusedSectionVars false
namespace Go.AM.Tb
def sqF (tot : Nat) : Nat → List Nat → Nat → Nat → Nat
  | 0, ns, _, _ => (facN tot / hN (fun i => ns.getD i 0) ns.length) * (facN tot / hN (fun i => ns.getD i 0) ns.length)
  | f + 1, ns, left, most => if left = 0 then (facN tot / hN (fun i => ns.getD i 0) ns.length) * (facN tot / hN (fun i => ns.getD i 0) ns.length) else sN (min left most) fun x => sqF tot f (ns ++ [x + 1]) (left - (x + 1)) (x + 1)
theorem sq_all : ∀ n : Fin 13, sqF n.val n.val [] n.val n.val = facN n.val := by decide +kernel
theorem lam_nL (ns : List Nat) : lam (nL ns) = fun i => ns.getD i 0 := by
  funext i
  unfold lam
  rw [nL_get, Int.toNat_natCast]
theorem hN_pos {l : List Int} (h : IsSh l) : 0 < hN (lam l) l.length := by
  have := cnt_hook _ l h rfl
  have hp := facN_pos (siz l)
  exact Nat.pos_of_ne_zero fun e => by rw [e] at this; omega
theorem cnt_div {ns : List Nat} (h : IsSh (nL ns)) : cntS (nL ns) = facN (siz (nL ns)) / hN (fun i => ns.getD i 0) ns.length := by
  have h1 := cnt_hook _ _ h rfl
  have h2 := hN_pos h
  rw [lam_nL, nL_len] at h1 h2
  rw [← h1, Nat.mul_div_cancel _ h2]
theorem sh_snoc {ns : List Nat} {most x : Nat} (h : IsSh (nL ns)) (hm : ∀ a ∈ ns, most ≤ a) (hx : x ≤ most) (h1 : 1 ≤ x) : IsSh (nL (ns ++ [x])) := by
  intro j hj
  rw [nL_len] at hj
  have e : ∀ i, i < ns.length → (ns ++ [x]).getD i 0 = ns.getD i 0 := fun i hi => by simp [List.getD, List.getElem?_append_left hi]
  rw [nL_get]
  rcases Nat.lt_or_ge j ns.length with h2 | h2
  · have := h j (by rw [nL_len]; exact h2)
    rw [nL_get] at this
    rw [e j h2]
    refine ⟨this.1, fun h0 => ?_⟩
    have := this.2 h0
    rw [nL_get, e _ (by omega)]
    rwa [nL_get] at this
  · have hj' : j = ns.length := by simp at hj; omega
    subst hj'
    have ex : (ns ++ [x]).getD ns.length 0 = x := by simp [List.getD]
    rw [ex]
    refine ⟨by omega, fun h0 => ?_⟩
    rw [nL_get, e _ (by omega)]
    have := hm _ (getD_mem (ns := ns) (i := ns.length - 1) (d := 0) (by omega))
    omega
theorem siz_snoc (ns : List Nat) (x : Nat) : siz (nL (ns ++ [x])) = siz (nL ns) + x := by
  unfold siz
  rw [nL_len, nL_len, lam_nL, lam_nL, List.length_append, List.length_singleton, sN]
  have : (ns ++ [x]).getD ns.length 0 = x := by simp [List.getD]
  simp only [this]
  congr 1
  exact sN_congr _ fun i hi => by simp [List.getD, List.getElem?_append_left hi]
theorem sN_le {f : Nat → Nat} {m i : Nat} (h : i < m) : f i ≤ sN m f := by
  induction m with
  | zero => omega
  | succ m ih =>
    rw [sN]
    rcases Nat.lt_or_ge i m with h1 | h1
    · have := ih h1; omega
    · obtain rfl : i = m := by omega
      omega
end Go.AM.Tb
