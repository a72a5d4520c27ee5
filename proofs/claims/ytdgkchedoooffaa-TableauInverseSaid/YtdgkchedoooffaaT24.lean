/- A part of the proof: T24. -/
import Derived.Test.YtdgkchedoooffaaT6
import Derived.Test.YtdgkchedoooffaaTC4
import Derived.Test.YtdgkchedoooffaaTC5
import Derived.Test.YtdgkchedoooffaaT9
import Derived.Test.YtdgkchedoooffaaM3
set_option linter.unusedVariables false
set_option linter.unusedSimpArgs false
set_option linter.unusedSectionVars false
namespace Go.AM.Tb
set_option maxHeartbeats 4000000
def oL (a : Nat) (l : List Int) : AV := if l.length = 0 then .nilS else .sl a 1 0 l.length
def oLH (l : List Int) : Heap := if l.length = 0 then [] else [some (.data (iL l))]
def oN (l : List Int) : Nat := if l.length = 0 then 0 else 1
def oA (l : List Int) (v : Int) : Heap := if l.length = 0 then [some (.data (iL (l ++ [v])))] else [none, some (.data (iL (l ++ [v])))]
theorem e_appO {call : CallF} {l : List Int} {v : Int} {q : Nat} (hl : l.length < 1000) : evE call (oLH l) (.app false 1 q) [oL 0 l, .rd 1 1 [.int .i64 v]] = some (.sl (oN l) 1 0 (l.length + 1), oA l v) := by
  unfold oL oLH oN oA
  by_cases h : l.length = 0
  · simp only [if_pos h]
    have h1 : l = [] := List.length_eq_zero_iff.1 h
    subst h1
    exact e_app_nil rfl (by decide) (by decide)
  · simp only [if_neg h]
    have := e_app_sl (call := call) (q := q) (id := 0) (H := [some (.data (iL l))]) (bs := [.int .i64 v]) (n := 1) rfl (iL_len _) (by decide) (by unfold most; omega)
    rw [this]
    simp [iL]
theorem oA_get (l : List Int) (v : Int) : (oA l v)[oN l]? = some (some (.data (iL (l ++ [v])))) := by
  unfold oA oN
  split <;> rfl
theorem gcD {pre gs : List AV} {H : Heap} {b n : Nat} {c : List AV} (h : H[b]? = some (some (.data c))) (hp : idFreeL pre = true) (hpl : pre.length ≤ 20) (hg : idFreeL gs = true) : gc 0 (pre ++ .sl b 1 0 n :: gs) H = some (pre ++ .sl 0 1 0 n :: gs, [some (.data c)]) := by
  have hb : boxCells H b = [] := by simp [boxCells, h]
  have hφ : nodupB [b] = true := rfl
  refine gc_of (φ := [b]) ?_ hφ ?_ (Hp := [some (.data c)]) (by simp [pickO, h]) rfl
  · have e : reach H 400 (rangeL 0 []) (roots H (rangeL 0 []) ++ (pre ++ .sl b 1 0 n :: gs)) = reach H ((399 - pre.length) + 1) [] (.sl b 1 0 n :: gs) := by
      rw [show reach H 400 (rangeL 0 []) (roots H (rangeL 0 []) ++ (pre ++ .sl b 1 0 n :: gs)) = reach H 400 [] (pre ++ .sl b 1 0 n :: gs) from rfl, show (400 : Nat) = (399 - pre.length) + 1 + pre.length by omega, reach_pre pre hp]
    rw [e, reach_new]
    simp only [List.contains_nil, Bool.false_eq_true, if_false, hb, List.nil_append]
    rw [reach_free _ _ _ _ hg]
  · rw [renL_append, renL_free _ hp]
    simp [renL, AV.ren, posOf, renL_free _ hg]
theorem gcO {pre gs : List AV} {l : List Int} (hp : idFreeL pre = true) (hpl : pre.length ≤ 20) (hg : idFreeL gs = true) : gc 0 (pre ++ oL 0 l :: gs) (oLH l) = some (pre ++ oL 0 l :: gs, oLH l) := by
  unfold oL oLH
  by_cases h : l.length = 0
  · simp only [if_pos h]
    have hf : ∀ pre : List AV, idFreeL pre = true → idFreeL (pre ++ .nilS :: gs) = true := by
      intro pre
      induction pre with
      | nil => intro _; simpa [idFreeL, AV.idFree] using hg
      | cons v pre ih => intro h; simp only [idFreeL, Bool.and_eq_true, List.cons_append] at h ⊢; exact ⟨h.1, ih h.2⟩
    exact gc_free (hf pre hp) []
  · simp only [if_neg h]
    exact gcD rfl hp hpl hg
theorem oL_snoc (l : List Int) (v : Int) : oL 0 (l ++ [v]) = .sl 0 1 0 (l.length + 1) ∧ oLH (l ++ [v]) = [some (.data (iL (l ++ [v])))] := by
  unfold oL oLH
  simp
end Go.AM.Tb
