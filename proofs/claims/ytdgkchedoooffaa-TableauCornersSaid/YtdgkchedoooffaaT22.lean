/- A part of the proof: T22. -/
import Derived.Test.YtdgkchedoooffaaT21
import Derived.Test.YtdgkchedoooffaaTC5
import Derived.Test.YtdgkchedoooffaaT9
set_option linter.unusedVariables false
set_option linter.unusedSimpArgs false
set_option linter.unusedSectionVars false
namespace Go.AM.Tb
set_option maxHeartbeats 4000000
def ks30 : KS := List.replicate 30 (some .i64)
def mG (l : List (List Int × Int)) : List (AV × AV) := l.map fun e => (.agg (iL e.1), .int .i64 e.2)
def putG (k : List Int) (v : Int) : List (List Int × Int) → List (List Int × Int)
  | [] => [(k, v)]
  | e :: r => if k = e.1 then (k, v) :: r else e :: putG k v r
def findG (k : List Int) : List (List Int × Int) → Option Int
  | [] => none
  | e :: r => if k = e.1 then some e.2 else findG k r
theorem eqCells_iL : ∀ (n : Nat) (a b : List Int), a.length = n → b.length = n → eqCells (List.replicate n (some .i64)) (iL a) (iL b) = some (decide (a = b))
  | 0, a, b, ha, hb => by
    have h1 : a = [] := List.length_eq_zero_iff.1 ha
    have h2 : b = [] := List.length_eq_zero_iff.1 hb
    subst h1 h2; rfl
  | n + 1, [], b, ha, _ => by simp at ha
  | n + 1, _ :: _, [], _, hb => by simp at hb
  | n + 1, a :: r, b :: s, ha, hb => by
    have ih := eqCells_iL n r s (by simpa using ha) (by simpa using hb)
    simp only [List.replicate_succ, iL, List.map_cons, eqCells, and_self, if_true] at ih ⊢
    by_cases h : a = b
    · rw [if_pos h, ih]; simp [h]
    · rw [if_neg h]; simp [h]
theorem keyEq_G {a b : List Int} (ha : a.length = 30) (hb : b.length = 30) : keyEq ks30 (.agg (iL a)) (.agg (iL b)) = some (decide (a = b)) := by
  have := eqCells_iL 30 a b ha hb
  show (if 1 < ks30.length ∧ (iL a).length = ks30.length then eqCells ks30 (iL a) (iL b) else none) = _
  rw [if_pos (by simp [ks30, iL_len, ha])]
  exact this
theorem findM_G {k : List Int} (hk : k.length = 30) : ∀ (l : List (List Int × Int)), (∀ e ∈ l, e.1.length = 30) → findM ks30 (.agg (iL k)) (mG l) = some ((findG k l).map (.int .i64))
  | [], _ => rfl
  | e :: r, h => by
    have ih := findM_G hk r fun x hx => h x (by simp [hx])
    simp only [mG, List.map_cons, findM, findG] at ih ⊢
    rw [keyEq_G hk (h e (by simp)), Option.bind_some]
    by_cases he : k = e.1
    · rw [if_pos (by simpa using he), if_pos he]; rfl
    · rw [if_neg (by simpa using he), if_neg he]; exact ih
theorem putM_G {k : List Int} {v : Int} (hk : k.length = 30) : ∀ (l : List (List Int × Int)), (∀ e ∈ l, e.1.length = 30) → putM ks30 (.agg (iL k)) (.int .i64 v) (mG l) = some (mG (putG k v l))
  | [], _ => rfl
  | e :: r, h => by
    have ih := putM_G (v := v) hk r fun x hx => h x (by simp [hx])
    simp only [mG, List.map_cons, putM, putG] at ih ⊢
    rw [keyEq_G hk (h e (by simp)), Option.bind_some]
    by_cases he : k = e.1
    · rw [if_pos (by simpa using he), if_pos he]; rfl
    · rw [if_neg (by simpa using he), if_neg he, ih]; rfl
theorem findG_put (j k : List Int) (v : Int) : ∀ l, findG j (putG k v l) = if j = k then some v else findG j l
  | [] => by simp [putG, findG]
  | e :: r => by
    simp only [putG]
    split
    · rename_i h
      simp only [findG]
      subst h
      split <;> rfl
    · rename_i h
      simp only [findG, findG_put j k v r]
      split
      · rename_i h2
        subst h2
        rw [if_neg (fun e => h e.symm)]
      · rfl
theorem putG_len {k : List Int} {v : Int} (hk : k.length = 30) : ∀ {l : List (List Int × Int)}, (∀ e ∈ l, e.1.length = 30) → ∀ e ∈ putG k v l, e.1.length = 30
  | [], _ => by intro e he; simp [putG] at he; subst he; exact hk
  | x :: r, h => by
    intro e he
    simp only [putG] at he
    split at he
    · rcases List.mem_cons.1 he with rfl | he
      · exact hk
      · exact h e (by simp [he])
    · rcases List.mem_cons.1 he with rfl | he
      · exact h _ (by simp)
      · exact putG_len hk (fun y hy => h y (by simp [hy])) e he
theorem keyL_len {l : List Int} (h : l.length ≤ 30) : (keyL l).length = 30 := by simp [keyL]; omega
theorem keyL_get {l : List Int} (i : Nat) : getI (keyL l) (i : Int) = getI l (i : Int) := by
  rw [getI_nat, getI_nat]
  unfold keyL
  simp only [List.getD]
  by_cases h : i < l.length
  · rw [List.getElem?_append_left h]
  · rw [List.getElem?_append_right (by omega), List.getElem?_replicate]
    rw [List.getElem?_eq_none (by omega : l.length ≤ i)]
    split <;> rfl
theorem keyL_inj {s t : List Int} (hs : IsSh s) (ht : IsSh t) (h : keyL s = keyL t) : s = t := by
  have hg : ∀ i : Nat, getI s (i : Int) = getI t (i : Int) := fun i => by rw [← keyL_get, h, keyL_get]
  have hl : s.length = t.length := by
    rcases Nat.lt_trichotomy s.length t.length with h1 | h1 | h1
    · have := (ht s.length h1).1
      rw [← hg, getI_out (Nat.le_refl _)] at this; omega
    · exact h1
    · have := (hs t.length h1).1
      rw [hg, getI_out (Nat.le_refl _)] at this; omega
  refine List.ext_getElem hl fun i h1 h2 => ?_
  have := hg i
  rw [getI_nat, getI_nat] at this
  simpa [List.getD, h1, h2] using this
def Knows (es : List (List Int × Int)) : Prop := (∀ e ∈ es, e.1.length = 30) ∧ ∀ s, IsSh s → s ≠ [] → siz s ≤ 30 → ∀ v, findG (keyL s) es = some v → v = (cntS s : Int)
theorem knows_nil : Knows [] := ⟨by simp, fun s _ _ _ v h => by simp [findG] at h⟩
theorem knows_put {es : List (List Int × Int)} (h : Knows es) {s : List Int} (hs : IsSh s) (h3 : siz s ≤ 30) : Knows (putG (keyL s) (cntS s : Int) es) := by
  have hl := keyL_len (l := s) (by have := len_siz hs; omega)
  refine ⟨putG_len hl h.1, fun t ht h0 ht3 v hv => ?_⟩
  rw [findG_put] at hv
  split at hv
  · rename_i e
    have := keyL_inj ht hs e
    subst this
    cases hv; rfl
  · exact h.2 t ht h0 ht3 v hv
theorem flat_iL : ∀ (n : Nat) (a : List Int), a.length = n → flatCells (List.replicate n (some .i64)) (iL a) = true
  | 0, a, h => by have h1 : a = [] := List.length_eq_zero_iff.1 h; subst h1; rfl
  | n + 1, [], h => by simp at h
  | n + 1, a :: r, h => by
    have := flat_iL n r (by simpa using h)
    simpa [List.replicate_succ, iL, flatCells] using this
theorem keyOk_G {k : List Int} (hk : k.length = 30) : keyOk ks30 (.agg (iL k)) = true := by
  show (decide (1 < ks30.length) && flatCells ks30 (iL k)) = true
  have := flat_iL 30 k hk
  unfold ks30
  rw [this]; rfl
theorem e_lkG {call : CallF} {H : Heap} {id : Nat} {es : List (List Int × Int)} {k : List Int} (h : H[id]? = some (some (.map (mG es)))) (hk : k.length = 30) (he : ∀ e ∈ es, e.1.length = 30) : evE call H (.lkM ks30 true (.int .i64 0)) [.mp id, .agg (iL k)] = some (.tup [.int .i64 ((findG k es).getD 0), .bool (findG k es).isSome], H) := by
  simp only [evE, keyOk_G hk, if_true, Heap.map?, h, Option.bind_some, findM_G hk es he, Option.map_some]
  cases findG k es <;> rfl
theorem e_upG {call : CallF} {H : Heap} {id : Nat} {es : List (List Int × Int)} {k : List Int} {v : Int} (h : H[id]? = some (some (.map (mG es)))) (hk : k.length = 30) (he : ∀ e ∈ es, e.1.length = 30) : evE call H (.upM ks30) [.mp id, .agg (iL k), .int .i64 v] = some (.undef, H.set id (some (.map (mG (putG k v es))))) := by
  simp only [evE, keyOk_G hk, AV.idFree, Bool.and_self, if_true, Heap.map?, h, Option.bind_some, putM_G hk es he, Option.map_some]
theorem callMut_mp {call : CallF} {f id : Nat} {H : Heap} {x : AV} {es es' : List (AV × AV)} {c : Int} (h : H[id]? = some (some (.map es))) (hx : x.idFree = true) (hc : call f [.mp 0, x] [some (.map es)] = some (.int .i64 c, [some (.map es')])) :
    callMut call f [.mp id, x] H = some (.int .i64 c, H.set id (some (.map es'))) := by
  have hb : boxCells H id = [] := by simp [boxCells, h]
  have hr : reach H 400 [] [.mp id, x] = [id] := by
    rw [show (400 : Nat) = 398 + 1 + 1 from rfl]
    rw [reach_mp]
    simp only [List.contains_nil, Bool.false_eq_true, if_false, hb, List.nil_append]
    rw [reach_skip hx, reach_end]
  have hs : subHeap [id] [.mp id, x] H = some ([.mp 0, x], [some (.map es)]) := by
    simp [subHeap, nodupB, renL, AV.ren, posOf, ren_self hx, pickO, h, renH, renO]
  simp only [callMut, hr, hs, Option.bind_some, hc]
  simp [AV.ren, renH, renO, writeBack]
end Go.AM.Tb
