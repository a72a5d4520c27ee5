/- A part of the proof: U13. -/
import Derived.Test.YtmegimhfoedcdaaU12
set_option linter.unusedSectionVars false
set_option linter.unusedVariables false
set_option linter.unusedSimpArgs false
namespace Go.AM.Ch
set_option maxHeartbeats 4000000
theorem bIn_len {b : List (List Int)} {v : Nat} : ∀ (k : Nat) (st : List Int × List Nat), (bIn b v k st).1.length = st.1.length
  | 0, st => rfl
  | k + 1, st => by
    simp only [bIn]
    split
    · simp [bIn_len k st]
    · exact bIn_len k st
theorem bfsF_len {b : List (List Int)} {n : Nat} : ∀ (f : Nat) (d : List Int) (dn q : List Nat), (bfsF b n f d dn q).1.length = d.length
  | 0, d, dn, q => rfl
  | f + 1, d, dn, [] => rfl
  | f + 1, d, dn, v :: q => by
    simp only [bfsF]
    rw [bfsF_len f, bIn_len]
theorem dist_len (b : List (List Int)) (q0 : Nat) : (dist b q0).1.length = b.length := by
  unfold dist
  rw [bfsF_len]
  simp [d0]
theorem isL_rd {l : List Int} : IsL (.rd 1 l.length (iL l)) l := .rd l
theorem c84 {x : AV} {b : List (List Int)} (hx : IsLL x b) (hb : Bd b) {q0 : Nat} (hq : q0 < b.length) {m : Nat} (hm : 200 ≤ m) (H : Heap) : callPure (evF tab it m) true 84 [x, .int .i64 (q0 : Int)] H = some (.rd 1 (dist b q0).1.length (iL (dist b q0).1), H) := by
  refine callPure_frz (by simp [idFreeL, AV.idFree, hx.free]) (by simp) (f84 hx hb hq hm) ?_
  have h1 := iL_len (dist b q0).1
  rw [dist_len] at h1 ⊢
  simp [frzV_sl, Heap.data?, h1, List.take_of_length_le]
theorem bfsF_end {b : List (List Int)} {n : Nat} : ∀ (f : Nat) (d : List Int) (dn q : List Nat), Bfs n d dn q → 2 * negs d + q.length ≤ f → Bfs n (bfsF b n f d dn q).1 (bfsF b n f d dn q).2 []
  | 0, d, dn, q, h, hf => by
    have : q = [] := List.eq_nil_of_length_eq_zero (by omega)
    subst this
    exact h
  | f + 1, d, dn, [], h, hf => h
  | f + 1, d, dn, v :: q, h, hf => by
    obtain ⟨a, c⟩ := Bfs.pop (b := b) h
    simp only [bfsF]
    exact bfsF_end f _ _ _ a (by omega)
/-- all places are reached -/
def Conn (b : List (List Int)) : Prop := (dist b 0).2.length = b.length
instance (b : List (List Int)) : Decidable (Conn b) := by unfold Conn; infer_instance
theorem conn_iff {b : List (List Int)} (hn : 0 < b.length) : (-1 : Int) ∉ (dist b 0).1 ↔ Conn b := by
  have hB : Bfs b.length (dist b 0).1 (dist b 0).2 [] := bfsF_end _ _ _ _ (Bfs.init hn) (by
    have := negs_le (d0 b.length 0)
    have hl : (d0 b.length 0).length = b.length := by simp [d0]
    simp only [List.length_cons, List.length_nil]
    omega)
  have hl := dist_len b 0
  unfold Conn
  rw [← hB.done]
  constructor
  · intro h k hk e
    refine h ?_
    rw [← e, getI_nat]
    simp [List.getD, show k < (dist b 0).1.length by omega]
  · intro h hm
    obtain ⟨k, hk, e⟩ := List.getElem_of_mem hm
    refine h k (by omega) ?_
    rw [getI_nat]
    simp [List.getD, hk, e]
end Go.AM.Ch
