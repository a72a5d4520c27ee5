/- A part of the proof: U11. -/
import Derived.Test.YtmegimhfoedcdaaU10
set_option linter.unusedSectionVars false
set_option linter.unusedVariables false
set_option linter.unusedSimpArgs false
namespace Go.AM.Ch
set_option maxHeartbeats 1000000
theorem nodup_len : ∀ {l1 l2 : List Nat}, l1.Nodup → (∀ x ∈ l1, x ∈ l2) → l1.length ≤ l2.length
  | [], _, _, _ => Nat.zero_le _
  | x :: l1, l2, hn, h => by
    obtain ⟨h1, h2⟩ := List.nodup_cons.1 hn
    have hx := h x List.mem_cons_self
    have := nodup_len (l2 := l2.erase x) h2 fun y hy => by
      have hne : y ≠ x := fun e => h1 (e ▸ hy)
      exact (List.mem_erase_of_ne hne).2 (h y (List.mem_cons_of_mem _ hy))
    have e := List.length_erase_of_mem hx
    have hp := List.length_pos_of_mem hx
    simp only [List.length_cons]
    omega
def negs (d : List Int) : Nat := d.countP (fun x => decide (x < 0))
theorem negs_set {d : List Int} {k : Nat} {a : Int} (hk : k < d.length) (h0 : getI d (k : Int) < 0) (ha : 0 ≤ a) : negs (d.set k a) + 1 = negs d := by
  have hk' : d[k] < 0 := by
    rw [getI_nat] at h0
    simpa [List.getD, hk] using h0
  unfold negs
  rw [List.countP_set hk]
  have hp : 0 < d.countP (fun x => decide (x < 0)) := List.countP_pos_iff.2 ⟨d[k], List.getElem_mem hk, by simpa using hk'⟩
  simp only [hk', decide_true, if_true]
  have : ¬ a < 0 := by omega
  simp only [this, decide_false, Bool.false_eq_true, if_false]
  omega
/-- the state of going in breadth: what is reached was gone on from or waits -/
structure Bfs (n : Nat) (d : List Int) (dn q : List Nat) : Prop where
  len : d.length = n
  low : ∀ k : Nat, k < n → -1 ≤ getI d (k : Int)
  nd : (dn ++ q).Nodup
  lt : ∀ v ∈ dn ++ q, v < n
  iff : ∀ k : Nat, k < n → (0 ≤ getI d (k : Int) ↔ k ∈ dn ++ q)
  far : ∀ k : Nat, k < n → getI d (k : Int) ≤ (dn ++ q).length
theorem Bfs.step {n : Nat} {d : List Int} {dn q : List Nat} (h : Bfs n d dn q) {v k : Nat} (hv : v < n) (hk : k < n) (h0 : getI d (k : Int) < 0) (hvd : 0 ≤ getI d (v : Int)) : Bfs n (d.set k (getI d (v : Int) + 1)) dn (q ++ [k]) := by
  have hkl : k < d.length := by rw [h.len]; exact hk
  have hkn : k ∉ dn ++ q := fun hc => by have := (h.iff k hk).2 hc; omega
  have hfv := h.far v hv
  refine ⟨by rw [List.length_set]; exact h.len, fun j hj => ?_, ?_, fun w hw => ?_, fun j hj => ?_, fun j hj => ?_⟩
  · rw [getI_set hkl]
    split
    · omega
    · exact h.low j hj
  · rw [← List.append_assoc, List.nodup_append]
    exact ⟨h.nd, by simp, fun a ha c hc e => by simp at hc; subst hc; subst e; exact hkn ha⟩
  · rw [← List.append_assoc] at hw
    rcases List.mem_append.1 hw with hw | hw
    · exact h.lt w hw
    · simp at hw; subst hw; exact hk
  · rw [getI_set hkl, ← List.append_assoc]
    by_cases e : j = k
    · subst e
      rw [if_pos rfl]
      exact ⟨fun _ => by simp, fun _ => by omega⟩
    · rw [if_neg e, h.iff j hj]
      simp [e]
  · rw [getI_set hkl]
    have : (dn ++ (q ++ [k])).length = (dn ++ q).length + 1 := by simp; omega
    rw [this]
    split
    · push_cast; omega
    · have := h.far j hj; push_cast; omega
/-- the inner round keeps it, and what waits costs what was not reached -/
theorem bIn_ok {n : Nat} {b : List (List Int)} {d : List Int} {dn q : List Nat} {v : Nat} (h : Bfs n d dn q) (hv : v < n) (hvd : 0 ≤ getI d (v : Int)) : ∀ k, k ≤ n →
    Bfs n (bIn b v k (d, q)).1 dn (bIn b v k (d, q)).2 ∧ getI (bIn b v k (d, q)).1 (v : Int) = getI d (v : Int) ∧ 2 * negs (bIn b v k (d, q)).1 + (bIn b v k (d, q)).2.length ≤ 2 * negs d + q.length
  | 0, _ => ⟨h, rfl, Nat.le_refl _⟩
  | k + 1, hk => by
    obtain ⟨h1, h2, h3⟩ := bIn_ok (b := b) h hv hvd k (by omega)
    simp only [bIn]
    split
    · rename_i hc
      have hkl : k < (bIn b v k (d, q)).1.length := by rw [h1.len]; omega
      have hne : v ≠ k := fun e => by subst e; omega
      refine ⟨h1.step hv (by omega) hc.2 (by omega), ?_, ?_⟩
      · rw [getI_set hkl, if_neg hne]; exact h2
      · have := negs_set hkl hc.2 (a := getI (bIn b v k (d, q)).1 (v : Int) + 1) (by omega)
        simp only [List.length_append, List.length_cons, List.length_nil]
        omega
    · exact ⟨h1, h2, h3⟩
/-- going in breadth: distances, and the places in the order they were gone on from -/
def bfsF (b : List (List Int)) (n : Nat) : Nat → List Int → List Nat → List Nat → List Int × List Nat
  | 0, d, dn, _ => (d, dn)
  | _ + 1, d, dn, [] => (d, dn)
  | f + 1, d, dn, v :: q => bfsF b n f (bIn b v n (d, q)).1 (dn ++ [v]) (bIn b v n (d, q)).2
theorem Bfs.pop {n : Nat} {b : List (List Int)} {d : List Int} {dn q : List Nat} {v : Nat} (h : Bfs n d dn (v :: q)) : Bfs n (bIn b v n (d, q)).1 (dn ++ [v]) (bIn b v n (d, q)).2 ∧ 2 * negs (bIn b v n (d, q)).1 + (bIn b v n (d, q)).2.length < 2 * negs d + (v :: q).length := by
  have hv : v < n := h.lt v (by simp)
  have hvd := (h.iff v hv).2 (by simp)
  have e : dn ++ v :: q = dn ++ [v] ++ q := by simp
  have h' : Bfs n d (dn ++ [v]) q := ⟨h.len, h.low, e ▸ h.nd, e ▸ h.lt, e ▸ h.iff, e ▸ h.far⟩
  obtain ⟨a, _, c⟩ := bIn_ok (b := b) h' hv hvd n (Nat.le_refl _)
  exact ⟨a, by simp only [List.length_cons]; omega⟩
/-- in the end: reached all just where all were gone on from -/
theorem Bfs.done {n : Nat} {d : List Int} {dn : List Nat} (h : Bfs n d dn []) : (∀ k : Nat, k < n → getI d (k : Int) ≠ -1) ↔ dn.length = n := by
  have hnd : dn.Nodup := by simpa using h.nd
  have hlt : ∀ v ∈ dn, v < n := fun v hv => h.lt v (by simp [hv])
  have hiff : ∀ k : Nat, k < n → (0 ≤ getI d (k : Int) ↔ k ∈ dn) := fun k hk => by simpa using h.iff k hk
  have hsub : ∀ v ∈ dn, v ∈ List.range n := fun v hv => List.mem_range.2 (hlt v hv)
  have hle := nodup_len hnd hsub
  rw [List.length_range] at hle
  constructor
  · intro ha
    have hsub2 : ∀ k ∈ List.range n, k ∈ dn := fun k hk => by
      have hk := List.mem_range.1 hk
      have := h.low k hk
      have := ha k hk
      exact (hiff k hk).1 (by omega)
    have := nodup_len List.nodup_range hsub2
    rw [List.length_range] at this
    omega
  · intro hn k hk hc
    have hkn : k ∉ dn := fun hm => by have := (hiff k hk).2 hm; omega
    have hnd2 : (k :: dn).Nodup := List.nodup_cons.2 ⟨hkn, hnd⟩
    have hsub3 : ∀ v ∈ (k :: dn), v ∈ List.range n := fun v hv => by
      rcases List.mem_cons.1 hv with rfl | hv
      · exact List.mem_range.2 hk
      · exact hsub v hv
    have := nodup_len hnd2 hsub3
    rw [List.length_range] at this
    simp at this
    omega
end Go.AM.Ch
