/- A part of the proof: U25. -/
import Derived.Test.YtmegimhfoedcdaaU14
import Derived.Test.YtmegimhfoedcdaaU24
set_option linter.unusedSectionVars false
set_option linter.unusedVariables false
set_option linter.unusedSimpArgs false
namespace Go.AM.Ch
set_option maxHeartbeats 1000000
/-- the edges of a board -/
def ed (b : List (List Int)) (i j : Nat) : Int := getI (getLL b (i : Int)) (j : Int)
def gf (l : List Int) (i : Nat) : Int := getI l (i : Int)
theorem gr_of {b : List (List Int)} (h : IsB b) : Gr b.length (ed b) :=
  ⟨h.bd.len, fun i j hi hj => (h.bd.val i j hi hj).1, fun i j hi hj => (h.bd.val i j hi hj).2, fun i j hi hj => h.sym i j hi hj⟩
theorem deg_sumI {b : List (List Int)} (h : Bd b) {i : Nat} (hi : i < b.length) : sumI (getLL b (i : Int)) = deg b.length (ed b) i := by
  unfold sumI deg
  rw [h.row i hi]
  rfl
theorem apl_ap {b : List (List Int)} (h : IsB b) (s t : List Int) {i : Nat} (hi : i < b.length) : getI (apl b s t) (i : Int) = ap b.length (ed b) (gf s) (gf t) i := by
  have e : getI (apl b s t) (i : Int) = mid b s t b.length 0 i := by
    rw [getI_nat]
    simp [apl, List.getD, hi]
  rw [e, apl_ref h.bd h.sym s t hi, deg_sumI h.bd hi]
  have e2 : sumTo (fun j => getI t (j : Int) * getI (getLL b (i : Int)) (j : Int)) b.length = sumTo (fun j => ed b i j * gf t j) b.length := sumTo_congr fun j _ => Int.mul_comm _ _
  have e3 : net b.length (ed b) (gf t) i = gf t i * deg b.length (ed b) i - sumTo (fun j => ed b i j * gf t j) b.length := by
    unfold net deg
    rw [sumTo_mul, ← sumTo_sub]
    exact sumTo_congr fun j _ => by rw [Int.mul_sub, Int.mul_comm (gf t i)]
  rw [e2]
  show _ = gf s i - net b.length (ed b) (gf t) i
  rw [e3]
  show gf s i - gf t i * _ + _ = _
  omega
/-! ### distances -/
structure Nr (b : List (List Int)) (n q0 : Nat) (d : List Int) : Prop where
  zero : getI d (q0 : Int) = 0
  near : ∀ k : Nat, k < n → k ≠ q0 → 0 ≤ getI d (k : Int) → ∃ v : Nat, v < n ∧ 1 ≤ ed b v k ∧ 0 ≤ getI d (v : Int) ∧ getI d (v : Int) < getI d (k : Int)
theorem bIn_near {b : List (List Int)} {n q0 : Nat} {d : List Int} {q : List Nat} {v : Nat} (hl : d.length = n) (hq0 : q0 < n) (h : Nr b n q0 d) (hv : v < n) (hvd : 0 ≤ getI d (v : Int)) : ∀ k, k ≤ n →
    Nr b n q0 (bIn b v k (d, q)).1 ∧ (∀ j : Nat, j < n → 0 ≤ getI d (j : Int) → getI (bIn b v k (d, q)).1 (j : Int) = getI d (j : Int)) ∧ (∀ j : Nat, j < k → 0 < ed b v j → 0 ≤ getI (bIn b v k (d, q)).1 (j : Int))
  | 0, _ => ⟨h, fun _ _ _ => rfl, fun j hj => by omega⟩
  | k + 1, hk => by
    obtain ⟨h1, h2, h3⟩ := bIn_near (q := q) hl hq0 h hv hvd k (by omega)
    have hl' : (bIn b v k (d, q)).1.length = n := by rw [bIn_len]; exact hl
    simp only [bIn]
    generalize bIn b v k (d, q) = r at *
    split
    · rename_i hc
      have hkl : k < r.1.length := by omega
      have hrv := h2 v hv hvd
      have hg := fun (j : Nat) => getI_set (l := r.1) (i := k) (j := j) (v := getI r.1 (v : Int) + 1) hkl
      refine ⟨⟨?_, fun j hj hjq hj0 => ?_⟩, fun j hj hjd => ?_, fun j hj hjv => ?_⟩
      · rw [hg]
        split
        · rename_i e; subst e; have := h1.zero; omega
        · exact h1.zero
      · rw [hg] at hj0
        by_cases e : j = k
        · subst e
          have hvj : v ≠ j := fun e => by subst e; omega
          exact ⟨v, hv, by unfold ed; omega, by rw [hg, if_neg hvj]; omega, by rw [hg, if_neg hvj, hg, if_pos rfl]; omega⟩
        · rw [if_neg e] at hj0
          obtain ⟨u, hu, a1, a2, a3⟩ := h1.near j hj hjq hj0
          have huk : u ≠ k := fun e => by subst e; omega
          exact ⟨u, hu, a1, by rw [hg, if_neg huk]; exact a2, by rw [hg, if_neg huk, hg, if_neg e]; exact a3⟩
      · have := h2 j hj hjd
        rw [hg, if_neg (fun e => by subst e; omega)]
        exact this
      · rw [hg]
        split
        · omega
        · exact h3 j (by omega) hjv
    · rename_i hc
      refine ⟨h1, h2, fun j hj hjv => ?_⟩
      by_cases e : j = k
      · subst e
        unfold ed at hjv
        omega
      · exact h3 j (by omega) hjv
theorem bfsF_near {b : List (List Int)} {n q0 : Nat} (hq0 : q0 < n) : ∀ (f : Nat) (d : List Int) (dn q : List Nat), Bfs n d dn q → Nr b n q0 d → (∀ v ∈ dn, ∀ k : Nat, k < n → 0 < ed b v k → 0 ≤ getI d (k : Int)) →
    Nr b n q0 (bfsF b n f d dn q).1 ∧ (∀ v ∈ (bfsF b n f d dn q).2, ∀ k : Nat, k < n → 0 < ed b v k → 0 ≤ getI (bfsF b n f d dn q).1 (k : Int))
  | 0, d, dn, q, _, h, c => ⟨h, c⟩
  | f + 1, d, dn, [], _, h, c => ⟨h, c⟩
  | f + 1, d, dn, v :: q, hB, h, c => by
    have hv : v < n := hB.lt v (by simp)
    have hvd : 0 ≤ getI d (v : Int) := (hB.iff v hv).2 (by simp)
    obtain ⟨a1, a2, a3⟩ := bIn_near (q := q) hB.len hq0 h hv hvd n (Nat.le_refl _)
    obtain ⟨p, -⟩ := Bfs.pop (b := b) hB
    simp only [bfsF]
    refine bfsF_near hq0 f _ _ _ p a1 fun w hw k hk hwk => ?_
    rcases List.mem_append.1 hw with hw | hw
    · have := c w hw k hk hwk
      rw [a2 k hk this]
      exact this
    · simp only [List.mem_singleton] at hw
      subst hw
      exact a3 k hk hwk
theorem dist_all (b : List (List Int)) {q : Nat} (hq : q < b.length) :
    Bfs b.length (dist b q).1 (dist b q).2 [] ∧ Nr b b.length q (dist b q).1 ∧ (∀ v k : Nat, v < b.length → k < b.length → 0 ≤ getI (dist b q).1 (v : Int) → 0 < ed b v k → 0 ≤ getI (dist b q).1 (k : Int)) := by
  have hB : Bfs b.length (dist b q).1 (dist b q).2 [] := bfsF_end _ _ _ _ (Bfs.init hq) (by
    have := negs_le (d0 b.length q)
    have hl : (d0 b.length q).length = b.length := by simp [d0]
    simp only [List.length_cons, List.length_nil]
    omega)
  obtain ⟨h1, h2⟩ := bfsF_near (b := b) hq (2 * b.length + 2) _ _ _ (Bfs.init hq) ⟨by rw [d0_get hq hq]; simp, fun k hk hkq h0 => by rw [d0_get hq hk, if_neg hkq] at h0; omega⟩ (by simp)
  refine ⟨hB, h1, fun v k hv hk hv0 he => ?_⟩
  have hm := (hB.iff v hv).1 hv0
  rw [List.append_nil] at hm
  exact h2 v hm k hk he
theorem all_of_zero {b : List (List Int)} (h : IsB b) {P : Nat → Prop} (hcl : ∀ v k : Nat, v < b.length → k < b.length → P v → 0 < ed b v k → P k) (h0 : P 0) : ∀ k : Nat, k < b.length → P k := by
  have hn := h.n1
  obtain ⟨hB, hN, -⟩ := dist_all b (q := 0) (by omega)
  have hall := (conn_iff (b := b) (by omega)).2 h.con
  have hr : ∀ k : Nat, k < b.length → 0 ≤ getI (dist b 0).1 (k : Int) := fun k hk => by
    have := hB.low k hk
    have := (hB.done.2 h.con) k hk
    omega
  have key : ∀ m : Nat, ∀ k : Nat, k < b.length → getI (dist b 0).1 (k : Int) ≤ m → P k := by
    intro m
    induction m with
    | zero =>
      intro k hk hm
      by_cases e : k = 0
      · subst e; exact h0
      · obtain ⟨v, hv, _, a, c⟩ := hN.near k hk e (hr k hk)
        omega
    | succ m ih =>
      intro k hk hm
      by_cases e : k = 0
      · subst e; exact h0
      · obtain ⟨v, hv, a0, a, c⟩ := hN.near k hk e (hr k hk)
        exact hcl v k hv hk (ih v hv (by omega)) (by omega)
  intro k hk
  have := hB.far k hk
  exact key ((dist b 0).2 ++ []).length k hk (by omega)
theorem far_le {n : Nat} {d : List Int} {dn : List Nat} (hB : Bfs n d dn []) {v : Nat} (hv : v < n) : getI d (v : Int) ≤ n := by
  have := hB.far v hv
  have h2 := nodup_len hB.nd fun w hw => List.mem_range.2 (hB.lt w hw)
  rw [List.length_range] at h2
  omega
/-- the distances on a board -/
theorem dist_dst {b : List (List Int)} (h : IsB b) {q : Nat} (hq : q < b.length) : Dst b.length (ed b) q (gf (dist b q).1) := by
  obtain ⟨hB, hN, hC⟩ := dist_all b hq
  have hsy := (gr_of h).sy
  have hR : ∀ k : Nat, k < b.length → 0 ≤ getI (dist b q).1 (k : Int) := by
    apply Classical.byContradiction
    intro hcon
    have h0 : ¬ 0 ≤ getI (dist b q).1 ((0 : Nat) : Int) := fun h0 => hcon (all_of_zero h (P := fun k => 0 ≤ getI (dist b q).1 (k : Int)) (fun v k hv hk a e => hC v k hv hk a e) h0)
    have hn := all_of_zero h (P := fun k => ¬ 0 ≤ getI (dist b q).1 (k : Int)) (fun v k hv hk a e c => a (hC k v hk hv c (by rw [hsy k v hk hv]; exact e))) h0 q hq
    exact hn (by rw [hN.zero]; exact Int.le_refl _)
  refine ⟨hN.zero, fun v hv hvq => ?_, fun v hv => far_le hB hv, fun v hv hvq => ?_⟩
  · obtain ⟨u, hu, _, a, c⟩ := hN.near v hv hvq (hR v hv)
    unfold gf
    omega
  · obtain ⟨u, hu, a0, a, c⟩ := hN.near v hv hvq (hR v hv)
    exact ⟨u, hu, by rw [hsy v u hv hu]; exact a0, c⟩
end Go.AM.Ch
