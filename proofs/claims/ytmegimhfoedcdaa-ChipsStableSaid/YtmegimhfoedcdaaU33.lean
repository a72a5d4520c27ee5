/- A part of the proof: U33. -/
import Derived.Test.YtmegimhfoedcdaaU27
set_option linter.unusedSectionVars false
set_option linter.unusedVariables false
set_option linter.unusedSimpArgs false
namespace Go.AM.Ch
set_option maxHeartbeats 1000000
/-! ### reducing, plain -/
theorem deg_le {n : Nat} {E : Nat → Nat → Int} (g : Gr n E) {i : Nat} (hi : i < n) : deg n E i ≤ n * 3 := by
  have b := sumTo_le (f := fun j => E i j) (M := 3) (n := n) fun j hj => by have := g.nn i j hi hj; have := g.le i j hi hj; omega
  unfold deg
  omega
/-- a script whose firing leaves no great debt is not far above q -/
theorem upper_le {n : Nat} {E : Nat → Nat → Int} (g : Gr n E) {q : Nat} {D : Nat → Int} (d : Dst n E q D) {t : Nat → Int} {B : Int} (hB : 0 ≤ B) (h : ∀ v, v < n → v ≠ q → net n E t v ≤ B) :
    ∀ k : Nat, ∀ v, v < n → D v ≤ k → t v ≤ t q + k * (n * B)
  | k, v, hv, hk => by
    have hnB : 0 ≤ (n : Int) * B := Int.mul_nonneg (by omega) hB
    have hknB : 0 ≤ (k : Int) * (n * B) := Int.mul_nonneg (by omega) hnB
    by_cases hvq : v = q
    · subst hvq; omega
    · rcases Int.lt_or_le (t q) (t v) with hlt | hle
      · obtain ⟨u, hu, he, hlt2⟩ := d.near v hv hvq
        have hu0 := d.nn hu
        obtain ⟨j, rfl⟩ : ∃ j, k = j + 1 := ⟨k - 1, by have := d.pos v hv hvq; omega⟩
        have ih := upper_le g d hB h j u hu (by omega)
        have e : ((j + 1 : Nat) : Int) * (n * B) = j * (n * B) + n * B := by push_cast; rw [Int.add_mul, Int.one_mul]
        rw [e]
        have key : t v - t u ≤ n * B := by
          rcases Int.lt_or_le (t u) (t v) with h2 | h2
          · have hq : decide (t v ≤ t q) = false := by simp; omega
            have f := flow g t (fun w => decide (t v ≤ t w))
            have s := sumS_le (S := fun w => decide (t v ≤ t w)) (f := net n E t) (n := n) hB hq fun w hw hwq => h w hw hwq
            have nn : ∀ i, i < n → ∀ j, j < n → 0 ≤ (if decide (t v ≤ t i) = true ∧ decide (t v ≤ t j) = false then E i j * (t i - t j) else 0) := fun i hi j hj => by
              split
              · rename_i hc
                simp only [decide_eq_true_eq, decide_eq_false_iff_not] at hc
                exact Int.mul_nonneg (g.nn i j hi hj) (by omega)
              · exact Int.le_refl _
            have a := sumTo_term (n := n) (k := u) (nn v hv) hu
            have b := sumTo_term (f := fun i => sumTo (fun j => if decide (t v ≤ t i) = true ∧ decide (t v ≤ t j) = false then E i j * (t i - t j) else 0) n) (n := n) (k := v) (fun i hi => sumTo_nn fun j hj => nn i hi j hj) hv
            try dsimp only at a b
            rw [if_pos ⟨by simp, by simp; omega⟩] at a
            have c := Int.mul_le_mul_of_nonneg_right he (show 0 ≤ t v - t u by omega)
            omega
          · omega
        omega
      · omega
/-- a set of places fires once -/
def ind (S : Nat → Bool) (j : Nat) : Int := if S j = true then 1 else 0
theorem net_ind {n : Nat} {E : Nat → Nat → Int} {S : Nat → Bool} {v : Nat} (h : S v = true) : net n E (ind S) v = outE n E S v := by
  unfold net outE
  refine sumTo_congr fun j _ => ?_
  unfold ind
  rw [if_pos h]
  cases S j <;> simp
theorem net_ind_out {n : Nat} {E : Nat → Nat → Int} (g : Gr n E) {S : Nat → Bool} {v : Nat} (hv : v < n) (h : S v = false) : net n E (ind S) v ≤ 0 := by
  rw [show (0 : Int) = sumTo (fun _ => 0) n from (sumTo_zero n).symm]
  unfold net
  refine sumTo_mono fun j hj => ?_
  have := g.nn v j hv hj
  have e : ind S v = 0 := by unfold ind; rw [h]; rfl
  rw [e]
  unfold ind
  split <;> omega
/-- legal: no place goes into debt -/
def Leg (n : Nat) (E : Nat → Nat → Int) (c : Nat → Int) (S : Nat → Bool) : Prop := ∀ v, v < n → S v = true → outE n E S v ≤ c v
theorem leg_fire {n : Nat} {E : Nat → Nat → Int} (g : Gr n E) {q : Nat} {c : Nat → Int} {S : Nat → Bool} (h : Leg n E c S) (hc : ∀ v, v < n → v ≠ q → 0 ≤ c v) : ∀ v, v < n → v ≠ q → 0 ≤ ap n E c (ind S) v := fun v hv hvq => by
  unfold ap
  cases hs : S v with
  | true => rw [net_ind hs]; have := h v hv hs; omega
  | false => have := net_ind_out g hv hs; have := hc v hv hvq; omega
theorem leg_pot {n : Nat} {E : Nat → Nat → Int} (g : Gr n E) {q : Nat} {D : Nat → Int} (d : Dst n E q D) {c : Nat → Int} {S : Nat → Bool} (hq : S q = false) {v : Nat} (hv : v < n) (hs : S v = true) : pot n D (ap n E c (ind S)) < pot n D c := by
  have a := pot_ap g d c (ind S) (fun w _ => by unfold ind; split <;> omega) (by unfold ind; rw [hq]; rfl)
  have b := sumTo_term (f := ind S) (n := n) (k := v) (fun w _ => by unfold ind; split <;> omega) hv
  have e : ind S v = 1 := by unfold ind; rw [hs]; rfl
  omega
/-- where not reduced, a set can fire -/
theorem not_red {n : Nat} {E : Nat → Nat → Int} {q : Nat} {c : Nat → Int} (hc : ∀ v, v < n → v ≠ q → 0 ≤ c v) (h : ¬ Red n E q c) : ∃ S : Nat → Bool, S q = false ∧ (∃ v, v < n ∧ S v = true) ∧ Leg n E c S := by
  apply Classical.byContradiction
  intro hn
  refine h ⟨hc, fun S hS hex => Classical.byContradiction fun h2 => hn ⟨S, hS, hex, fun v hv hs => ?_⟩⟩
  exact Classical.byContradiction fun h3 => h2 ⟨v, hv, hs, by omega⟩
theorem red_of {n : Nat} {E : Nat → Nat → Int} (g : Gr n E) {q : Nat} {D : Nat → Int} (d : Dst n E q D) (c : Nat → Int) : ∀ N : Nat, ∀ t : Nat → Int, (∀ v, v < n → v ≠ q → 0 ≤ ap n E c t v) → pot n D (ap n E c t) < N → ∃ t : Nat → Int, Red n E q (ap n E c t)
  | 0, t, ht, hp => by have := pot_nn d ht; omega
  | N + 1, t, ht, hp => by
    by_cases hr : Red n E q (ap n E c t)
    · exact ⟨t, hr⟩
    · obtain ⟨S, hS, ⟨v, hv, hs⟩, hl⟩ := not_red ht hr
      have h1 := leg_fire g hl ht
      have h2 := leg_pot g d (c := ap n E c t) hS hv hs
      have e : ap n E (ap n E c t) (ind S) = ap n E c (fun j => t j + ind S j) := funext fun i => ap_ap n E c t _ i
      rw [e] at h1 h2
      exact red_of g d c N _ h1 (by omega)
/-! paying debts -/
def ceilI (a c : Int) : Int := if a ≤ 0 then 0 else (a + c - 1) / c
theorem ceilI_nn {a c : Int} (hc : 1 ≤ c) : 0 ≤ ceilI a c := by
  unfold ceilI
  split
  · exact Int.le_refl _
  · exact Int.ediv_nonneg (by omega) (by omega)
theorem ceilI_ge {a c : Int} (hc : 1 ≤ c) : a ≤ ceilI a c * c := by
  unfold ceilI
  split
  · omega
  · have h1 := Int.emod_add_mul_ediv (a + c - 1) c
    have h2 := Int.emod_lt_of_pos (a + c - 1) (show 0 < c by omega)
    have h3 : (a + c - 1) / c * c = c * ((a + c - 1) / c) := Int.mul_comm _ _
    omega
theorem ceilI_le {a c : Int} (hc : 1 ≤ c) (ha : 0 ≤ a) : ceilI a c ≤ a := by
  unfold ceilI
  split
  · exact ha
  · have h1 : (a + c - 1) / c * 1 ≤ (a + c - 1) / c * c := Int.mul_le_mul_of_nonneg_left hc (Int.ediv_nonneg (by omega) (by omega))
    have h2 : (a + c - 1) / c ≤ a := by
      have : (a + c - 1) / c < a + 1 := Int.ediv_lt_of_lt_mul (by omega) (by
        rw [Int.add_mul, Int.one_mul]
        have : a * 1 ≤ a * c := Int.mul_le_mul_of_nonneg_left hc ha
        have h4 : (a - 1) * 1 ≤ (a - 1) * c := Int.mul_le_mul_of_nonneg_left hc (by omega)
        rw [Int.sub_mul] at h4
        omega)
      omega
    exact h2
/-- what nearer places give -/
def getsN (n : Nat) (E : Nat → Nat → Int) (D : Nat → Int) (d : Int) (v : Nat) : Int := sumTo (fun u => if D u < d then E v u else 0) n
def nearS (D : Nat → Int) (d T : Int) (j : Nat) : Int := if D j < d then T else 0
theorem net_near {n : Nat} {E : Nat → Nat → Int} {D : Nat → Int} {d T : Int} {v : Nat} (h : ¬ D v < d) : net n E (nearS D d T) v = - (T * getsN n E D d v) := by
  unfold net getsN
  rw [sumTo_mul, ← sumTo_neg]
  refine sumTo_congr fun j _ => ?_
  unfold nearS
  rw [if_neg h]
  split
  · rw [Int.zero_sub, Int.mul_neg, Int.mul_comm]
  · simp
theorem gets_pos {n : Nat} {E : Nat → Nat → Int} (g : Gr n E) {q : Nat} {D : Nat → Int} (d : Dst n E q D) {v : Nat} (hv : v < n) (hvq : v ≠ q) : 1 ≤ getsN n E D (D v) v := by
  obtain ⟨u, hu, he, hlt⟩ := d.near v hv hvq
  have := sumTo_term (f := fun u => if D u < D v then E v u else 0) (n := n) (k := u) (fun j hj => by
    have := g.nn v j hv hj
    try dsimp only
    split <;> omega) hu
  try dsimp only at this
  rw [if_pos hlt] at this
  unfold getsN
  omega
theorem gets_nn {n : Nat} {E : Nat → Nat → Int} (g : Gr n E) {D : Nat → Int} {d : Int} {v : Nat} (hv : v < n) : 0 ≤ getsN n E D d v ∧ getsN n E D d v ≤ n * 3 := by
  have a := sumTo_nn (f := fun u => if D u < d then E v u else 0) (n := n) fun j hj => by
    have := g.nn v j hv hj
    try dsimp only
    split <;> omega
  have b := sumTo_le (f := fun u => if D u < d then E v u else 0) (M := 3) (n := n) fun j hj => by
    have := g.nn v j hv hj
    have := g.le v j hv hj
    try dsimp only
    split <;> omega
  unfold getsN
  omega
/-- how many times the nearer places fire: c the numbers now -/
def tms (n : Nat) (E : Nat → Nat → Int) (D : Nat → Int) (c : Nat → Int) (d : Int) : Nat → Int
  | 0 => 0
  | k + 1 => if D k = d then (if ceilI (- c k) (getsN n E D d k) > tms n E D c d k then ceilI (- c k) (getsN n E D d k) else tms n E D c d k) else tms n E D c d k
theorem tms_nn {n : Nat} {E : Nat → Nat → Int} {D c : Nat → Int} {d : Int} : ∀ k, 0 ≤ tms n E D c d k
  | 0 => Int.le_refl _
  | k + 1 => by
    have := tms_nn (n := n) (E := E) (D := D) (c := c) (d := d) k
    simp only [tms]
    split
    · split <;> omega
    · exact this
theorem tms_ge {n : Nat} {E : Nat → Nat → Int} {D c : Nat → Int} {d : Int} : ∀ {k v : Nat}, v < k → D v = d → ceilI (- c v) (getsN n E D d v) ≤ tms n E D c d k
  | k + 1, v, hv, hd => by
    simp only [tms]
    by_cases e : v = k
    · subst e
      rw [if_pos hd]
      split <;> omega
    · have := tms_ge (n := n) (E := E) (D := D) (c := c) (d := d) (show v < k by omega) hd
      split
      · split <;> omega
      · exact this
theorem tms_le {n : Nat} {E : Nat → Nat → Int} {D c : Nat → Int} {d B : Int} (hB : 0 ≤ B) : ∀ {k : Nat}, (∀ v, v < k → D v = d → ceilI (- c v) (getsN n E D d v) ≤ B) → tms n E D c d k ≤ B
  | 0, _ => hB
  | k + 1, h => by
    have := tms_le (n := n) (E := E) (D := D) (c := c) (d := d) hB (k := k) fun v hv hd => h v (by omega) hd
    simp only [tms]
    split
    · rename_i e
      have := h k (by omega) e
      split <;> omega
    · exact this
/-- paying, from the farthest places on: d places away and nearer are still to be paid -/
def payF (n : Nat) (E : Nat → Nat → Int) (D l : Nat → Int) : Nat → (Nat → Int) → (Nat → Int)
  | 0, t => t
  | d + 1, t => payF n E D l d (fun j => t j + nearS D ((d + 1 : Nat) : Int) (tms n E D (ap n E l t) ((d + 1 : Nat) : Int) n) j)
/-- what is known while paying: B bounds the script -/
structure PayOk (n : Nat) (E : Nat → Nat → Int) (D l : Nat → Int) (d : Nat) (B : Int) (t : Nat → Int) : Prop where
  paid : ∀ v, v < n → (d : Int) < D v → 0 ≤ ap n E l t v
  nn : ∀ v, v < n → 0 ≤ t v ∧ t v ≤ B
theorem ap_low {n : Nat} {E : Nat → Nat → Int} (g : Gr n E) {l t : Nat → Int} {B : Int} (h : ∀ v, v < n → 0 ≤ t v ∧ t v ≤ B) (hB : 0 ≤ B) {v : Nat} (hv : v < n) : l v - B * (n * 3) ≤ ap n E l t v ∧ ap n E l t v ≤ l v + B * (n * 3) := by
  have hd := deg_le g hv
  have h1 : net n E t v ≤ B * deg n E v := by
    unfold net deg
    rw [sumTo_mul]
    refine sumTo_mono fun j hj => ?_
    have h2 := h v hv
    have h3 := h j hj
    rw [Int.mul_comm B]
    exact Int.mul_le_mul_of_nonneg_left (by omega) (g.nn v j hv hj)
  have h4 : -(B * deg n E v) ≤ net n E t v := by
    unfold net deg
    rw [sumTo_mul, ← sumTo_neg]
    refine sumTo_mono fun j hj => ?_
    have h2 := h v hv
    have h3 := h j hj
    rw [Int.mul_comm B, ← Int.mul_neg]
    exact Int.mul_le_mul_of_nonneg_left (by omega) (g.nn v j hv hj)
  have h5 : B * deg n E v ≤ B * (n * 3) := Int.mul_le_mul_of_nonneg_left hd hB
  unfold ap
  omega
theorem PayOk.step {n : Nat} {E : Nat → Nat → Int} (g : Gr n E) {q : Nat} {D : Nat → Int} (hd : Dst n E q D) {l t : Nat → Int} {d : Nat} {B M : Int} (hB : 0 ≤ B) (hM : 0 ≤ M) (hl : ∀ v, v < n → v ≠ q → -M ≤ l v) (h : PayOk n E D l (d + 1) B t) :
    0 ≤ tms n E D (ap n E l t) ((d + 1 : Nat) : Int) n ∧ tms n E D (ap n E l t) ((d + 1 : Nat) : Int) n ≤ M + B * (n * 3) ∧
    PayOk n E D l d (M + B * (n * 3) + B) (fun j => t j + nearS D ((d + 1 : Nat) : Int) (tms n E D (ap n E l t) ((d + 1 : Nat) : Int) n) j) := by
  have hnB : 0 ≤ B * ((n : Int) * 3) := Int.mul_nonneg hB (by omega)
  have hT0 := tms_nn (n := n) (E := E) (D := D) (c := ap n E l t) (d := ((d + 1 : Nat) : Int)) n
  have hvq : ∀ v, v < n → D v = ((d + 1 : Nat) : Int) → v ≠ q := fun v hv e e2 => by subst e2; rw [hd.zero] at e; omega
  have hT1 : tms n E D (ap n E l t) ((d + 1 : Nat) : Int) n ≤ M + B * (n * 3) := tms_le (by omega) fun v hv e => by
    have hg := gets_pos g hd hv (hvq v hv e)
    rw [e] at hg
    have a := (ap_low g (l := l) h.nn hB hv).1
    have b := hl v hv (hvq v hv e)
    by_cases hc : 0 ≤ - ap n E l t v
    · have := ceilI_le hg hc; omega
    · have : ceilI (- ap n E l t v) (getsN n E D ((d + 1 : Nat) : Int) v) = 0 := by unfold ceilI; rw [if_pos (by omega)]
      omega
  refine ⟨hT0, hT1, fun v hv hdv => ?_, fun v hv => ?_⟩
  · generalize hTT : tms n E D (ap n E l t) ((d + 1 : Nat) : Int) n = T at *
    have e : ap n E l (fun j => t j + nearS D ((d + 1 : Nat) : Int) T j) v = ap n E l t v + T * getsN n E D ((d + 1 : Nat) : Int) v := by
      unfold ap
      rw [net_add, net_near (by omega)]
      omega
    rw [e]
    have hg0 := (gets_nn g (D := D) (d := ((d + 1 : Nat) : Int)) hv).1
    by_cases e2 : D v = ((d + 1 : Nat) : Int)
    · have hg := gets_pos g hd hv (hvq v hv e2)
      rw [e2] at hg
      have h1 := tms_ge (n := n) (E := E) (D := D) (c := ap n E l t) hv e2
      rw [hTT] at h1
      have h2 := ceilI_ge (a := - ap n E l t v) hg
      have h3 := Int.mul_le_mul_of_nonneg_right h1 hg0
      omega
    · have h1 := h.paid v hv (by omega)
      have := Int.mul_nonneg hT0 hg0
      omega
  · have := h.nn v hv
    unfold nearS
    split <;> omega
/-- the bound after k rounds -/
def payB (n : Nat) (M : Int) : Nat → Int
  | 0 => 0
  | k + 1 => M + payB n M k * (n * 3) + payB n M k
theorem payB_nn {n : Nat} {M : Int} (hM : 0 ≤ M) : ∀ k, 0 ≤ payB n M k
  | 0 => Int.le_refl _
  | k + 1 => by
    have := payB_nn (n := n) hM k
    have := Int.mul_nonneg this (show 0 ≤ (n : Int) * 3 by omega)
    simp only [payB]
    omega
theorem payB_mono {n : Nat} {M : Int} (hM : 0 ≤ M) (k : Nat) : payB n M k ≤ payB n M (k + 1) := by
  have := payB_nn (n := n) hM k
  have := Int.mul_nonneg this (show 0 ≤ (n : Int) * 3 by omega)
  simp only [payB]
  omega
theorem payF_ok {n : Nat} {E : Nat → Nat → Int} (g : Gr n E) {q : Nat} {D : Nat → Int} (hd : Dst n E q D) {l : Nat → Int} {M : Int} (hM : 0 ≤ M) (hl : ∀ v, v < n → v ≠ q → -M ≤ l v) : ∀ (d k : Nat) (t : Nat → Int), PayOk n E D l d (payB n M k) t → PayOk n E D l 0 (payB n M (k + d)) (payF n E D l d t)
  | 0, k, t, h => h
  | d + 1, k, t, h => by
    obtain ⟨_, _, s⟩ := h.step g hd (payB_nn hM k) hM hl
    have e : k + (d + 1) = k + 1 + d := by omega
    rw [e]
    simp only [payF]
    exact payF_ok g hd hM hl d (k + 1) _ s
theorem payB10 {n : Nat} (hn : n ≤ 10) {M M' : Int} (hM : 0 ≤ M) (hMM : M ≤ M') : ∀ k, payB n M k ≤ payB 10 M' k
  | 0 => Int.le_refl _
  | k + 1 => by
    have ih := payB10 hn hM hMM k
    have h0 := payB_nn (n := n) hM k
    have h1 : payB n M k * (n * 3) ≤ payB 10 M' k * ((10 : Nat) * 3) := Int.mul_le_mul ih (by omega) (by omega) (by omega)
    simp only [payB]
    omega
theorem red_ex {n : Nat} {E : Nat → Nat → Int} (g : Gr n E) {q : Nat} {D : Nat → Int} (hd : Dst n E q D) (l : Nat → Int) : ∃ t : Nat → Int, t q = 0 ∧ Red n E q (ap n E l t) := by
  -- a bound of the debts
  obtain ⟨M, hM, hl⟩ : ∃ M : Int, 0 ≤ M ∧ ∀ v, v < n → v ≠ q → -M ≤ l v := by
    by_cases hn : 0 < n
    · obtain ⟨w, _, hw⟩ := ex_max (fun v => - l v) hn
      refine ⟨if 0 ≤ - l w then - l w else 0, by split <;> omega, fun v hv _ => ?_⟩
      have := hw v hv
      try dsimp only at this
      split <;> omega
    · exact ⟨0, by omega, fun v hv => by omega⟩
  have h0 : PayOk n E D l n (payB n M 0) (fun _ => 0) := ⟨fun v hv h => by have := hd.le v hv; omega, fun v hv => by simp [payB]⟩
  have h1 := payF_ok g hd hM hl n 0 _ h0
  have h2 : ∀ v, v < n → v ≠ q → 0 ≤ ap n E l (payF n E D l n (fun _ => 0)) v := fun v hv hvq => h1.paid v hv (by have := hd.pos v hv hvq; omega)
  obtain ⟨t, ht⟩ := red_of g hd l _ _ h2 (show _ < (((pot n D (ap n E l (payF n E D l n (fun _ => 0)))).toNat + 1 : Nat) : Int) by omega)
  refine ⟨fun j => t j + (- t q), (by show t q + - t q = 0; omega), ?_⟩
  have e : ap n E l (fun j => t j + (- t q)) = ap n E l t := funext fun i => by unfold ap; rw [net_add, net_const]; omega
  rw [e]; exact ht
/-- the script that reduces -/
noncomputable def redT (b : List (List Int)) (l : List Int) (q : Nat) : List Int :=
  open Classical in if h : ∃ t : List Int, t.length = b.length ∧ gf t q = 0 ∧ Red b.length (ed b) q (ap b.length (ed b) (gf l) (gf t)) then Classical.choose h else []
theorem Red.congr {n : Nat} {E : Nat → Nat → Int} {q : Nat} {c c' : Nat → Int} (h : Red n E q c) (e : ∀ v, v < n → c v = c' v) : Red n E q c' :=
  ⟨fun v hv hvq => by rw [← e v hv]; exact h.1 v hv hvq, fun S hS hex => by
    obtain ⟨v, hv, hs, hlt⟩ := h.2 S hS hex
    exact ⟨v, hv, hs, by rw [← e v hv]; exact hlt⟩⟩
theorem redT_ok {b : List (List Int)} (hB : IsB b) (l : List Int) {q : Nat} (hq : q < b.length) : (redT b l q).length = b.length ∧ gf (redT b l q) q = 0 ∧ Red b.length (ed b) q (ap b.length (ed b) (gf l) (gf (redT b l q))) := by
  have hex : ∃ t : List Int, t.length = b.length ∧ gf t q = 0 ∧ Red b.length (ed b) q (ap b.length (ed b) (gf l) (gf t)) := by
    obtain ⟨t, h0, h1⟩ := red_ex (gr_of hB) (dist_dst hB hq) (gf l)
    have hg : ∀ j, j < b.length → t j = gf ((List.range b.length).map t) j := fun j hj => by unfold gf; rw [getI_nat]; simp [List.getD, hj]
    exact ⟨(List.range b.length).map t, by simp, by rw [← hg q hq]; exact h0, h1.congr fun v hv => ap_congr hv hg rfl⟩
  unfold redT
  rw [dif_pos hex]
  exact Classical.choose_spec hex
theorem redT_eq {b : List (List Int)} (hB : IsB b) {l : List Int} {q : Nat} (hq : q < b.length) {t : List Int} (hl : t.length = b.length) (h0 : gf t q = 0) (h : Red b.length (ed b) q (ap b.length (ed b) (gf l) (gf t))) : t = redT b l q := by
  obtain ⟨a, c, d⟩ := redT_ok hB l hq
  refine ext_getI (by omega) fun i hi => ?_
  have := red_uniq (gr_of hB) hq d h (t := fun j => gf t j + (- gf (redT b l q) j)) (fun v hv => by
    unfold ap
    rw [net_add, net_neg]
    omega)
  have h2 := (this i (by omega)).2
  rw [h0, c] at h2
  unfold gf at h2
  omega
end Go.AM.Ch
