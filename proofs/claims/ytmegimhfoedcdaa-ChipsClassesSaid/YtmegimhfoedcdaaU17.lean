/- A part of the proof: U33 U33b D4 U28 U34 U35 U17. -/
import Derived.Test.YtmegimhfoedcdaaD3
import Derived.Test.YtmegimhfoedcdaaU15
import Derived.Test.YtmegimhfoedcdaaM3
set_option linter.unusedVariables false
set_option linter.unusedSimpArgs false
set_option linter.unusedSectionVars false
namespace Go.AM.Ch
set_option maxHeartbeats 1000000
theorem deg_le {n : Nat} {E : Nat → Nat → Int} (g : Gr n E) {i : Nat} (hi : i < n) : deg n E i ≤ n * 3 := by
  have b := sumTo_le (f := fun j => E i j) (M := 3) (n := n) fun j hj => by have := g.nn i j hi hj; have := g.le i j hi hj; omega
  unfold deg
  omega
theorem upper_le {n : Nat} {E : Nat → Nat → Int} (g : Gr n E) {q : Nat} {D : Nat → Int} (d : Dst n E q D) {t : Nat → Int} {B : Int} (hB : 0 ≤ B) (h : ∀ v, v < n → v ≠ q → net n E t v ≤ B) :
    ∀ k : Nat, ∀ v, v < n → D v ≤ k → t v ≤ t q + k * (n * B)
  | k, v, hv, hk => by
    have hnB : 0 ≤ (n : Int) * B := Int.mul_nonneg (by omega) hB
    have hknB : 0 ≤ (k : Int) * (n * B) := Int.mul_nonneg (by omega) hnB
    by_cases hvq : v = q
    · subst hvq; omega
    · rcases Int.lt_or_le (t q) (t v) with hlt | hle
      · obtain ⟨u, hu, he, hlt2⟩ := d.near v hv hvq
        have hu0 := d.nn hu
        obtain ⟨j, rfl⟩ : ∃ j, k = j + 1 := ⟨k - 1, by have := d.pos v hv hvq; omega⟩
        have ih := upper_le g d hB h j u hu (by omega)
        have e : ((j + 1 : Nat) : Int) * (n * B) = j * (n * B) + n * B := by push_cast; rw [Int.add_mul, Int.one_mul]
        rw [e]
        have key : t v - t u ≤ n * B := by
          rcases Int.lt_or_le (t u) (t v) with h2 | h2
          · have hq : decide (t v ≤ t q) = false := by simp; omega
            have f := flow g t (fun w => decide (t v ≤ t w))
            have s := sumS_le (S := fun w => decide (t v ≤ t w)) (f := net n E t) (n := n) hB hq fun w hw hwq => h w hw hwq
            have nn : ∀ i, i < n → ∀ j, j < n → 0 ≤ (if decide (t v ≤ t i) = true ∧ decide (t v ≤ t j) = false then E i j * (t i - t j) else 0) := fun i hi j hj => by
              split
              · rename_i hc
                simp only [decide_eq_true_eq, decide_eq_false_iff_not] at hc
                exact Int.mul_nonneg (g.nn i j hi hj) (by omega)
              · exact Int.le_refl _
            have a := sumTo_term (n := n) (k := u) (nn v hv) hu
            have b := sumTo_term (f := fun i => sumTo (fun j => if decide (t v ≤ t i) = true ∧ decide (t v ≤ t j) = false then E i j * (t i - t j) else 0) n) (n := n) (k := v) (fun i hi => sumTo_nn fun j hj => nn i hi j hj) hv
            try dsimp only at a b
            rw [if_pos ⟨by simp, by simp; omega⟩] at a
            have c := Int.mul_le_mul_of_nonneg_right he (show 0 ≤ t v - t u by omega)
            omega
          · omega
        omega
      · omega
def ind (S : Nat → Bool) (j : Nat) : Int := if S j = true then 1 else 0
theorem net_ind {n : Nat} {E : Nat → Nat → Int} {S : Nat → Bool} {v : Nat} (h : S v = true) : net n E (ind S) v = outE n E S v := by
  unfold net outE
  refine sumTo_congr fun j _ => ?_
  unfold ind
  rw [if_pos h]
  cases S j <;> simp
theorem net_ind_out {n : Nat} {E : Nat → Nat → Int} (g : Gr n E) {S : Nat → Bool} {v : Nat} (hv : v < n) (h : S v = false) : net n E (ind S) v ≤ 0 := by
  rw [show (0 : Int) = sumTo (fun _ => 0) n from (sumTo_zero n).symm]
  unfold net
  refine sumTo_mono fun j hj => ?_
  have := g.nn v j hv hj
  have e : ind S v = 0 := by unfold ind; rw [h]; rfl
  rw [e]
  unfold ind
  split <;> omega
def Leg (n : Nat) (E : Nat → Nat → Int) (c : Nat → Int) (S : Nat → Bool) : Prop := ∀ v, v < n → S v = true → outE n E S v ≤ c v
theorem leg_fire {n : Nat} {E : Nat → Nat → Int} (g : Gr n E) {q : Nat} {c : Nat → Int} {S : Nat → Bool} (h : Leg n E c S) (hc : ∀ v, v < n → v ≠ q → 0 ≤ c v) : ∀ v, v < n → v ≠ q → 0 ≤ ap n E c (ind S) v := fun v hv hvq => by
  unfold ap
  cases hs : S v with
  | true => rw [net_ind hs]; have := h v hv hs; omega
  | false => have := net_ind_out g hv hs; have := hc v hv hvq; omega
theorem leg_pot {n : Nat} {E : Nat → Nat → Int} (g : Gr n E) {q : Nat} {D : Nat → Int} (d : Dst n E q D) {c : Nat → Int} {S : Nat → Bool} (hq : S q = false) {v : Nat} (hv : v < n) (hs : S v = true) : pot n D (ap n E c (ind S)) < pot n D c := by
  have a := pot_ap g d c (ind S) (fun w _ => by unfold ind; split <;> omega) (by unfold ind; rw [hq]; rfl)
  have b := sumTo_term (f := ind S) (n := n) (k := v) (fun w _ => by unfold ind; split <;> omega) hv
  have e : ind S v = 1 := by unfold ind; rw [hs]; rfl
  omega
theorem not_red {n : Nat} {E : Nat → Nat → Int} {q : Nat} {c : Nat → Int} (hc : ∀ v, v < n → v ≠ q → 0 ≤ c v) (h : ¬ Red n E q c) : ∃ S : Nat → Bool, S q = false ∧ (∃ v, v < n ∧ S v = true) ∧ Leg n E c S := by
  apply Classical.byContradiction
  intro hn
  refine h ⟨hc, fun S hS hex => Classical.byContradiction fun h2 => hn ⟨S, hS, hex, fun v hv hs => ?_⟩⟩
  exact Classical.byContradiction fun h3 => h2 ⟨v, hv, hs, by omega⟩
theorem red_of {n : Nat} {E : Nat → Nat → Int} (g : Gr n E) {q : Nat} {D : Nat → Int} (d : Dst n E q D) (c : Nat → Int) : ∀ N : Nat, ∀ t : Nat → Int, (∀ v, v < n → v ≠ q → 0 ≤ ap n E c t v) → pot n D (ap n E c t) < N → ∃ t : Nat → Int, Red n E q (ap n E c t)
  | 0, t, ht, hp => by have := pot_nn d ht; omega
  | N + 1, t, ht, hp => by
    by_cases hr : Red n E q (ap n E c t)
    · exact ⟨t, hr⟩
    · obtain ⟨S, hS, ⟨v, hv, hs⟩, hl⟩ := not_red ht hr
      have h1 := leg_fire g hl ht
      have h2 := leg_pot g d (c := ap n E c t) hS hv hs
      have e : ap n E (ap n E c t) (ind S) = ap n E c (fun j => t j + ind S j) := funext fun i => ap_ap n E c t _ i
      rw [e] at h1 h2
      exact red_of g d c N _ h1 (by omega)
def ceilI (a c : Int) : Int := if a ≤ 0 then 0 else (a + c - 1) / c
theorem ceilI_ge {a c : Int} (hc : 1 ≤ c) : a ≤ ceilI a c * c := by
  unfold ceilI
  split
  · omega
  · have h1 := Int.emod_add_mul_ediv (a + c - 1) c
    have h2 := Int.emod_lt_of_pos (a + c - 1) (show 0 < c by omega)
    have h3 : (a + c - 1) / c * c = c * ((a + c - 1) / c) := Int.mul_comm _ _
    omega
theorem ceilI_le {a c : Int} (hc : 1 ≤ c) (ha : 0 ≤ a) : ceilI a c ≤ a := by
  unfold ceilI
  split
  · exact ha
  · have h1 : (a + c - 1) / c * 1 ≤ (a + c - 1) / c * c := Int.mul_le_mul_of_nonneg_left hc (Int.ediv_nonneg (by omega) (by omega))
    have h2 : (a + c - 1) / c ≤ a := by
      have : (a + c - 1) / c < a + 1 := Int.ediv_lt_of_lt_mul (by omega) (by
        rw [Int.add_mul, Int.one_mul]
        have : a * 1 ≤ a * c := Int.mul_le_mul_of_nonneg_left hc ha
        have h4 : (a - 1) * 1 ≤ (a - 1) * c := Int.mul_le_mul_of_nonneg_left hc (by omega)
        rw [Int.sub_mul] at h4
        omega)
      omega
    exact h2
def getsN (n : Nat) (E : Nat → Nat → Int) (D : Nat → Int) (d : Int) (v : Nat) : Int := sumTo (fun u => if D u < d then E v u else 0) n
def nearS (D : Nat → Int) (d T : Int) (j : Nat) : Int := if D j < d then T else 0
theorem net_near {n : Nat} {E : Nat → Nat → Int} {D : Nat → Int} {d T : Int} {v : Nat} (h : ¬ D v < d) : net n E (nearS D d T) v = - (T * getsN n E D d v) := by
  unfold net getsN
  rw [sumTo_mul, ← sumTo_neg]
  refine sumTo_congr fun j _ => ?_
  unfold nearS
  rw [if_neg h]
  split
  · rw [Int.zero_sub, Int.mul_neg, Int.mul_comm]
  · simp
theorem gets_pos {n : Nat} {E : Nat → Nat → Int} (g : Gr n E) {q : Nat} {D : Nat → Int} (d : Dst n E q D) {v : Nat} (hv : v < n) (hvq : v ≠ q) : 1 ≤ getsN n E D (D v) v := by
  obtain ⟨u, hu, he, hlt⟩ := d.near v hv hvq
  have := sumTo_term (f := fun u => if D u < D v then E v u else 0) (n := n) (k := u) (fun j hj => by
    have := g.nn v j hv hj
    try dsimp only
    split <;> omega) hu
  try dsimp only at this
  rw [if_pos hlt] at this
  unfold getsN
  omega
theorem gets_nn {n : Nat} {E : Nat → Nat → Int} (g : Gr n E) {D : Nat → Int} {d : Int} {v : Nat} (hv : v < n) : 0 ≤ getsN n E D d v ∧ getsN n E D d v ≤ n * 3 := by
  have a := sumTo_nn (f := fun u => if D u < d then E v u else 0) (n := n) fun j hj => by
    have := g.nn v j hv hj
    try dsimp only
    split <;> omega
  have b := sumTo_le (f := fun u => if D u < d then E v u else 0) (M := 3) (n := n) fun j hj => by
    have := g.nn v j hv hj
    have := g.le v j hv hj
    try dsimp only
    split <;> omega
  unfold getsN
  omega
def tms (n : Nat) (E : Nat → Nat → Int) (D : Nat → Int) (c : Nat → Int) (d : Int) : Nat → Int
  | 0 => 0
  | k + 1 => if D k = d then (if ceilI (- c k) (getsN n E D d k) > tms n E D c d k then ceilI (- c k) (getsN n E D d k) else tms n E D c d k) else tms n E D c d k
theorem tms_nn {n : Nat} {E : Nat → Nat → Int} {D c : Nat → Int} {d : Int} : ∀ k, 0 ≤ tms n E D c d k
  | 0 => Int.le_refl _
  | k + 1 => by
    have := tms_nn (n := n) (E := E) (D := D) (c := c) (d := d) k
    simp only [tms]
    split
    · split <;> omega
    · exact this
theorem tms_ge {n : Nat} {E : Nat → Nat → Int} {D c : Nat → Int} {d : Int} : ∀ {k v : Nat}, v < k → D v = d → ceilI (- c v) (getsN n E D d v) ≤ tms n E D c d k
  | k + 1, v, hv, hd => by
    simp only [tms]
    by_cases e : v = k
    · subst e
      rw [if_pos hd]
      split <;> omega
    · have := tms_ge (n := n) (E := E) (D := D) (c := c) (d := d) (show v < k by omega) hd
      split
      · split <;> omega
      · exact this
theorem tms_le {n : Nat} {E : Nat → Nat → Int} {D c : Nat → Int} {d B : Int} (hB : 0 ≤ B) : ∀ {k : Nat}, (∀ v, v < k → D v = d → ceilI (- c v) (getsN n E D d v) ≤ B) → tms n E D c d k ≤ B
  | 0, _ => hB
  | k + 1, h => by
    have := tms_le (n := n) (E := E) (D := D) (c := c) (d := d) hB (k := k) fun v hv hd => h v (by omega) hd
    simp only [tms]
    split
    · rename_i e
      have := h k (by omega) e
      split <;> omega
    · exact this
def payF (n : Nat) (E : Nat → Nat → Int) (D l : Nat → Int) : Nat → (Nat → Int) → (Nat → Int)
  | 0, t => t
  | d + 1, t => payF n E D l d (fun j => t j + nearS D ((d + 1 : Nat) : Int) (tms n E D (ap n E l t) ((d + 1 : Nat) : Int) n) j)
structure PayOk (n : Nat) (E : Nat → Nat → Int) (D l : Nat → Int) (d : Nat) (B : Int) (t : Nat → Int) : Prop where
  paid : ∀ v, v < n → (d : Int) < D v → 0 ≤ ap n E l t v
  nn : ∀ v, v < n → 0 ≤ t v ∧ t v ≤ B
theorem ap_low {n : Nat} {E : Nat → Nat → Int} (g : Gr n E) {l t : Nat → Int} {B : Int} (h : ∀ v, v < n → 0 ≤ t v ∧ t v ≤ B) (hB : 0 ≤ B) {v : Nat} (hv : v < n) : l v - B * (n * 3) ≤ ap n E l t v ∧ ap n E l t v ≤ l v + B * (n * 3) := by
  have hd := deg_le g hv
  have h1 : net n E t v ≤ B * deg n E v := by
    unfold net deg
    rw [sumTo_mul]
    refine sumTo_mono fun j hj => ?_
    have h2 := h v hv
    have h3 := h j hj
    rw [Int.mul_comm B]
    exact Int.mul_le_mul_of_nonneg_left (by omega) (g.nn v j hv hj)
  have h4 : -(B * deg n E v) ≤ net n E t v := by
    unfold net deg
    rw [sumTo_mul, ← sumTo_neg]
    refine sumTo_mono fun j hj => ?_
    have h2 := h v hv
    have h3 := h j hj
    rw [Int.mul_comm B, ← Int.mul_neg]
    exact Int.mul_le_mul_of_nonneg_left (by omega) (g.nn v j hv hj)
  have h5 : B * deg n E v ≤ B * (n * 3) := Int.mul_le_mul_of_nonneg_left hd hB
  unfold ap
  omega
theorem PayOk.step {n : Nat} {E : Nat → Nat → Int} (g : Gr n E) {q : Nat} {D : Nat → Int} (hd : Dst n E q D) {l t : Nat → Int} {d : Nat} {B M : Int} (hB : 0 ≤ B) (hM : 0 ≤ M) (hl : ∀ v, v < n → v ≠ q → -M ≤ l v) (h : PayOk n E D l (d + 1) B t) :
    0 ≤ tms n E D (ap n E l t) ((d + 1 : Nat) : Int) n ∧ tms n E D (ap n E l t) ((d + 1 : Nat) : Int) n ≤ M + B * (n * 3) ∧
    PayOk n E D l d (M + B * (n * 3) + B) (fun j => t j + nearS D ((d + 1 : Nat) : Int) (tms n E D (ap n E l t) ((d + 1 : Nat) : Int) n) j) := by
  have hnB : 0 ≤ B * ((n : Int) * 3) := Int.mul_nonneg hB (by omega)
  have hT0 := tms_nn (n := n) (E := E) (D := D) (c := ap n E l t) (d := ((d + 1 : Nat) : Int)) n
  have hvq : ∀ v, v < n → D v = ((d + 1 : Nat) : Int) → v ≠ q := fun v hv e e2 => by subst e2; rw [hd.zero] at e; omega
  have hT1 : tms n E D (ap n E l t) ((d + 1 : Nat) : Int) n ≤ M + B * (n * 3) := tms_le (by omega) fun v hv e => by
    have hg := gets_pos g hd hv (hvq v hv e)
    rw [e] at hg
    have a := (ap_low g (l := l) h.nn hB hv).1
    have b := hl v hv (hvq v hv e)
    by_cases hc : 0 ≤ - ap n E l t v
    · have := ceilI_le hg hc; omega
    · have : ceilI (- ap n E l t v) (getsN n E D ((d + 1 : Nat) : Int) v) = 0 := by unfold ceilI; rw [if_pos (by omega)]
      omega
  refine ⟨hT0, hT1, fun v hv hdv => ?_, fun v hv => ?_⟩
  · generalize hTT : tms n E D (ap n E l t) ((d + 1 : Nat) : Int) n = T at *
    have e : ap n E l (fun j => t j + nearS D ((d + 1 : Nat) : Int) T j) v = ap n E l t v + T * getsN n E D ((d + 1 : Nat) : Int) v := by
      unfold ap
      rw [net_add, net_near (by omega)]
      omega
    rw [e]
    have hg0 := (gets_nn g (D := D) (d := ((d + 1 : Nat) : Int)) hv).1
    by_cases e2 : D v = ((d + 1 : Nat) : Int)
    · have hg := gets_pos g hd hv (hvq v hv e2)
      rw [e2] at hg
      have h1 := tms_ge (n := n) (E := E) (D := D) (c := ap n E l t) hv e2
      rw [hTT] at h1
      have h2 := ceilI_ge (a := - ap n E l t v) hg
      have h3 := Int.mul_le_mul_of_nonneg_right h1 hg0
      omega
    · have h1 := h.paid v hv (by omega)
      have := Int.mul_nonneg hT0 hg0
      omega
  · have := h.nn v hv
    unfold nearS
    split <;> omega
def payB (n : Nat) (M : Int) : Nat → Int
  | 0 => 0
  | k + 1 => M + payB n M k * (n * 3) + payB n M k
theorem payB_nn {n : Nat} {M : Int} (hM : 0 ≤ M) : ∀ k, 0 ≤ payB n M k
  | 0 => Int.le_refl _
  | k + 1 => by
    have := payB_nn (n := n) hM k
    have := Int.mul_nonneg this (show 0 ≤ (n : Int) * 3 by omega)
    simp only [payB]
    omega
theorem payB_mono {n : Nat} {M : Int} (hM : 0 ≤ M) (k : Nat) : payB n M k ≤ payB n M (k + 1) := by
  have := payB_nn (n := n) hM k
  have := Int.mul_nonneg this (show 0 ≤ (n : Int) * 3 by omega)
  simp only [payB]
  omega
theorem payF_ok {n : Nat} {E : Nat → Nat → Int} (g : Gr n E) {q : Nat} {D : Nat → Int} (hd : Dst n E q D) {l : Nat → Int} {M : Int} (hM : 0 ≤ M) (hl : ∀ v, v < n → v ≠ q → -M ≤ l v) : ∀ (d k : Nat) (t : Nat → Int), PayOk n E D l d (payB n M k) t → PayOk n E D l 0 (payB n M (k + d)) (payF n E D l d t)
  | 0, k, t, h => h
  | d + 1, k, t, h => by
    obtain ⟨_, _, s⟩ := h.step g hd (payB_nn hM k) hM hl
    have e : k + (d + 1) = k + 1 + d := by omega
    rw [e]
    simp only [payF]
    exact payF_ok g hd hM hl d (k + 1) _ s
theorem payB10 {n : Nat} (hn : n ≤ 10) {M M' : Int} (hM : 0 ≤ M) (hMM : M ≤ M') : ∀ k, payB n M k ≤ payB 10 M' k
  | 0 => Int.le_refl _
  | k + 1 => by
    have ih := payB10 hn hM hMM k
    have h0 := payB_nn (n := n) hM k
    have h1 : payB n M k * (n * 3) ≤ payB 10 M' k * ((10 : Nat) * 3) := Int.mul_le_mul ih (by omega) (by omega) (by omega)
    simp only [payB]
    omega
theorem red_ex {n : Nat} {E : Nat → Nat → Int} (g : Gr n E) {q : Nat} {D : Nat → Int} (hd : Dst n E q D) (l : Nat → Int) : ∃ t : Nat → Int, t q = 0 ∧ Red n E q (ap n E l t) := by
  obtain ⟨M, hM, hl⟩ : ∃ M : Int, 0 ≤ M ∧ ∀ v, v < n → v ≠ q → -M ≤ l v := by
    by_cases hn : 0 < n
    · obtain ⟨w, _, hw⟩ := ex_max (fun v => - l v) hn
      refine ⟨if 0 ≤ - l w then - l w else 0, by split <;> omega, fun v hv _ => ?_⟩
      have := hw v hv
      try dsimp only at this
      split <;> omega
    · exact ⟨0, by omega, fun v hv => by omega⟩
  have h0 : PayOk n E D l n (payB n M 0) (fun _ => 0) := ⟨fun v hv h => by have := hd.le v hv; omega, fun v hv => by simp [payB]⟩
  have h1 := payF_ok g hd hM hl n 0 _ h0
  have h2 : ∀ v, v < n → v ≠ q → 0 ≤ ap n E l (payF n E D l n (fun _ => 0)) v := fun v hv hvq => h1.paid v hv (by have := hd.pos v hv hvq; omega)
  obtain ⟨t, ht⟩ := red_of g hd l _ _ h2 (show _ < (((pot n D (ap n E l (payF n E D l n (fun _ => 0)))).toNat + 1 : Nat) : Int) by omega)
  refine ⟨fun j => t j + (- t q), (by show t q + - t q = 0; omega), ?_⟩
  have e : ap n E l (fun j => t j + (- t q)) = ap n E l t := funext fun i => by unfold ap; rw [net_add, net_const]; omega
  rw [e]; exact ht
noncomputable def redT (b : List (List Int)) (l : List Int) (q : Nat) : List Int :=
  open Classical in if h : ∃ t : List Int, t.length = b.length ∧ gf t q = 0 ∧ Red b.length (ed b) q (ap b.length (ed b) (gf l) (gf t)) then Classical.choose h else []
theorem Red.congr {n : Nat} {E : Nat → Nat → Int} {q : Nat} {c c' : Nat → Int} (h : Red n E q c) (e : ∀ v, v < n → c v = c' v) : Red n E q c' :=
  ⟨fun v hv hvq => by rw [← e v hv]; exact h.1 v hv hvq, fun S hS hex => by
    obtain ⟨v, hv, hs, hlt⟩ := h.2 S hS hex
    exact ⟨v, hv, hs, by rw [← e v hv]; exact hlt⟩⟩
theorem redT_ok {b : List (List Int)} (hB : IsB b) (l : List Int) {q : Nat} (hq : q < b.length) : (redT b l q).length = b.length ∧ gf (redT b l q) q = 0 ∧ Red b.length (ed b) q (ap b.length (ed b) (gf l) (gf (redT b l q))) := by
  have hex : ∃ t : List Int, t.length = b.length ∧ gf t q = 0 ∧ Red b.length (ed b) q (ap b.length (ed b) (gf l) (gf t)) := by
    obtain ⟨t, h0, h1⟩ := red_ex (gr_of hB) (dist_dst hB hq) (gf l)
    have hg : ∀ j, j < b.length → t j = gf ((List.range b.length).map t) j := fun j hj => by unfold gf; rw [getI_nat]; simp [List.getD, hj]
    exact ⟨(List.range b.length).map t, by simp, by rw [← hg q hq]; exact h0, h1.congr fun v hv => ap_congr hv hg rfl⟩
  unfold redT
  rw [dif_pos hex]
  exact Classical.choose_spec hex
theorem redT_eq {b : List (List Int)} (hB : IsB b) {l : List Int} {q : Nat} (hq : q < b.length) {t : List Int} (hl : t.length = b.length) (h0 : gf t q = 0) (h : Red b.length (ed b) q (ap b.length (ed b) (gf l) (gf t))) : t = redT b l q := by
  obtain ⟨a, c, d⟩ := redT_ok hB l hq
  refine ext_getI (by omega) fun i hi => ?_
  have := red_uniq (gr_of hB) hq d h (t := fun j => gf t j + (- gf (redT b l q) j)) (fun v hv => by
    unfold ap
    rw [net_add, net_neg]
    omega)
  have h2 := (this i (by omega)).2
  rw [h0, c] at h2
  unfold gf at h2
  omega
set_option maxHeartbeats 8000000
noncomputable def redL (b : List (List Int)) (l : List Int) (q : Nat) : List Int := apl b l (redT b l q)
theorem redL_len (b : List (List Int)) (l : List Int) (q : Nat) : (redL b l q).length = b.length := apl_len _ _ _
theorem redL_red {b : List (List Int)} (hB : IsB b) (l : List Int) {q : Nat} (hq : q < b.length) : Red b.length (ed b) q (gf (redL b l q)) := (redT_ok hB l hq).2.2.congr fun v hv => (apl_ap hB l _ hv).symm
set_option maxHeartbeats 2000000
def lsum : List Int → Int
  | [] => 0
  | a :: l => a + lsum l
theorem lsum_append : ∀ (a c : List Int), lsum (a ++ c) = lsum a + lsum c
  | [], c => by simp [lsum]
  | x :: a, c => by show x + lsum (a ++ c) = x + lsum a + lsum c; rw [lsum_append a c]; omega
theorem lsum_perm {a c : List Int} (h : a.Perm c) : lsum a = lsum c := by
  induction h with
  | nil => rfl
  | cons x _ ih => show x + _ = x + _; rw [ih]
  | swap x y l => show y + (x + _) = x + (y + _); omega
  | trans _ _ h1 h2 => rw [h1, h2]
theorem lsum_add {α : Type} (f g : α → Int) : ∀ l : List α, lsum (l.map fun a => f a + g a) = lsum (l.map f) + lsum (l.map g)
  | [] => rfl
  | a :: l => by
    show f a + g a + lsum (l.map fun a => f a + g a) = f a + lsum (l.map f) + (g a + lsum (l.map g))
    rw [lsum_add f g l]; omega
theorem lsum_sub {α : Type} (f g : α → Int) : ∀ l : List α, lsum (l.map fun a => f a - g a) = lsum (l.map f) - lsum (l.map g)
  | [] => rfl
  | a :: l => by
    show f a - g a + lsum (l.map fun a => f a - g a) = f a + lsum (l.map f) - (g a + lsum (l.map g))
    rw [lsum_sub f g l]; omega
theorem lsum_const {α : Type} (k : Int) : ∀ l : List α, lsum (l.map fun _ => k) = l.length * k
  | [] => by simp [lsum]
  | a :: l => by
    show k + lsum (l.map fun _ => k) = ((l.length + 1 : Nat) : Int) * k
    rw [lsum_const k l, Int.natCast_add, Int.add_mul]; omega
theorem lsum_congr {α : Type} {f g : α → Int} : ∀ {l : List α}, (∀ a ∈ l, f a = g a) → lsum (l.map f) = lsum (l.map g)
  | [], _ => rfl
  | a :: l, h => by
    show f a + lsum (l.map f) = g a + lsum (l.map g)
    rw [h a List.mem_cons_self, lsum_congr fun x hx => h x (List.mem_cons_of_mem _ hx)]
theorem net_lsum (n : Nat) (E : Nat → Nat → Int) {α : Type} (T : α → Nat → Int) (i : Nat) : ∀ l : List α, net n E (fun j => lsum (l.map fun a => T a j)) i = lsum (l.map fun a => net n E (T a) i)
  | [] => net_const n E 0 i
  | a :: l => by
    show net n E (fun j => T a j + lsum (l.map fun a => T a j)) i = net n E (T a) i + lsum (l.map fun a => net n E (T a) i)
    rw [net_add, net_lsum n E T i l]
theorem perm_of_sub {α : Type} [DecidableEq α] : ∀ {l1 l2 : List α}, l1.Nodup → (∀ x ∈ l1, x ∈ l2) → l1.length = l2.length → l1.Perm l2
  | [], l2, _, _, h => by
    have : l2 = [] := List.length_eq_zero_iff.1 h.symm
    rw [this]
  | a :: t, l2, hn, hs, h => by
    obtain ⟨h1, h2⟩ := List.nodup_cons.1 hn
    have ha := hs a List.mem_cons_self
    have hp := List.perm_cons_erase ha
    refine ((List.perm_cons a).2 (perm_of_sub h2 (fun x hx => ?_) ?_)).trans hp.symm
    · exact (List.mem_erase_of_ne (fun (e : x = a) => h1 (e ▸ hx))).2 (hs x (List.mem_cons_of_mem _ hx))
    · rw [List.length_erase_of_mem ha]
      simp only [List.length_cons] at h
      omega
def allC (K : Nat) : Nat → List (List Int)
  | 0 => [[]]
  | m + 1 => (List.range K).flatMap fun (x : Nat) => (allC K m).map fun l => (x : Int) :: l
theorem mem_allC {K : Nat} : ∀ {m : Nat} {l : List Int}, l ∈ allC K m ↔ l.length = m ∧ ∀ x ∈ l, 0 ≤ x ∧ x < K
  | 0, l => by
    unfold allC
    constructor
    · intro h
      obtain rfl : l = [] := by simpa using h
      exact ⟨rfl, fun x hx => by cases hx⟩
    · rintro ⟨h, -⟩
      have : l = [] := List.length_eq_zero_iff.1 h
      simp [this]
  | m + 1, l => by
    unfold allC
    rw [List.mem_flatMap]
    constructor
    · rintro ⟨x, hx, h⟩
      obtain ⟨r, hr, rfl⟩ := List.mem_map.1 h
      obtain ⟨h1, h2⟩ := mem_allC.1 hr
      have := List.mem_range.1 hx
      refine ⟨by simp [h1], fun y hy => ?_⟩
      rcases List.mem_cons.1 hy with rfl | hy
      · omega
      · exact h2 y hy
    · rintro ⟨h1, h2⟩
      cases l with
      | nil => simp at h1
      | cons a r =>
        have ha := h2 a List.mem_cons_self
        refine ⟨a.toNat, List.mem_range.2 (by omega), List.mem_map.2 ⟨r, mem_allC.2 ⟨by simpa using h1, fun x hx => h2 x (List.mem_cons_of_mem _ hx)⟩, ?_⟩⟩
        rw [Int.toNat_of_nonneg ha.1]
theorem nodup_flat {α β : Type} {f : α → List β} : ∀ {l : List α}, l.Nodup → (∀ a ∈ l, (f a).Nodup) → (∀ a ∈ l, ∀ c ∈ l, a ≠ c → ∀ x ∈ f a, x ∉ f c) → (l.flatMap f).Nodup
  | [], _, _, _ => by simp
  | a :: l, hn, h1, h2 => by
    obtain ⟨n1, n2⟩ := List.nodup_cons.1 hn
    rw [List.flatMap_cons, List.nodup_append]
    refine ⟨h1 a List.mem_cons_self, nodup_flat n2 (fun c hc => h1 c (List.mem_cons_of_mem _ hc)) (fun c hc d hd => h2 c (List.mem_cons_of_mem _ hc) d (List.mem_cons_of_mem _ hd)), fun x hx y hy e => ?_⟩
    subst e
    obtain ⟨c, hc, hxc⟩ := List.mem_flatMap.1 hy
    exact h2 a List.mem_cons_self c (List.mem_cons_of_mem _ hc) (fun e => n1 (e ▸ hc)) x hx hxc
theorem nodup_mapI {α β : Type} {f : α → β} {l : List α} (h : l.Nodup) (hf : ∀ a ∈ l, ∀ c ∈ l, f a = f c → a = c) : (l.map f).Nodup := by
  rw [List.nodup_iff_pairwise_ne, List.pairwise_map]
  refine (List.pairwise_iff_getElem).2 fun i j hi hj hij e => ?_
  have := hf _ (List.getElem_mem hi) _ (List.getElem_mem hj) e
  exact (List.pairwise_iff_getElem.1 (List.nodup_iff_pairwise_ne.1 h)) i j hi hj hij this
theorem nodup_allC {K : Nat} : ∀ m, (allC K m).Nodup
  | 0 => by simp [allC]
  | m + 1 => by
    unfold allC
    refine nodup_flat List.nodup_range (fun x hx => nodup_mapI (nodup_allC m) fun a _ c _ e => by injection e) fun x hx y hy hxy l hl hl2 => ?_
    obtain ⟨r, _, rfl⟩ := List.mem_map.1 hl
    obtain ⟨r2, _, e⟩ := List.mem_map.1 hl2
    injection e with e1 e2
    omega
theorem gf_cons (x : Int) (l : List Int) : gf (x :: l) = cns x (gf l) := by
  funext i
  cases i with
  | zero =>
    show getI (x :: l) ((0 : Nat) : Int) = x
    rw [getI_nat]; rfl
  | succ i =>
    show getI (x :: l) ((i + 1 : Nat) : Int) = getI l (i : Int)
    rw [getI_nat, getI_nat]
    rfl
theorem lsum_flat {α : Type} (f : List Int → Int) (g : α → List (List Int)) : ∀ l : List α, lsum ((l.flatMap g).map f) = lsum (l.map fun a => lsum ((g a).map f))
  | [] => rfl
  | a :: l => by
    rw [List.flatMap_cons, List.map_append, lsum_append, lsum_flat f g l]
    rfl
theorem lsum_range (F : Nat → Int) : ∀ n, lsum ((List.range n).map F) = sumTo F n
  | 0 => rfl
  | n + 1 => by
    rw [List.range_succ, List.map_append, lsum_append, lsum_range F n]
    show _ + (F n + 0) = sumTo F n + F n
    omega
theorem sumC_list {K : Nat} : ∀ {m : Nat} (F : (Nat → Int) → Int), sumC K m F = lsum ((allC K m).map fun l => F (gf l))
  | 0, F => by
    have e : gf [] = fun _ => 0 := by
      funext i
      show getI [] (i : Int) = 0
      rw [getI_nat]; rfl
    show F (fun _ => 0) = F (gf []) + 0
    rw [e]; omega
  | m + 1, F => by
    unfold allC sumC
    rw [lsum_flat, lsum_range]
    refine sumTo_congr fun x hx => ?_
    rw [sumC_list, List.map_map]
    refine lsum_congr fun l _ => ?_
    show F (cns (x : Int) (gf l)) = F (gf ((x : Int) :: l))
    rw [gf_cons]
noncomputable def ssL (K m : Nat) (w : Nat → Int) (E : Nat → Nat → Int) : List (List Int) := open Classical in (allC K m).filter fun l => decide (SS m w E (gf l))
theorem mem_ssL {K m : Nat} {w : Nat → Int} {E : Nat → Nat → Int} {l : List Int} : l ∈ ssL K m w E ↔ (l.length = m ∧ ∀ x ∈ l, 0 ≤ x ∧ x < K) ∧ SS m w E (gf l) := by
  unfold ssL
  rw [List.mem_filter, mem_allC]
  simp
theorem nodup_ssL (K m : Nat) (w : Nat → Int) (E : Nat → Nat → Int) : (ssL K m w E).Nodup := by
  unfold ssL
  have h := nodup_allC (K := K) m
  exact h.sublist List.filter_sublist
theorem len_ssL (K m : Nat) (w : Nat → Int) (E : Nat → Nat → Int) : nSS K m w E = ((ssL K m w E).length : Int) := by
  unfold nSS ssL
  rw [sumC_list]
  generalize allC K m = L
  induction L with
  | nil => rfl
  | cons a L ih =>
    show b01 (SS m w E (gf a)) + lsum (L.map fun l => b01 (SS m w E (gf l))) = _
    rw [ih]
    by_cases h : SS m w E (gf a)
    · rw [b01_yes h]
      simp [List.filter_cons, h]
      omega
    · rw [b01_no h]
      simp [List.filter_cons, h]
set_option maxHeartbeats 8000000
theorem p_quo {H : Heap} {a c : Int} (ha : 0 ≤ a ∧ a < 4611686018427387904) (hc : 0 < c) : evP H (.bin .quo) [.int .i64 a, .int .i64 c] = some (.int .i64 (a / c)) := by
  have h1 : a.tdiv c = a / c := Int.tdiv_eq_ediv_of_nonneg ha.1
  have h2 : 0 ≤ a / c := Int.ediv_nonneg ha.1 (by omega)
  have h3 : a / c ≤ a := Int.ediv_le_self c ha.1
  simp only [evP, binV, isShift, binInt]
  rw [if_neg (show ¬ c = 0 by omega), h1, show IntKind.i64.wrap (a / c) = a / c from wrapI (by omega)]
  rfl
set_option maxHeartbeats 8000000
def maxTo (l : List Int) : Nat → Int
  | 0 => getI l (0 : Int)
  | k + 1 => if getI l ((k + 1 : Nat) : Int) > maxTo l k then getI l ((k + 1 : Nat) : Int) else maxTo l k
theorem maxTo_le (l : List Int) (a : Int) : ∀ k, maxTo l k ≤ a ↔ ∀ j : Nat, j ≤ k → getI l (j : Int) ≤ a
  | 0 => ⟨fun h j hj => by obtain rfl : j = 0 := by omega
                           exact h, fun h => h 0 (Nat.le_refl _)⟩
  | k + 1 => by
    have ih := maxTo_le l a k
    simp only [maxTo]
    constructor
    · intro h j hj
      rcases (by omega : j ≤ k ∨ j = k + 1) with h1 | rfl
      · refine ih.1 ?_ j h1
        split at h <;> omega
      · split at h <;> omega
    · intro h
      have h1 := ih.2 fun j hj => h j (by omega)
      have h2 := h (k + 1) (Nat.le_refl _)
      split <;> omega
theorem c112 {x : AV} {l : List Int} (hx : IsL x l) (h1 : 1 ≤ l.length) (hl : l.length ≤ 1000) {m : Nat} (hm : 2010 ≤ m) (H : Heap) : callPure (evF tab it m) true 112 [x] H = some (.int .i64 (maxTo l (l.length - 1)), H) := by
  have f112 : evF tab it m 112 [x] [] = some (.int .i64 (maxTo l (l.length - 1)), []) := by
    obtain ⟨m, rfl⟩ : ∃ j, m = j + 1 := ⟨m - 1, by omega⟩
    have fx := hx.free
    refine f_enter rfl rfl ?_
    generalize evF tab it m = call at *
    repeat' first
 | (apply s_mov; exact aW)
 | (apply c_nil)
 | (apply s_lss; exact rfl; all_goals (intro _; try (exfalso; omega)))
 | (apply s_len; exact aW; exact aI)
 | (apply s_idx; exact aW; exact rfl; exact aI; omega)
 | (apply s_ldI; exact rfl; omega)
 | (apply c_seq)
 | (apply c_reg)
 | (apply c_block)
 | (apply c_skip)
 | (apply c_condF; exact rfl)
 | (with_reducible apply k_c)
    refine c_loop ?_
    refine loop_gc (σ := Nat) (fun k => [x, .int .i64 (maxTo l k), .int .i64 (((k + 1 : Nat) : Nat) : Int)]) (fun _ => []) (fun k => k + 1 ≤ l.length) (fun k => l.length - k) ?_ _ 0 _ _ (by omega) (by omega) (gc_to rfl (by simp [idFreeL, AV.idFree, *]; done))
    intro k hk K hK
    by_cases hkl : k + 1 < l.length
    · skip
      repeat' first
 | (apply s_mov; exact aW)
 | (apply c_nil)
 | (apply s_lss; exact rfl; all_goals (intro _; try (exfalso; omega)))
 | (apply s_add; exact rfl; omega)
 | (apply s_len; exact aW; exact aI)
 | (apply s_idx; exact aW; exact rfl; exact aI; omega)
 | (apply s_mx; exact rfl; exact rfl)
 | (apply s_ldI; exact rfl; omega)
 | (apply c_seq)
 | (apply c_reg)
 | (apply c_block)
 | (apply c_skip)
 | (apply c_condT; exact rfl)
 | (with_reducible apply k_c)
      have := hK (k + 1)
      simp only [maxTo] at this
      exact this _ _ (by omega) (by omega) (gc_to rfl (by simp [idFreeL, AV.idFree, *]; done))
    · obtain rfl : k = l.length - 1 := by omega
      repeat' first
 | (apply s_mov; exact aW)
 | (apply c_nil)
 | (apply s_lss; exact rfl; all_goals (intro _; try (exfalso; omega)))
 | (apply s_len; exact aW; exact aI)
 | (apply c_seq)
 | (apply c_reg)
 | (apply c_exitH)
 | (apply c_ret)
 | (apply c_condF; exact rfl)
 | (apply c_preF; exact aK; exact aF)
 | (with_reducible apply k_c)
      exact fin_t (by (conv => lhs; whnf)) (by rfl) rfl
  exact callPure_free (by simp [idFreeL, AV.idFree, hx.free]) (by simp) f112 rfl
theorem c113 {a c : Int} (hc : 1 ≤ c ∧ c ≤ 1000) (ha : -4611686018427387904 ≤ a ∧ a ≤ 2305843009213693952) {m : Nat} (hm : 1 ≤ m) (H : Heap) : callPure (evF tab it m) true 113 [.int .i64 a, .int .i64 c] H = some (.int .i64 (ceilI a c), H) := by
  obtain ⟨m, rfl⟩ : ∃ j, m = j + 1 := ⟨m - 1, by omega⟩
  have f : evF tab it (m + 1) 113 [.int .i64 a, .int .i64 c] [] = some (.int .i64 (ceilI a c), []) := by
    refine f_enter rfl rfl ?_
    by_cases h : a ≤ 0
    · have e : ceilI a c = 0 := by unfold ceilI; rw [if_pos h]
      rw [e]
      repeat' first
 | (apply s_mov; exact aW)
 | (apply c_nil)
 | (apply s_leq; exact rfl; all_goals (intro _; try (exfalso; omega)))
 | (apply c_seq)
 | (apply c_reg)
 | (apply c_ret)
 | (apply c_condT; exact rfl)
 | (with_reducible apply k_c)
      all_goals first | exact fin_t (by (conv => lhs; whnf)) (by rfl) rfl | (exfalso; omega)
    · have e : ceilI a c = (a + c - 1) / c := by unfold ceilI; rw [if_neg h]
      rw [e]
      have quo := fun H => p_quo (H := H) (a := a + c - 1) (c := c) (by omega) (by omega)
      repeat' first
 | (apply s_mov; exact aW)
 | (apply c_nil)
 | (apply s_leq; exact rfl; all_goals (intro _; try (exfalso; omega)))
 | (apply s_add; exact rfl; omega)
 | (apply s_sub; exact rfl; omega)
 | (apply s_pn; exact aO; exact quo _)
 | (apply c_seq)
 | (apply c_reg)
 | (apply c_skip)
 | (apply c_ret)
 | (apply c_condF; exact rfl)
 | (with_reducible apply k_c)
      all_goals first | exact fin_t (by (conv => lhs; whnf)) (by rfl) rfl | (exfalso; omega)
  exact callPure_free (by simp [idFreeL, AV.idFree]) (by simp) f rfl
theorem tms_congr {n : Nat} {E : Nat → Nat → Int} {D c c' : Nat → Int} {d : Int} (h : ∀ v, v < n → c v = c' v) : ∀ {k : Nat}, k ≤ n → tms n E D c d k = tms n E D c' d k
  | 0, _ => rfl
  | k + 1, hk => by
    simp only [tms]
    rw [tms_congr h (by omega), h k (by omega)]
theorem payF_congr {n : Nat} {E : Nat → Nat → Int} {D l : Nat → Int} : ∀ (d : Nat) {t t' : Nat → Int}, (∀ j, j < n → t j = t' j) → ∀ j, j < n → payF n E D l d t j = payF n E D l d t' j
  | 0, t, t', h, j, hj => h j hj
  | d + 1, t, t', h, j, hj => by
    simp only [payF]
    rw [tms_congr (c' := ap n E l t') (fun v hv => ap_congr hv h rfl) (Nat.le_refl _)]
    exact payF_congr d (fun j hj => by rw [h j hj]) j hj
theorem PayOk.congr {n : Nat} {E : Nat → Nat → Int} {D l : Nat → Int} {d : Nat} {B : Int} {t t' : Nat → Int} (h : PayOk n E D l d B t) (e : ∀ j, j < n → t j = t' j) : PayOk n E D l d B t' :=
  ⟨fun v hv hd => by rw [← ap_congr hv e rfl]; exact h.paid v hv hd, fun v hv => by rw [← e v hv]; exact h.nn v hv⟩
def payL (b : List (List Int)) (l : List Int) (q : Nat) : List Int :=
  (List.range b.length).map (payF b.length (ed b) (gf (dist b q).1) (gf l) (maxTo (dist b q).1 (b.length - 1)).toNat (fun _ => 0))
theorem payL_len (b : List (List Int)) (l : List Int) (q : Nat) : (payL b l q).length = b.length := by simp [payL]
theorem payL_get {b : List (List Int)} {l : List Int} {q j : Nat} (hj : j < b.length) : getI (payL b l q) (j : Int) = payF b.length (ed b) (gf (dist b q).1) (gf l) (maxTo (dist b q).1 (b.length - 1)).toNat (fun _ => 0) j := by
  rw [getI_nat]
  simp [payL, List.getD, hj]
theorem payB_bound {n : Nat} (hn : n ≤ 10) {M : Int} (hM : 0 ≤ M ∧ M ≤ 100) {k : Nat} (hk : k ≤ 10) : 0 ≤ payB n M k ∧ payB n M k ≤ 2732094289936000 := by
  have h1 := payB10 hn hM.1 hM.2 k
  have h2 : ∀ j : Nat, payB 10 100 (10 - j) ≤ payB 10 100 10 := fun j => by
    induction j with
    | zero => exact Int.le_refl _
    | succ j ih =>
      by_cases h : j < 10
      · have := payB_mono (n := 10) (M := 100) (by omega) (10 - (j + 1))
        rw [show 10 - (j + 1) + 1 = 10 - j by omega] at this
        omega
      · rw [show 10 - (j + 1) = 10 - j by omega]; exact ih
  have h3 := h2 (10 - k)
  rw [show 10 - (10 - k) = k by omega] at h3
  have h4 : payB 10 100 10 = 2732094289936000 := by decide
  exact ⟨payB_nn hM.1 k, by omega⟩
attribute [local go_sem] gc subHeap reach_skip ren_free reach_new reach_newp reach_end rangeL roots boxCells nodupB posOf renL AV.ren pickO renH renO looks look bindEnv envOf reach_int reach_bool reach_nilS reach_rd putRow cells_sl cells_int cells_bool cells_nilS cells_rd cells_agg reach_agg reach_tup idFreeL idf_sl idf_ptr idf_int idf_bool idf_nilS idf_rd reach_fn reach_mp cells_fn cells_ptr cells_mp idf_mp idf_fn idf_agg idf_tup
set_option maxHeartbeats 8000000
structure Near (n q : Nat) (l : List Int) : Prop where
  len : l.length = n
  oth : ∀ v : Nat, v < n → v ≠ q → -100 ≤ getI l (v : Int) ∧ getI l (v : Int) ≤ 100
  own : -1125899906842624 ≤ getI l (q : Int) ∧ getI l (q : Int) ≤ 1125899906842624
theorem Near.all {n q : Nat} {l : List Int} (h : Near n q l) : ∀ v : Nat, v < n → -1125899906842624 ≤ getI l (v : Int) ∧ getI l (v : Int) ≤ 1125899906842624 := fun v hv => by
  by_cases e : v = q
  · subst e; exact h.own
  · have := h.oth v hv e; omega
theorem p_negI {H : Heap} {a : Int} (h : -9223372036854775808 < a ∧ a < 9223372036854775808) : evP H (.un .neg) [.int .i64 a] = some (.int .i64 (-a)) := by
  simp only [evP]; rw [wrapI (by omega)]; simp
theorem f105 {x y : AV} {b : List (List Int)} {l : List Int} {q : Nat} (hx : IsLL x b) (hy : IsL y l) (hB : IsB b) (hq : q < b.length) (hl : Near b.length q l) {m : Nat} (hm : 2200 ≤ m) :
    evF tab it m 105 [x, y, .int .i64 (q : Int)] [] = some (.sl 0 1 0 b.length, [some (.data (iL (payL b l q)))]) := by
  obtain ⟨m, rfl⟩ : ∃ j, m = j + 1 := ⟨m - 1, by omega⟩
  have fx := hx.free; have fy := hy.free
  have hn1 := hB.n1; have hn2 := hB.n2
  have hbd := hB.bd
  have g := gr_of hB
  have hd := dist_dst hB hq
  have hfl := dist_len b q
  have lx : ∀ H, evP H .len [x] = some (.int .i64 ((b.length : Nat) : Int)) := fun H => by cases hx <;> rfl
  have e84 := fun H => c84 hx hbd hq (m := m) (by omega) H
  have if84 : IsL (.rd 1 (dist b q).1.length (iL (dist b q).1)) (dist b q).1 := .rd _
  have e112 := fun H => c112 if84 (by omega) (by omega) (m := m) (by omega) H
  have mk := fun call H => @e_mkI call H b.length (by unfold most; omega)
  have hfar : ∀ v : Nat, v < b.length → 0 ≤ getI (dist b q).1 (v : Int) ∧ getI (dist b q).1 (v : Int) ≤ b.length := fun v hv => ⟨hd.nn hv, hd.le v hv⟩
  have hmx := (maxTo_le (dist b q).1 b.length (b.length - 1)).2 fun j hj => (hfar j (by omega)).2
  have hmx0 : 0 ≤ maxTo (dist b q).1 (b.length - 1) := by
    have := (maxTo_le (dist b q).1 (maxTo (dist b q).1 (b.length - 1)) (b.length - 1)).1 (Int.le_refl _) q (by omega)
    have h0 := hd.zero
    unfold gf at h0
    omega
  have hmxa : ∀ v : Nat, v < b.length → getI (dist b q).1 (v : Int) ≤ maxTo (dist b q).1 (b.length - 1) := fun v hv => (maxTo_le (dist b q).1 (maxTo (dist b q).1 (b.length - 1)) (b.length - 1)).1 (Int.le_refl _) v (by omega)
  have hgD : ∀ v : Nat, gf (dist b q).1 v = getI (dist b q).1 (v : Int) := fun _ => rfl
  rw [hfl] at e112
  have hRl := payL_len b l q
  have hRg := fun (j : Nat) (hj : j < b.length) => payL_get (b := b) (l := l) (q := q) hj
  have ff := if84.free
  have hln := hl.len
  refine f_enter rfl rfl ?_
  have e55 := fun (t : List Int) (ht : t.length = b.length) h1 (H : Heap) (ha : frzL H 40 [x, y, .sl 0 1 0 b.length] = some [x, y, .rd 1 b.length (iL t)]) => c55p hx hy (rd_isL ht) hbd hln ht h1 (fun v hv => by have := hl.all v hv; omega) (m := m) (by omega) H ha
  have e113 := fun (a c : Int) (hc : 1 ≤ c ∧ c ≤ 1000) (ha : -4611686018427387904 ≤ a ∧ a ≤ 2305843009213693952) (H : Heap) => c113 hc ha (m := m) (by omega) H
  generalize hcall : evF tab it m = call at *
  generalize hF : (dist b q).1 = F at *
  generalize hmm : maxTo F (b.length - 1) = mx at *
  generalize hRR : payL b l q = R at *
  rw [hfl] at e84 if84 ff
  generalize hvf : AV.rd 1 b.length (iL F) = vf at *
  have gcO : ∀ (d : Int) (C : List AV), gc 0 [x, y, vf, .sl 0 1 0 b.length, .int .i64 d] [some (.data C)] = some ([x, y, vf, .sl 0 1 0 b.length, .int .i64 d], [some (.data C)]) := fun d C => by simp [go_sem, fx, fy, ff]
  have gcA : ∀ (d T : Int) (vn : AV) (v : Nat) (C : List AV), vn.idFree = true → gc 0 [x, y, vf, .sl 0 1 0 b.length, .int .i64 d, vn, .int .i64 T, .int .i64 ((b.length : Nat) : Int), .int .i64 (v : Int)] [some (.data C)] = some ([x, y, vf, .sl 0 1 0 b.length, .int .i64 d, vn, .int .i64 T, .int .i64 ((b.length : Nat) : Int), .int .i64 (v : Int)], [some (.data C)]) := fun d T vn v C h => by simp [go_sem, fx, fy, ff, h]
  have gcG : ∀ (d T G : Int) (vn vr : AV) (v u : Nat) (C : List AV), vn.idFree = true → vr.idFree = true → gc 0 [x, y, vf, .sl 0 1 0 b.length, .int .i64 d, vn, .int .i64 T, .int .i64 (v : Int), .int .i64 G, .int .i64 ((b.length : Nat) : Int), .int .i64 (v : Int), vr, .int .i64 ((b.length : Nat) : Int), .int .i64 (u : Int)] [some (.data C)] = some ([x, y, vf, .sl 0 1 0 b.length, .int .i64 d, vn, .int .i64 T, .int .i64 (v : Int), .int .i64 G, .int .i64 ((b.length : Nat) : Int), .int .i64 (v : Int), vr, .int .i64 ((b.length : Nat) : Int), .int .i64 (u : Int)], [some (.data C)]) := fun d T G vn vr v u C h h2 => by simp [go_sem, fx, fy, ff, h, h2]
  have gcB : ∀ (d T : Int) (v : Nat) (C : List AV), gc 0 [x, y, vf, .sl 0 1 0 b.length, .int .i64 d, .int .i64 T, .int .i64 ((b.length : Nat) : Int), .int .i64 (v : Int)] [some (.data C)] = some ([x, y, vf, .sl 0 1 0 b.length, .int .i64 d, .int .i64 T, .int .i64 ((b.length : Nat) : Int), .int .i64 (v : Int)], [some (.data C)]) := fun d T v C => by simp [go_sem, fx, fy, ff]
  skip
  repeat' first
 | (apply s_mov; exact aW)
 | (apply c_nil)
 | (apply s_cn; exact aO; exact e84 _)
 | (apply s_pn; exact aO; exact lx _)
 | (apply s_en; exact aO; exact mk _ _)
 | (apply s_cn; exact aO; exact e112 _)
 | (apply c_seq)
 | (apply c_reg)
 | (apply c_block)
 | (with_reducible apply k_c)
  refine c_loop ?_
  refine loop_gc (σ := Nat × List Int) (fun p => [x, y, vf, .sl 0 1 0 b.length, .int .i64 (p.1 : Int)]) (fun p => [some (.data (iL p.2))])
    (fun p => (p.1 : Int) ≤ mx ∧ p.2.length = b.length ∧ PayOk b.length (ed b) (gf F) (gf l) p.1 (payB b.length 100 (mx.toNat - p.1)) (gf p.2) ∧ ∀ j, j < b.length → payF b.length (ed b) (gf F) (gf l) p.1 (gf p.2) j = getI R (j : Int)) (fun p => p.1) ?_ _ (mx.toNat, List.replicate b.length 0) _ _
    ⟨by dsimp only; omega, by simp, ⟨fun v hv h => by dsimp only at h; have := hmxa v hv; rw [hgD] at h; omega, fun v hv => by
        have e : gf (List.replicate b.length 0) v = 0 := by unfold gf; rw [getI_nat]; simp [List.getD, hv]
        have := payB_nn (n := b.length) (M := 100) (by omega) (mx.toNat - mx.toNat)
        dsimp only
        omega⟩, fun j hj => by
        dsimp only
        rw [hRg j hj]
        exact payF_congr _ (fun i hi => by unfold gf; rw [getI_nat]; simp [List.getD, hi]) j hj⟩ (by dsimp only; omega) (by
        have := gcO mx (iL (List.replicate b.length 0))
        rw [show ((mx.toNat : Nat) : Int) = mx by omega]
        exact this)
  intro ⟨d, S⟩ ⟨hdm, hSl, hok, hR⟩ K hK
  dsimp only at hdm hSl hok hR hK ⊢
  cases d with
  | zero =>
    obtain rfl : S = R := ext_getI (by omega) fun i hi => hR i (by omega)
    repeat' first
 | (apply s_mov; exact aW)
 | (apply c_nil)
 | (apply s_gtr; exact rfl; all_goals (intro _; try (exfalso; omega)))
 | (apply c_seq)
 | (apply c_reg)
 | (apply c_exitH)
 | (apply c_condF; exact rfl)
 | (with_reducible apply k_c)
    apply c_pre (vs := [.sl 0 1 0 b.length]) (H' := [some (.data (iL S))])
    · simp [go_sem]
    repeat' first
 | (apply s_mov; exact aW)
 | (apply c_nil)
 | (apply c_seq)
 | (apply c_reg)
 | (apply c_ret)
 | (with_reducible apply k_c)
    simp [finish, ress, resOf, look, tupOf, go_sem]
  | succ d =>
    obtain ⟨hT0, hT1, hst⟩ := PayOk.step g hd (l := gf l) (t := gf S) (payB_nn (by omega) _) (M := 100) (by omega) (fun v hv hvq => (hl.oth v hv hvq).1) hok
    have hpb := payB_bound hn2 (M := 100) (by omega) (k := mx.toNat - (d + 1)) (by omega)
    have hpb1 := payB_bound hn2 (M := 100) (by omega) (k := mx.toNat - d) (by omega)
    have hpe : payB b.length 100 (mx.toNat - d) = 100 + payB b.length 100 (mx.toNat - (d + 1)) * (b.length * 3) + payB b.length 100 (mx.toNat - (d + 1)) := by
      rw [show mx.toNat - d = (mx.toNat - (d + 1)) + 1 by omega]; rfl
    rw [← hpe] at hst
    simp only [payF] at hR
    have hSb : ∀ v : Nat, v < b.length → 0 ≤ getI S (v : Int) ∧ getI S (v : Int) ≤ payB b.length 100 (mx.toNat - (d + 1)) := fun v hv => hok.nn v hv
    have e55' := e55 S hSl (fun v hv => by have := hSb v hv; omega) [some (.data (iL S))] (frzL_cons (frzV_of fx) (frzL_cons (frzV_of fy) (frzL_cons (frz_sl rfl hSl) frzL_nil)))
    have hAl := apl_len b l S
    have hAg : ∀ v : Nat, v < b.length → getI (apl b l S) (v : Int) = ap b.length (ed b) (gf l) (gf S) v := fun v hv => apl_ap hB l S hv
    have hlow : ∀ v : Nat, v < b.length → -288230376151711744 ≤ getI (apl b l S) (v : Int) ∧ getI (apl b l S) (v : Int) ≤ 288230376151711744 := fun v hv => by
      rw [hAg v hv]
      have h1 := ap_low g (l := gf l) (t := gf S) hok.nn hpb.1 hv
      have h2 := hl.all v hv
      have h3 : payB b.length 100 (mx.toNat - (d + 1)) * ((b.length : Int) * 3) ≤ 2732094289936000 * (10 * 3) := Int.mul_le_mul hpb.2 (by omega) (by omega) (by omega)
      have h4 : gf l v = getI l (v : Int) := rfl
      omega
    have htms : ∀ k, k ≤ b.length → tms b.length (ed b) (gf F) (ap b.length (ed b) (gf l) (gf S)) ((d + 1 : Nat) : Int) k = tms b.length (ed b) (gf F) (gf (apl b l S)) ((d + 1 : Nat) : Int) k := fun k hk => tms_congr (fun v hv => (hAg v hv).symm) hk
    have iA := rd_isL (n := b.length) hAl
    rw [htms _ (Nat.le_refl _)] at hT0 hT1 hst hR
    generalize hA : apl b l S = A at *
    generalize hvA : AV.rd 1 b.length (iL A) = vA at *
    have fA := iA.free
    repeat' first
 | (apply s_mov; exact aW)
 | (apply c_nil)
 | (apply s_gtr; exact rfl; all_goals (intro _; try (exfalso; omega)))
 | (apply s_cn; exact aO; exact e55')
 | (apply s_pn; exact aO; exact lx _)
 | (apply c_seq)
 | (apply c_reg)
 | (apply c_block)
 | (apply c_skip)
 | (apply c_condT; exact rfl)
 | (with_reducible apply k_c)
    refine c_loop ?_
    refine loop_gc (σ := Nat) (fun k => [x, y, vf, .sl 0 1 0 b.length, .int .i64 ((d + 1 : Nat) : Int), vA, .int .i64 (tms b.length (ed b) (gf F) (gf A) ((d + 1 : Nat) : Int) k), .int .i64 ((b.length : Nat) : Int), .int .i64 (k : Int)]) (fun _ => [some (.data (iL S))]) (fun k => k ≤ b.length) (fun k => b.length - k) ?_ _ 0 _ _ (by omega) (by omega) (gcA _ _ _ 0 _ fA)
    intro v hv K2 hK2
    have hTk0 := tms_nn (n := b.length) (E := ed b) (D := gf F) (c := gf A) (d := ((d + 1 : Nat) : Int)) v
    have hK21 := hK2 (v + 1)
    simp only [tms] at hK21
    by_cases hvn : v < b.length
    · have hfv := hfar v hvn
      have hgDv := hgD v
      rw [hgDv] at hK21
      by_cases hfd : getI F (v : Int) = ((d + 1 : Nat) : Int)
      · rw [if_pos hfd] at hK21
        have hvq : v ≠ q := fun e => by subst e; have := hd.zero; rw [hgD] at this; omega
        have hgp := gets_pos g hd hvn hvq
        rw [hgD, hfd] at hgp
        have hgn := gets_nn g (D := gf F) (d := ((d + 1 : Nat) : Int)) hvn
        have hrow := hx.at (i := (v : Int)) ⟨by omega, by omega⟩
        have hrl := hbd.row v hvn
        have lr : ∀ H, evP H .len [llAt x (v : Int)] = some (.int .i64 ((b.length : Nat) : Int)) := fun H => by rw [← hrl]; exact p_lenI hrow
        have fr := hrow.free
        have hlv := hlow v hvn
        have ng := fun H => p_negI (H := H) (a := getI A (v : Int)) (by omega)
        have e113' := e113 (-getI A (v : Int)) (getsN b.length (ed b) (gf F) ((d + 1 : Nat) : Int) v) (by omega) (by omega)
        have hgA : gf A v = getI A (v : Int) := rfl
        rw [hgA] at hK21
        generalize hCC : ceilI (-getI A (v : Int)) (getsN b.length (ed b) (gf F) ((d + 1 : Nat) : Int) v) = CC at *
        generalize hTk : tms b.length (ed b) (gf F) (gf A) ((d + 1 : Nat) : Int) v = Tk at *
        repeat' first
 | (apply s_mov; exact aW)
 | (apply c_nil)
 | (apply s_lss; exact rfl; all_goals (intro _; try (exfalso; omega)))
 | (apply s_neq; exact rfl; all_goals (intro _; try (exfalso; omega)))
 | (apply s_pn; exact aO; exact lr _)
 | (apply s_idx; exact aW; exact rfl; exact aI; omega)
 | (apply s_idxLL; exact aW; exact rfl; assumption; omega)
 | (apply s_ldI; exact rfl; omega)
 | (apply s_ldLL; exact rfl; assumption; omega)
 | (apply c_seq)
 | (apply c_reg)
 | (apply c_block)
 | (apply c_skip)
 | (apply c_condT; exact rfl)
 | (apply c_condF; exact rfl)
 | (with_reducible apply k_c)
        all_goals try (exfalso; omega)
        refine c_loop ?_
        refine loop_gc (σ := Nat) (fun u => [x, y, vf, .sl 0 1 0 b.length, .int .i64 ((d + 1 : Nat) : Int), vA, .int .i64 Tk, .int .i64 (v : Int), .int .i64 (sumTo (fun u => if gf F u < ((d + 1 : Nat) : Int) then ed b v u else 0) u), .int .i64 ((b.length : Nat) : Int), .int .i64 (v : Int), llAt x (v : Int), .int .i64 ((b.length : Nat) : Int), .int .i64 (u : Int)]) (fun _ => [some (.data (iL S))]) (fun u => u ≤ b.length) (fun u => b.length - u) ?_ _ 0 _ _ (by omega) (by omega) (gcG _ _ _ _ _ v 0 _ fA fr)
        intro u hu K3 hK3
        have hsl := sumTo_le (f := fun u => if gf F u < ((d + 1 : Nat) : Int) then ed b v u else 0) (M := 3) (n := u) fun j hj => by
          have h1 := g.nn v j hvn (by omega)
          have h2 := g.le v j hvn (by omega)
          try dsimp only
          split <;> omega
        have hK31 := hK3 (u + 1)
        simp only [sumTo] at hK31
        have hsN : u = b.length → sumTo (fun u => if gf F u < ((d + 1 : Nat) : Int) then ed b v u else 0) u = getsN b.length (ed b) (gf F) ((d + 1 : Nat) : Int) v := fun e => by subst e; rfl
        generalize hZ : sumTo (fun u => if gf F u < ((d + 1 : Nat) : Int) then ed b v u else 0) u = Z at *
        by_cases hun : u < b.length
        · have h1 := hbd.val v u hvn hun
          have hfu := hfar u hun
          have hed : ed b v u = getI (getLL b (v : Int)) (u : Int) := rfl
          have hgDu := hgD u
          rw [hed, hgDu] at hK31
          by_cases hlt : getI F (u : Int) < ((d + 1 : Nat) : Int)
          · rw [if_pos hlt] at hK31
            repeat' first
 | (apply s_mov; exact aW)
 | (apply c_nil)
 | (apply s_lss; exact rfl; all_goals (intro _; try (exfalso; omega)))
 | (apply s_add; exact rfl; omega)
 | (apply s_idx; exact aW; exact rfl; exact aI; omega)
 | (apply s_ldI; exact rfl; omega)
 | (apply c_seq)
 | (apply c_reg)
 | (apply c_block)
 | (apply c_skip)
 | (apply c_condT; exact rfl)
 | (with_reducible apply k_c)
            all_goals first | exact hK31 _ _ (by omega) (by omega) (gcG _ _ _ _ _ v (u + 1) _ fA fr) | (exfalso; omega)
          · rw [if_neg hlt, Int.add_zero] at hK31
            repeat' first
 | (apply s_mov; exact aW)
 | (apply c_nil)
 | (apply s_lss; exact rfl; all_goals (intro _; try (exfalso; omega)))
 | (apply s_add; exact rfl; omega)
 | (apply s_idx; exact aW; exact rfl; exact aI; omega)
 | (apply s_ldI; exact rfl; omega)
 | (apply c_seq)
 | (apply c_reg)
 | (apply c_block)
 | (apply c_skip)
 | (apply c_condT; exact rfl)
 | (apply c_condF; exact rfl)
 | (with_reducible apply k_c)
            all_goals first | exact hK31 _ _ (by omega) (by omega) (gcG _ _ _ _ _ v (u + 1) _ fA fr) | (exfalso; omega)
        · obtain rfl : u = b.length := by omega
          have hZN := hsN rfl
          rw [← hZN] at e113'
          repeat' first
 | (apply c_nil)
 | (apply s_lss; exact rfl; all_goals (intro _; try (exfalso; omega)))
 | (apply c_seq)
 | (apply c_reg)
 | (apply c_exitH)
 | (apply c_condF; exact rfl)
 | (with_reducible apply k_c)
          apply c_pre (vs := [x, y, vf, .sl 0 1 0 b.length, .int .i64 ((d + 1 : Nat) : Int), vA, .int .i64 Tk, .int .i64 (v : Int), .int .i64 Z, .int .i64 ((b.length : Nat) : Int), .int .i64 (v : Int)]) (H' := [some (.data (iL S))])
          · simp [go_sem, fx, fy, ff, fA]
          repeat' first
 | (apply s_mov; exact aW)
 | (apply c_nil)
 | (apply s_pn; exact aO; exact ng _)
 | (apply s_cn; exact aO; exact e113' _)
 | (apply s_idx; exact aW; exact rfl; exact aI; omega)
 | (apply s_mx; exact rfl; exact rfl)
 | (apply s_ldI; exact rfl; omega)
 | (apply c_reg)
 | (with_reducible apply k_c)
          apply c_pre (vs := [x, y, vf, .sl 0 1 0 b.length, .int .i64 ((d + 1 : Nat) : Int), vA, .int .i64 (if CC > Tk then CC else Tk), .int .i64 ((b.length : Nat) : Int), .int .i64 (v : Int)]) (H' := [some (.data (iL S))])
          · simp [go_sem, fx, fy, ff, fA]
          repeat' first
 | (apply s_mov; exact aW)
 | (apply c_nil)
 | (apply s_add; exact rfl; omega)
 | (apply c_reg)
          exact hK21 _ _ (by omega) (by omega) (gcA _ _ _ (v + 1) _ fA)
      · rw [if_neg hfd] at hK21
        generalize hTk : tms b.length (ed b) (gf F) (gf A) ((d + 1 : Nat) : Int) v = Tk at *
        repeat' first
 | (apply s_mov; exact aW)
 | (apply c_nil)
 | (apply s_lss; exact rfl; all_goals (intro _; try (exfalso; omega)))
 | (apply s_neq; exact rfl; all_goals (intro _; try (exfalso; omega)))
 | (apply s_idx; exact aW; exact rfl; exact aI; omega)
 | (apply s_ldI; exact rfl; omega)
 | (apply c_seq)
 | (apply c_reg)
 | (apply c_block)
 | (apply c_exitH)
 | (apply c_skip)
 | (apply c_condT; exact rfl)
 | (with_reducible apply k_c)
        all_goals try (exfalso; omega)
        apply c_pre (vs := [x, y, vf, .sl 0 1 0 b.length, .int .i64 ((d + 1 : Nat) : Int), vA, .int .i64 Tk, .int .i64 ((b.length : Nat) : Int), .int .i64 (v : Int)]) (H' := [some (.data (iL S))])
        · simp [go_sem, fx, fy, ff, fA]
        repeat' first
 | (apply s_mov; exact aW)
 | (apply c_nil)
 | (apply s_add; exact rfl; omega)
 | (apply c_reg)
        exact hK21 _ _ (by omega) (by omega) (gcA _ _ _ (v + 1) _ fA)
    · obtain rfl : v = b.length := by omega
      generalize hTk : tms b.length (ed b) (gf F) (gf A) ((d + 1 : Nat) : Int) b.length = Tk at *
      skip
      repeat' first
 | (apply c_nil)
 | (apply s_lss; exact rfl; all_goals (intro _; try (exfalso; omega)))
 | (apply c_seq)
 | (apply c_reg)
 | (apply c_exitH)
 | (apply c_condF; exact rfl)
 | (with_reducible apply k_c)
      apply c_pre (vs := [x, y, vf, .sl 0 1 0 b.length, .int .i64 ((d + 1 : Nat) : Int), .int .i64 Tk]) (H' := [some (.data (iL S))])
      · simp [go_sem, fx, fy, ff]
      repeat' first
 | (apply s_mov; exact aW)
 | (apply c_nil)
 | (apply s_pn; exact aO; exact lx _)
 | (apply c_seq)
 | (apply c_reg)
 | (apply c_block)
 | (with_reducible apply k_c)
      refine c_loop ?_
      refine loop_gc (σ := Nat × List Int) (fun p => [x, y, vf, .sl 0 1 0 b.length, .int .i64 ((d + 1 : Nat) : Int), .int .i64 Tk, .int .i64 ((b.length : Nat) : Int), .int .i64 (p.1 : Int)]) (fun p => [some (.data (iL p.2))]) (fun p => p.1 ≤ b.length ∧ p.2.length = b.length ∧ ∀ i : Nat, i < b.length → getI p.2 (i : Int) = if i < p.1 then getI S (i : Int) + nearS (gf F) ((d + 1 : Nat) : Int) Tk i else getI S (i : Int)) (fun p => b.length - p.1) ?_ _ (0, S) _ _ ⟨by omega, hSl, fun i hi => by rw [if_neg (by omega)]⟩ (by show b.length - 0 < _; omega) (gcB _ _ 0 _)
      intro ⟨v, S'⟩ ⟨hv', hSl', hS'⟩ K3 hK3
      dsimp only at hv' hSl' hS' hK3 ⊢
      by_cases hvn : v < b.length
      · have hfv := hfar v hvn
        have h1 := hS' v hvn
        rw [if_neg (by omega)] at h1
        have h2 := hSb v hvn
        have ld := fun H h => p_ldO (H := H) (id := 0) (l := S') (i := v) h (by omega)
        have st := fun (vv : Int) call H h => e_stO (call := call) (H := H) (id := 0) (l := S') (i := v) (v := vv) h (by omega)
        by_cases hlt : getI F (v : Int) < ((d + 1 : Nat) : Int)
        · skip
          repeat' first
 | (apply s_mov; exact aW)
 | (apply c_nil)
 | (apply s_lss; exact rfl; all_goals (intro _; try (exfalso; omega)))
 | (apply s_add; exact rfl; omega)
 | (apply s_pn; exact aO; exact p_ixO hvn)
 | (apply s_pn; exact aO; exact ld _ rfl)
 | (apply s_st; exact aO; exact st _ _ _ rfl)
 | (apply s_idx; exact aW; exact rfl; exact aI; omega)
 | (apply s_ldI; exact rfl; omega)
 | (apply c_seq)
 | (apply c_reg)
 | (apply c_block)
 | (apply c_skip)
 | (apply c_condT; exact rfl)
 | (with_reducible apply k_c)
          all_goals first
            | (refine hK3 (v + 1, _) _ _ ⟨by omega, by simpa using hSl', fun i hi => ?_⟩ (by show b.length - (v + 1) < _; omega) (gcB _ _ (v + 1) _)
               dsimp only
               rw [getI_set (by omega)]
               by_cases e : i = v
               · subst e
                 rw [if_pos rfl, if_pos (by omega), h1]
                 unfold nearS
                 rw [hgD, if_pos hlt]
               · rw [if_neg e, hS' i hi]
                 by_cases e2 : i < v
                 · rw [if_pos e2, if_pos (by omega)]
                 · rw [if_neg e2, if_neg (by omega)])
            | (exfalso; omega)
        · skip
          repeat' first
 | (apply s_mov; exact aW)
 | (apply c_nil)
 | (apply s_lss; exact rfl; all_goals (intro _; try (exfalso; omega)))
 | (apply s_add; exact rfl; omega)
 | (apply s_idx; exact aW; exact rfl; exact aI; omega)
 | (apply s_ldI; exact rfl; omega)
 | (apply c_seq)
 | (apply c_reg)
 | (apply c_block)
 | (apply c_skip)
 | (apply c_condT; exact rfl)
 | (apply c_condF; exact rfl)
 | (with_reducible apply k_c)
          all_goals first
            | (refine hK3 (v + 1, S') _ _ ⟨by omega, hSl', fun i hi => ?_⟩ (by show b.length - (v + 1) < _; omega) (gcB _ _ (v + 1) _)
               dsimp only
               rw [hS' i hi]
               by_cases e : i = v
               · subst e
                 rw [if_neg (by omega), if_pos (by omega)]
                 unfold nearS
                 rw [hgD, if_neg hlt, Int.add_zero]
               · by_cases e2 : i < v
                 · rw [if_pos e2, if_pos (by omega)]
                 · rw [if_neg e2, if_neg (by omega)])
            | (exfalso; omega)
      · obtain rfl : v = b.length := by omega
        repeat' first
 | (apply c_nil)
 | (apply s_lss; exact rfl; all_goals (intro _; try (exfalso; omega)))
 | (apply c_seq)
 | (apply c_reg)
 | (apply c_exitH)
 | (apply c_condF; exact rfl)
 | (with_reducible apply k_c)
        apply c_pre (vs := [x, y, vf, .sl 0 1 0 b.length, .int .i64 ((d + 1 : Nat) : Int)]) (H' := [some (.data (iL S'))])
        · simp [go_sem, fx, fy, ff]
        repeat' first
 | (apply s_mov; exact aW)
 | (apply c_nil)
 | (apply s_sub; exact rfl; omega)
 | (apply c_reg)
        have hcong : ∀ j, j < b.length → gf S j + nearS (gf F) ((d + 1 : Nat) : Int) Tk j = gf S' j := fun j hj => by
          have := hS' j hj
          rw [if_pos hj] at this
          exact this.symm
        refine hK (d, S') _ _ ⟨by dsimp only; omega, hSl', hst.congr hcong, fun j hj => ?_⟩ (by dsimp only; omega) (by
          have := gcO (d : Int) (iL S')
          rw [show ((d + 1 : Nat) : Int) - 1 = (d : Int) by omega]
          exact this)
        rw [← hR j hj]
        exact (payF_congr d hcong j hj).symm
set_option maxHeartbeats 8000000
theorem awakeN {m : Nat} (hm : 60000 ≤ m) (H : Heap) : callPure (evF tab it m) true 25 [] H = some (.bool true, H) :=
  callPure_free rfl (by simp) (evF_mono hm _ _ _ _ awake) rfl
end Go.AM.Ch
