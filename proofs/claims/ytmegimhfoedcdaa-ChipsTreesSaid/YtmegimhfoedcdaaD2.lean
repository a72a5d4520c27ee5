/- A part of the proof: U24 U25 U15 U26 U27 D1 D2. -/
import Derived.Test.YtmegimhfoedcdaaU14
set_option linter.unusedVariables false
set_option linter.unusedSimpArgs false
set_option linter.unusedSectionVars false
namespace Go.AM.Ch
set_option maxHeartbeats 1000000
theorem sumTo_add (f g : Nat → Int) : ∀ n, sumTo (fun i => f i + g i) n = sumTo f n + sumTo g n
  | 0 => rfl
  | n + 1 => by simp only [sumTo]; rw [sumTo_add f g n]; omega
theorem sumTo_sub (f g : Nat → Int) : ∀ n, sumTo (fun i => f i - g i) n = sumTo f n - sumTo g n
  | 0 => rfl
  | n + 1 => by simp only [sumTo]; rw [sumTo_sub f g n]; omega
theorem sumTo_neg (f : Nat → Int) : ∀ n, sumTo (fun i => - f i) n = - sumTo f n
  | 0 => rfl
  | n + 1 => by simp only [sumTo]; rw [sumTo_neg f n]; omega
theorem sumTo_zero : ∀ n, sumTo (fun _ => 0) n = 0
  | 0 => rfl
  | n + 1 => by simp only [sumTo]; rw [sumTo_zero n]; omega
theorem sumTo_mono {f g : Nat → Int} : ∀ {n : Nat}, (∀ j, j < n → f j ≤ g j) → sumTo f n ≤ sumTo g n
  | 0, _ => Int.le_refl _
  | n + 1, h => by
    have a := sumTo_mono (n := n) fun j hj => h j (by omega)
    have b := h n (by omega)
    simp only [sumTo]
    omega
theorem sumTo_term {f : Nat → Int} : ∀ {n k : Nat}, (∀ j, j < n → 0 ≤ f j) → k < n → f k ≤ sumTo f n
  | n + 1, k, h, hk => by
    simp only [sumTo]
    rcases (by omega : k < n ∨ k = n) with h1 | rfl
    · have a := sumTo_term (n := n) (k := k) (fun j hj => h j (by omega)) h1
      have b := h n (by omega)
      omega
    · have a := sumTo_nn (f := f) (n := k) fun j hj => h j (by omega)
      omega
theorem sumTo_comm (f : Nat → Nat → Int) (m : Nat) : ∀ n, sumTo (fun i => sumTo (fun j => f i j) m) n = sumTo (fun j => sumTo (fun i => f i j) n) m
  | 0 => by simp only [sumTo]; rw [sumTo_zero]
  | n + 1 => by simp only [sumTo]; rw [sumTo_comm f m n, ← sumTo_add]
structure Gr (n : Nat) (E : Nat → Nat → Int) : Prop where
  sz : n ≤ 12
  nn : ∀ i j, i < n → j < n → 0 ≤ E i j
  le : ∀ i j, i < n → j < n → E i j ≤ 3
  sy : ∀ i j, i < n → j < n → E i j = E j i
def net (n : Nat) (E : Nat → Nat → Int) (t : Nat → Int) (i : Nat) : Int := sumTo (fun j => E i j * (t i - t j)) n
def ap (n : Nat) (E : Nat → Nat → Int) (s t : Nat → Int) (i : Nat) : Int := s i - net n E t i
def deg (n : Nat) (E : Nat → Nat → Int) (i : Nat) : Int := sumTo (fun j => E i j) n
theorem net_add (n : Nat) (E : Nat → Nat → Int) (t u : Nat → Int) (i : Nat) : net n E (fun j => t j + u j) i = net n E t i + net n E u i := by
  unfold net
  rw [← sumTo_add]
  refine sumTo_congr fun j _ => ?_
  rw [← Int.mul_add]
  congr 1
  dsimp only
  omega
theorem net_neg (n : Nat) (E : Nat → Nat → Int) (t : Nat → Int) (i : Nat) : net n E (fun j => - t j) i = - net n E t i := by
  unfold net
  rw [← sumTo_neg]
  refine sumTo_congr fun j _ => ?_
  rw [← Int.mul_neg]
  congr 1
  dsimp only
  omega
theorem net_const (n : Nat) (E : Nat → Nat → Int) (a : Int) (i : Nat) : net n E (fun _ => a) i = 0 := by
  unfold net
  simp only [Int.sub_self, Int.mul_zero]
  exact sumTo_zero n
theorem net_congr {n : Nat} {E : Nat → Nat → Int} {t u : Nat → Int} {i : Nat} (hi : i < n) (h : ∀ j, j < n → t j = u j) : net n E t i = net n E u i := by
  unfold net
  exact sumTo_congr fun j hj => by rw [h i hi, h j hj]
theorem net_self {n : Nat} {E : Nat → Nat → Int} (g : Gr n E) (w t : Nat → Int) : sumTo (fun i => w i * net n E t i) n = sumTo (fun i => t i * net n E w i) n := by
  have e : ∀ w t : Nat → Int, sumTo (fun i => w i * net n E t i) n = sumTo (fun i => sumTo (fun j => E i j * (w i * t i)) n) n - sumTo (fun i => sumTo (fun j => E i j * (w i * t j)) n) n := fun w t => by
    rw [← sumTo_sub]
    refine sumTo_congr fun i _ => ?_
    rw [← sumTo_sub]
    unfold net
    rw [sumTo_mul]
    refine sumTo_congr fun j _ => ?_
    rw [Int.mul_left_comm, Int.mul_sub, Int.mul_sub]
  rw [e w t, e t w]
  congr 1
  · exact sumTo_congr fun i _ => sumTo_congr fun j _ => by rw [Int.mul_comm (w i)]
  · rw [sumTo_comm]
    refine sumTo_congr fun i hi => sumTo_congr fun j hj => ?_
    rw [g.sy j i hj hi, Int.mul_comm (w j)]
theorem net_sum {n : Nat} {E : Nat → Nat → Int} (g : Gr n E) (t : Nat → Int) : sumTo (fun i => net n E t i) n = 0 := by
  have h := net_self g (fun _ => 1) t
  simp only [Int.one_mul] at h
  rw [h]
  have : ∀ i, net n E (fun _ => 1) i = 0 := fun i => net_const n E 1 i
  simp only [this, Int.mul_zero]
  exact sumTo_zero n
theorem ap_ap (n : Nat) (E : Nat → Nat → Int) (s t u : Nat → Int) (i : Nat) : ap n E (ap n E s t) u i = ap n E s (fun j => t j + u j) i := by
  show (s i - net n E t i) - net n E u i = s i - net n E (fun j => t j + u j) i
  rw [net_add]; omega
theorem ap_sum {n : Nat} {E : Nat → Nat → Int} (g : Gr n E) (s t : Nat → Int) : sumTo (ap n E s t) n = sumTo s n := by
  have : sumTo (ap n E s t) n = sumTo s n - sumTo (fun i => net n E t i) n := by rw [← sumTo_sub]; rfl
  rw [this, net_sum g]; omega
theorem deg_nn {n : Nat} {E : Nat → Nat → Int} (g : Gr n E) {i : Nat} (hi : i < n) : 0 ≤ deg n E i ∧ deg n E i ≤ 36 := by
  have a := sumTo_nn (f := fun j => E i j) (n := n) fun j hj => g.nn i j hi hj
  have b := sumTo_le (f := fun j => E i j) (M := 3) (n := n) fun j hj => by have := g.nn i j hi hj; have := g.le i j hi hj; omega
  have := g.sz
  unfold deg
  omega
def outE (n : Nat) (E : Nat → Nat → Int) (S : Nat → Bool) (i : Nat) : Int := sumTo (fun j => if S j = true then 0 else E i j) n
def Red (n : Nat) (E : Nat → Nat → Int) (q : Nat) (c : Nat → Int) : Prop :=
  (∀ v, v < n → v ≠ q → 0 ≤ c v) ∧ ∀ S : Nat → Bool, S q = false → (∃ v, v < n ∧ S v = true) → ∃ v, v < n ∧ S v = true ∧ c v < outE n E S v
theorem ex_max (t : Nat → Int) : ∀ {n : Nat}, 0 < n → ∃ v, v < n ∧ ∀ u, u < n → t u ≤ t v
  | 1, _ => ⟨0, by omega, fun u hu => by obtain rfl : u = 0 := by omega
                                         exact Int.le_refl _⟩
  | n + 2, _ => by
    obtain ⟨v, hv, h⟩ := ex_max t (n := n + 1) (by omega)
    rcases Int.lt_or_le (t v) (t (n + 1)) with g | g
    · refine ⟨n + 1, by omega, fun u hu => ?_⟩
      rcases (by omega : u < n + 1 ∨ u = n + 1) with h1 | rfl
      · have := h u h1; omega
      · exact Int.le_refl _
    · refine ⟨v, by omega, fun u hu => ?_⟩
      rcases (by omega : u < n + 1 ∨ u = n + 1) with h1 | rfl
      · exact h u h1
      · exact g
theorem flow {n : Nat} {E : Nat → Nat → Int} (g : Gr n E) (t : Nat → Int) (S : Nat → Bool) :
    sumTo (fun i => if S i = true then net n E t i else 0) n = sumTo (fun i => sumTo (fun j => if S i = true ∧ S j = false then E i j * (t i - t j) else 0) n) n := by
  have e1 : sumTo (fun i => if S i = true then net n E t i else 0) n = sumTo (fun i => sumTo (fun j => if S i = true ∧ S j = false then E i j * (t i - t j) else 0) n) n + sumTo (fun i => sumTo (fun j => if S i = true ∧ S j = true then E i j * (t i - t j) else 0) n) n := by
    rw [← sumTo_add]
    refine sumTo_congr fun i _ => ?_
    rw [← sumTo_add]
    unfold net
    cases hS : S i with
    | false => simp only [Bool.false_eq_true, if_false, false_and, Int.add_zero]; rw [sumTo_zero]
    | true =>
      simp only [if_true, true_and]
      refine sumTo_congr fun j _ => ?_
      cases S j <;> simp
  have e2 : sumTo (fun i => sumTo (fun j => if S i = true ∧ S j = true then E i j * (t i - t j) else 0) n) n = 0 := by
    have h1 := sumTo_comm (fun i j => if S i = true ∧ S j = true then E i j * (t i - t j) else 0) n n
    have h2 : sumTo (fun j => sumTo (fun i => if S i = true ∧ S j = true then E i j * (t i - t j) else 0) n) n = - sumTo (fun i => sumTo (fun j => if S i = true ∧ S j = true then E i j * (t i - t j) else 0) n) n := by
      rw [← sumTo_neg]
      refine sumTo_congr fun j hj => ?_
      rw [← sumTo_neg]
      refine sumTo_congr fun i hi => ?_
      rw [g.sy i j hi hj]
      by_cases hij : S i = true ∧ S j = true
      · rw [if_pos hij, if_pos ⟨hij.2, hij.1⟩, ← Int.mul_neg]; congr 1; omega
      · rw [if_neg hij, if_neg (fun h => hij ⟨h.2, h.1⟩)]; rfl
    omega
  omega
theorem sumS_le {S : Nat → Bool} {f : Nat → Int} {B : Int} {q : Nat} (hB : 0 ≤ B) (hS : S q = false) : ∀ {n : Nat}, (∀ v, v < n → v ≠ q → f v ≤ B) → sumTo (fun i => if S i = true then f i else 0) n ≤ n * B
  | 0, _ => by simp [sumTo]
  | n + 1, h => by
    have a := sumS_le (n := n) hB hS fun v hv => h v (by omega)
    have e : ((n + 1 : Nat) : Int) * B = n * B + B := by push_cast; rw [Int.add_mul, Int.one_mul]
    simp only [sumTo]
    rw [e]
    split
    · rename_i hs
      have := h n (by omega) (fun e => by rw [e, hS] at hs; cases hs)
      omega
    · omega
theorem edge_le {n : Nat} {E : Nat → Nat → Int} (g : Gr n E) {q : Nat} {t : Nat → Int} {B : Int} (hB : 0 ≤ B) (h : ∀ v, v < n → v ≠ q → -B ≤ net n E t v ∧ net n E t v ≤ B) {v u : Nat} (hv : v < n) (hu : u < n) (he : 1 ≤ E v u) : t v - t u ≤ n * B := by
  rcases Int.lt_or_le (t u) (t v) with hlt | hle
  · cases hq : decide (t v ≤ t q) with
    | false =>
      have f := flow g t (fun w => decide (t v ≤ t w))
      have s := sumS_le (S := fun w => decide (t v ≤ t w)) (f := net n E t) (n := n) hB hq fun w hw hwq => (h w hw hwq).2
      have nn : ∀ i, i < n → ∀ j, j < n → 0 ≤ (if decide (t v ≤ t i) = true ∧ decide (t v ≤ t j) = false then E i j * (t i - t j) else 0) := fun i hi j hj => by
        split
        · rename_i hc
          simp only [decide_eq_true_eq, decide_eq_false_iff_not] at hc
          exact Int.mul_nonneg (g.nn i j hi hj) (by omega)
        · exact Int.le_refl _
      have a := sumTo_term (n := n) (k := u) (nn v hv) hu
      have b := sumTo_term (f := fun i => sumTo (fun j => if decide (t v ≤ t i) = true ∧ decide (t v ≤ t j) = false then E i j * (t i - t j) else 0) n) (n := n) (k := v) (fun i hi => sumTo_nn fun j hj => nn i hi j hj) hv
      try dsimp only at a b
      rw [if_pos ⟨by simp, by simp; omega⟩] at a
      have c := Int.mul_le_mul_of_nonneg_right he (show 0 ≤ t v - t u by omega)
      omega
    | true =>
      simp only [decide_eq_true_eq] at hq
      have hq' : decide (t q < t v) = false := by simp; omega
      have f := flow g (fun w => - t w) (fun w => decide (t w < t v))
      have s := sumS_le (S := fun w => decide (t w < t v)) (f := net n E (fun w => - t w)) (n := n) hB hq' fun w hw hwq => by rw [net_neg]; have := (h w hw hwq).1; omega
      have nn : ∀ i, i < n → ∀ j, j < n → 0 ≤ (if decide (t i < t v) = true ∧ decide (t j < t v) = false then E i j * ((- t i) - (- t j)) else 0) := fun i hi j hj => by
        split
        · rename_i hc
          simp only [decide_eq_true_eq, decide_eq_false_iff_not] at hc
          exact Int.mul_nonneg (g.nn i j hi hj) (by omega)
        · exact Int.le_refl _
      have a := sumTo_term (n := n) (k := v) (nn u hu) hv
      have b := sumTo_term (f := fun i => sumTo (fun j => if decide (t i < t v) = true ∧ decide (t j < t v) = false then E i j * ((- t i) - (- t j)) else 0) n) (n := n) (k := u) (fun i hi => sumTo_nn fun j hj => nn i hi j hj) hu
      try dsimp only at a b
      rw [if_pos ⟨by simp; omega, by simp⟩] at a
      have he' : 1 ≤ E u v := by rw [g.sy u v hu hv]; exact he
      have c := Int.mul_le_mul_of_nonneg_right he' (show 0 ≤ (- t u) - (- t v) by omega)
      omega
  · have : 0 ≤ (n : Int) * B := Int.mul_nonneg (by omega) hB
    omega
structure Dst (n : Nat) (E : Nat → Nat → Int) (q : Nat) (D : Nat → Int) : Prop where
  zero : D q = 0
  pos : ∀ v, v < n → v ≠ q → 1 ≤ D v
  le : ∀ v, v < n → D v ≤ n
  near : ∀ v, v < n → v ≠ q → ∃ u, u < n ∧ 1 ≤ E v u ∧ D u < D v
theorem Dst.nn {n : Nat} {E : Nat → Nat → Int} {q : Nat} {D : Nat → Int} (d : Dst n E q D) {v : Nat} (hv : v < n) : 0 ≤ D v := by
  by_cases h : v = q
  · rw [h, d.zero]; exact Int.le_refl _
  · have := d.pos v hv h; omega
theorem script_le {n : Nat} {E : Nat → Nat → Int} (g : Gr n E) {q : Nat} {D : Nat → Int} (d : Dst n E q D) {t : Nat → Int} {B : Int} (hB : 0 ≤ B) (hq : t q = 0) (h : ∀ v, v < n → v ≠ q → -B ≤ net n E t v ∧ net n E t v ≤ B) :
    ∀ k : Nat, ∀ v, v < n → D v ≤ k → -(k * (n * B)) ≤ t v ∧ t v ≤ k * (n * B)
  | k, v, hv, hk => by
    have hnB : 0 ≤ (n : Int) * B := Int.mul_nonneg (by omega) hB
    by_cases hvq : v = q
    · subst hvq
      have : 0 ≤ (k : Int) * (n * B) := Int.mul_nonneg (by omega) hnB
      omega
    · obtain ⟨u, hu, he, hlt⟩ := d.near v hv hvq
      have hu0 := d.nn hu
      obtain ⟨j, rfl⟩ : ∃ j, k = j + 1 := ⟨k - 1, by have := d.pos v hv hvq; omega⟩
      have ih := script_le g d hB hq h j u hu (by omega)
      have a := edge_le g hB h hv hu he
      have he' : 1 ≤ E u v := by rw [g.sy u v hu hv]; exact he
      have b := edge_le g hB h hu hv he'
      have e : ((j + 1 : Nat) : Int) * (n * B) = j * (n * B) + n * B := by push_cast; rw [Int.add_mul, Int.one_mul]
      rw [e]
      omega
def wgt (n : Nat) (D : Nat → Int) (v : Nat) : Int := 40 ^ n - 40 ^ (n - (D v).toNat)
theorem pow_le40 {a b : Nat} (h : a ≤ b) : (40 : Int) ^ a ≤ 40 ^ b := by
  have := Nat.pow_le_pow_right (show 0 < 40 by omega) h
  exact_mod_cast this
theorem pow_pos40 (a : Nat) : (1 : Int) ≤ 40 ^ a := by
  have := Nat.pow_pos (n := a) (show 0 < 40 by omega)
  exact_mod_cast this
theorem wgt_nn {n : Nat} {E : Nat → Nat → Int} {q : Nat} {D : Nat → Int} (d : Dst n E q D) (v : Nat) : 0 ≤ wgt n D v := by
  have := pow_le40 (show n - (D v).toNat ≤ n by omega)
  unfold wgt
  omega
theorem wgt_zero {n : Nat} {E : Nat → Nat → Int} {q : Nat} {D : Nat → Int} (d : Dst n E q D) : wgt n D q = 0 := by
  unfold wgt
  rw [d.zero]
  simp
theorem wgt_net {n : Nat} {E : Nat → Nat → Int} (g : Gr n E) {q : Nat} {D : Nat → Int} (d : Dst n E q D) {v : Nat} (hv : v < n) (hvq : v ≠ q) : 1 ≤ net n E (wgt n D) v := by
  obtain ⟨u, hu, he, hlt⟩ := d.near v hv hvq
  have hu0 := d.nn hu
  have hvn := d.le v hv
  have hv1 := d.pos v hv hvq
  generalize hP : (40 : Int) ^ (n - (D v).toNat) = P
  have hP1 : 1 ≤ P := by rw [← hP]; exact pow_pos40 _
  have low : ∀ j, j < n → -(E v j * P) ≤ E v j * (wgt n D v - wgt n D j) := fun j hj => by
    rw [← Int.mul_neg]
    refine Int.mul_le_mul_of_nonneg_left ?_ (g.nn v j hv hj)
    unfold wgt
    rw [hP]
    have := pow_pos40 (n - (D j).toNat)
    omega
  have hi : 39 * P ≤ E v u * (wgt n D v - wgt n D u) := by
    have h1 : 39 * P ≤ wgt n D v - wgt n D u := by
      unfold wgt
      rw [hP]
      have := pow_le40 (show n - (D v).toNat + 1 ≤ n - (D u).toNat by omega)
      rw [Int.pow_succ, hP] at this
      omega
    have := Int.mul_le_mul_of_nonneg_right he (show 0 ≤ wgt n D v - wgt n D u by omega)
    omega
  have key : ∀ m, m ≤ n → (if u < m then 39 * P else 0) - sumTo (fun j => E v j) m * P ≤ sumTo (fun j => E v j * (wgt n D v - wgt n D j)) m := by
    intro m
    induction m with
    | zero => intro _; simp [sumTo]
    | succ m ih =>
      intro hm
      have a := ih (by omega)
      have b := low m (by omega)
      have e : sumTo (fun j => E v j) (m + 1) * P = sumTo (fun j => E v j) m * P + E v m * P := by simp only [sumTo]; rw [Int.add_mul]
      rw [e]
      simp only [sumTo]
      by_cases hum : u = m
      · subst hum
        rw [if_neg (by omega)] at a
        rw [if_pos (by omega)]
        have := Int.mul_nonneg (g.nn v u hv hu) (show 0 ≤ P by omega)
        omega
      · by_cases h2 : u < m
        · rw [if_pos h2] at a; rw [if_pos (by omega)]; omega
        · rw [if_neg h2] at a; rw [if_neg (by omega)]; omega
  have k := key n (Nat.le_refl _)
  rw [if_pos hu] at k
  have dg := (deg_nn g hv).2
  have : sumTo (fun j => E v j) n * P ≤ 36 * P := Int.mul_le_mul_of_nonneg_right dg (by omega)
  unfold net
  omega
def pot (n : Nat) (D : Nat → Int) (c : Nat → Int) : Int := sumTo (fun i => wgt n D i * c i) n
theorem pot_ap {n : Nat} {E : Nat → Nat → Int} (g : Gr n E) {q : Nat} {D : Nat → Int} (d : Dst n E q D) (c t : Nat → Int) (ht : ∀ v, v < n → 0 ≤ t v) (hq : t q = 0) : pot n D (ap n E c t) + sumTo t n ≤ pot n D c := by
  have e1 : pot n D (ap n E c t) = pot n D c - sumTo (fun i => wgt n D i * net n E t i) n := by
    unfold pot
    rw [← sumTo_sub]
    exact sumTo_congr fun i _ => by unfold ap; rw [Int.mul_sub]
  have e2 := net_self g (wgt n D) t
  have e3 : sumTo t n ≤ sumTo (fun i => t i * net n E (wgt n D) i) n := sumTo_mono fun v hv => by
    by_cases h : v = q
    · rw [h, hq, Int.zero_mul]; exact Int.le_refl _
    · have := Int.mul_le_mul_of_nonneg_left (wgt_net g d hv h) (ht v hv)
      omega
  omega
theorem pot_nn {n : Nat} {E : Nat → Nat → Int} {q : Nat} {D : Nat → Int} (d : Dst n E q D) {c : Nat → Int} (h : ∀ v, v < n → v ≠ q → 0 ≤ c v) : 0 ≤ pot n D c := by
  refine sumTo_nn fun v hv => ?_
  by_cases hvq : v = q
  · rw [hvq, wgt_zero d, Int.zero_mul]; exact Int.le_refl _
  · exact Int.mul_nonneg (wgt_nn d v) (h v hv hvq)
theorem least {n : Nat} {E : Nat → Nat → Int} (g : Gr n E) {c s t : Nat → Int} (hst : ∀ v, v < n → s v ≤ t v) {v : Nat} (hv : v < n) (hstab : ap n E c t v < deg n E v) {k : Int} (hk : 1 ≤ k) (hl : k * deg n E v ≤ ap n E c s v) : s v + k ≤ t v := by
  apply Classical.byContradiction
  intro hcon
  have h1 : ap n E c t v = ap n E c s v - net n E (fun j => t j - s j) v := by
    have : ap n E c t v = ap n E c (fun j => s j + (t j - s j)) v := by unfold ap; congr 1; exact net_congr hv fun j _ => by omega
    rw [this]
    unfold ap
    rw [net_add]
    omega
  have h2 : net n E (fun j => t j - s j) v ≤ (t v - s v) * deg n E v := by
    unfold net deg
    rw [sumTo_mul]
    refine sumTo_mono fun j hj => ?_
    dsimp only
    rw [Int.mul_comm]
    exact Int.mul_le_mul_of_nonneg_right (by have := hst j hj; omega) (g.nn v j hv hj)
  have h3 : (t v - s v) * deg n E v ≤ (k - 1) * deg n E v := Int.mul_le_mul_of_nonneg_right (by omega) (deg_nn g hv).1
  rw [Int.sub_mul k, Int.one_mul] at h3
  omega
set_option maxHeartbeats 1000000
def ed (b : List (List Int)) (i j : Nat) : Int := getI (getLL b (i : Int)) (j : Int)
def gf (l : List Int) (i : Nat) : Int := getI l (i : Int)
theorem gr_of {b : List (List Int)} (h : IsB b) : Gr b.length (ed b) :=
  ⟨h.bd.len, fun i j hi hj => (h.bd.val i j hi hj).1, fun i j hi hj => (h.bd.val i j hi hj).2, fun i j hi hj => h.sym i j hi hj⟩
theorem deg_sumI {b : List (List Int)} (h : Bd b) {i : Nat} (hi : i < b.length) : sumI (getLL b (i : Int)) = deg b.length (ed b) i := by
  unfold sumI deg
  rw [h.row i hi]
  rfl
theorem apl_ap {b : List (List Int)} (h : IsB b) (s t : List Int) {i : Nat} (hi : i < b.length) : getI (apl b s t) (i : Int) = ap b.length (ed b) (gf s) (gf t) i := by
  have e : getI (apl b s t) (i : Int) = mid b s t b.length 0 i := by
    rw [getI_nat]
    simp [apl, List.getD, hi]
  rw [e, apl_ref h.bd h.sym s t hi, deg_sumI h.bd hi]
  have e2 : sumTo (fun j => getI t (j : Int) * getI (getLL b (i : Int)) (j : Int)) b.length = sumTo (fun j => ed b i j * gf t j) b.length := sumTo_congr fun j _ => Int.mul_comm _ _
  have e3 : net b.length (ed b) (gf t) i = gf t i * deg b.length (ed b) i - sumTo (fun j => ed b i j * gf t j) b.length := by
    unfold net deg
    rw [sumTo_mul, ← sumTo_sub]
    exact sumTo_congr fun j _ => by rw [Int.mul_sub, Int.mul_comm (gf t i)]
  rw [e2]
  show _ = gf s i - net b.length (ed b) (gf t) i
  rw [e3]
  show gf s i - gf t i * _ + _ = _
  omega
structure Nr (b : List (List Int)) (n q0 : Nat) (d : List Int) : Prop where
  zero : getI d (q0 : Int) = 0
  near : ∀ k : Nat, k < n → k ≠ q0 → 0 ≤ getI d (k : Int) → ∃ v : Nat, v < n ∧ 1 ≤ ed b v k ∧ 0 ≤ getI d (v : Int) ∧ getI d (v : Int) < getI d (k : Int)
theorem bIn_near {b : List (List Int)} {n q0 : Nat} {d : List Int} {q : List Nat} {v : Nat} (hl : d.length = n) (hq0 : q0 < n) (h : Nr b n q0 d) (hv : v < n) (hvd : 0 ≤ getI d (v : Int)) : ∀ k, k ≤ n →
    Nr b n q0 (bIn b v k (d, q)).1 ∧ (∀ j : Nat, j < n → 0 ≤ getI d (j : Int) → getI (bIn b v k (d, q)).1 (j : Int) = getI d (j : Int)) ∧ (∀ j : Nat, j < k → 0 < ed b v j → 0 ≤ getI (bIn b v k (d, q)).1 (j : Int))
  | 0, _ => ⟨h, fun _ _ _ => rfl, fun j hj => by omega⟩
  | k + 1, hk => by
    obtain ⟨h1, h2, h3⟩ := bIn_near (q := q) hl hq0 h hv hvd k (by omega)
    have hl' : (bIn b v k (d, q)).1.length = n := by rw [bIn_len]; exact hl
    simp only [bIn]
    generalize bIn b v k (d, q) = r at *
    split
    · rename_i hc
      have hkl : k < r.1.length := by omega
      have hrv := h2 v hv hvd
      have hg := fun (j : Nat) => getI_set (l := r.1) (i := k) (j := j) (v := getI r.1 (v : Int) + 1) hkl
      refine ⟨⟨?_, fun j hj hjq hj0 => ?_⟩, fun j hj hjd => ?_, fun j hj hjv => ?_⟩
      · rw [hg]
        split
        · rename_i e; subst e; have := h1.zero; omega
        · exact h1.zero
      · rw [hg] at hj0
        by_cases e : j = k
        · subst e
          have hvj : v ≠ j := fun e => by subst e; omega
          exact ⟨v, hv, by unfold ed; omega, by rw [hg, if_neg hvj]; omega, by rw [hg, if_neg hvj, hg, if_pos rfl]; omega⟩
        · rw [if_neg e] at hj0
          obtain ⟨u, hu, a1, a2, a3⟩ := h1.near j hj hjq hj0
          have huk : u ≠ k := fun e => by subst e; omega
          exact ⟨u, hu, a1, by rw [hg, if_neg huk]; exact a2, by rw [hg, if_neg huk, hg, if_neg e]; exact a3⟩
      · have := h2 j hj hjd
        rw [hg, if_neg (fun e => by subst e; omega)]
        exact this
      · rw [hg]
        split
        · omega
        · exact h3 j (by omega) hjv
    · rename_i hc
      refine ⟨h1, h2, fun j hj hjv => ?_⟩
      by_cases e : j = k
      · subst e
        unfold ed at hjv
        omega
      · exact h3 j (by omega) hjv
theorem bfsF_near {b : List (List Int)} {n q0 : Nat} (hq0 : q0 < n) : ∀ (f : Nat) (d : List Int) (dn q : List Nat), Bfs n d dn q → Nr b n q0 d → (∀ v ∈ dn, ∀ k : Nat, k < n → 0 < ed b v k → 0 ≤ getI d (k : Int)) →
    Nr b n q0 (bfsF b n f d dn q).1 ∧ (∀ v ∈ (bfsF b n f d dn q).2, ∀ k : Nat, k < n → 0 < ed b v k → 0 ≤ getI (bfsF b n f d dn q).1 (k : Int))
  | 0, d, dn, q, _, h, c => ⟨h, c⟩
  | f + 1, d, dn, [], _, h, c => ⟨h, c⟩
  | f + 1, d, dn, v :: q, hB, h, c => by
    have hv : v < n := hB.lt v (by simp)
    have hvd : 0 ≤ getI d (v : Int) := (hB.iff v hv).2 (by simp)
    obtain ⟨a1, a2, a3⟩ := bIn_near (q := q) hB.len hq0 h hv hvd n (Nat.le_refl _)
    obtain ⟨p, -⟩ := Bfs.pop (b := b) hB
    simp only [bfsF]
    refine bfsF_near hq0 f _ _ _ p a1 fun w hw k hk hwk => ?_
    rcases List.mem_append.1 hw with hw | hw
    · have := c w hw k hk hwk
      rw [a2 k hk this]
      exact this
    · simp only [List.mem_singleton] at hw
      subst hw
      exact a3 k hk hwk
theorem dist_all (b : List (List Int)) {q : Nat} (hq : q < b.length) :
    Bfs b.length (dist b q).1 (dist b q).2 [] ∧ Nr b b.length q (dist b q).1 ∧ (∀ v k : Nat, v < b.length → k < b.length → 0 ≤ getI (dist b q).1 (v : Int) → 0 < ed b v k → 0 ≤ getI (dist b q).1 (k : Int)) := by
  have hB : Bfs b.length (dist b q).1 (dist b q).2 [] := bfsF_end _ _ _ _ (Bfs.init hq) (by
    have := negs_le (d0 b.length q)
    have hl : (d0 b.length q).length = b.length := by simp [d0]
    simp only [List.length_cons, List.length_nil]
    omega)
  obtain ⟨h1, h2⟩ := bfsF_near (b := b) hq (2 * b.length + 2) _ _ _ (Bfs.init hq) ⟨by rw [d0_get hq hq]; simp, fun k hk hkq h0 => by rw [d0_get hq hk, if_neg hkq] at h0; omega⟩ (by simp)
  refine ⟨hB, h1, fun v k hv hk hv0 he => ?_⟩
  have hm := (hB.iff v hv).1 hv0
  rw [List.append_nil] at hm
  exact h2 v hm k hk he
theorem all_of_zero {b : List (List Int)} (h : IsB b) {P : Nat → Prop} (hcl : ∀ v k : Nat, v < b.length → k < b.length → P v → 0 < ed b v k → P k) (h0 : P 0) : ∀ k : Nat, k < b.length → P k := by
  have hn := h.n1
  obtain ⟨hB, hN, -⟩ := dist_all b (q := 0) (by omega)
  have hall := (conn_iff (b := b) (by omega)).2 h.con
  have hr : ∀ k : Nat, k < b.length → 0 ≤ getI (dist b 0).1 (k : Int) := fun k hk => by
    have := hB.low k hk
    have := (hB.done.2 h.con) k hk
    omega
  have key : ∀ m : Nat, ∀ k : Nat, k < b.length → getI (dist b 0).1 (k : Int) ≤ m → P k := by
    intro m
    induction m with
    | zero =>
      intro k hk hm
      by_cases e : k = 0
      · subst e; exact h0
      · obtain ⟨v, hv, _, a, c⟩ := hN.near k hk e (hr k hk)
        omega
    | succ m ih =>
      intro k hk hm
      by_cases e : k = 0
      · subst e; exact h0
      · obtain ⟨v, hv, a0, a, c⟩ := hN.near k hk e (hr k hk)
        exact hcl v k hv hk (ih v hv (by omega)) (by omega)
  intro k hk
  have := hB.far k hk
  exact key ((dist b 0).2 ++ []).length k hk (by omega)
theorem far_le {n : Nat} {d : List Int} {dn : List Nat} (hB : Bfs n d dn []) {v : Nat} (hv : v < n) : getI d (v : Int) ≤ n := by
  have := hB.far v hv
  have h2 := nodup_len hB.nd fun w hw => List.mem_range.2 (hB.lt w hw)
  rw [List.length_range] at h2
  omega
theorem dist_dst {b : List (List Int)} (h : IsB b) {q : Nat} (hq : q < b.length) : Dst b.length (ed b) q (gf (dist b q).1) := by
  obtain ⟨hB, hN, hC⟩ := dist_all b hq
  have hsy := (gr_of h).sy
  have hR : ∀ k : Nat, k < b.length → 0 ≤ getI (dist b q).1 (k : Int) := by
    apply Classical.byContradiction
    intro hcon
    have h0 : ¬ 0 ≤ getI (dist b q).1 ((0 : Nat) : Int) := fun h0 => hcon (all_of_zero h (P := fun k => 0 ≤ getI (dist b q).1 (k : Int)) (fun v k hv hk a e => hC v k hv hk a e) h0)
    have hn := all_of_zero h (P := fun k => ¬ 0 ≤ getI (dist b q).1 (k : Int)) (fun v k hv hk a e c => a (hC k v hk hv c (by rw [hsy k v hk hv]; exact e))) h0 q hq
    exact hn (by rw [hN.zero]; exact Int.le_refl _)
  refine ⟨hN.zero, fun v hv hvq => ?_, fun v hv => far_le hB hv, fun v hv hvq => ?_⟩
  · obtain ⟨u, hu, _, a, c⟩ := hN.near v hv hvq (hR v hv)
    unfold gf
    omega
  · obtain ⟨u, hu, a0, a, c⟩ := hN.near v hv hvq (hR v hv)
    exact ⟨u, hu, by rw [hsy v u hv hu]; exact a0, c⟩
attribute [local go_sem] gc subHeap reach_skip ren_free reach_new reach_newp reach_end rangeL roots boxCells nodupB posOf renL AV.ren pickO renH renO looks look bindEnv envOf reach_int reach_bool reach_nilS reach_rd putRow cells_sl cells_int cells_bool cells_nilS cells_rd cells_agg reach_agg reach_tup idFreeL idf_sl idf_ptr idf_int idf_bool idf_nilS idf_rd reach_fn reach_mp cells_fn cells_ptr cells_mp idf_mp idf_fn idf_agg idf_tup
set_option maxHeartbeats 4000000
theorem callPure_own {call : CallF} {f : Nat} {args args' : List AV} {H H1 : Heap} {r v : AV} (ha : frzL H 40 args = some args') (hc : call f args' [] = some (r, H1)) (hr : r.hasRd = false) (hh : (H1.all fun o => !HO.hasRd o) = true) (hf : frzV H1 40 r = some v) :
    callPure call true f args H = some (v, H) := by
  unfold callPure
  rw [ha, Option.bind_some, hc, Option.bind_some]
  dsimp only
  rw [hr, hh, hf]
  simp
set_option maxHeartbeats 4000000
theorem frz_sl {H : Heap} {k id n : Nat} {l : List Int} (h : H.data? id = some (iL l)) (hl : l.length = n) : frzV H (k + 1) (.sl id 1 0 n) = some (.rd 1 n (iL l)) := by
  have := iL_len l
  subst hl
  simp [frzV_sl, h, this, List.take_of_length_le]
theorem frzL_cons {H : Heap} {k : Nat} {x y : AV} {xs ys : List AV} (h : frzV H (k + 1) x = some y) (hs : frzL H (k + 1) xs = some ys) : frzL H (k + 2) (x :: xs) = some (y :: ys) := by
  simp [frzL, h, hs]
theorem frzL_nil {H : Heap} {k : Nat} : frzL H (k + 1) [] = some [] := by simp [frzL]
theorem frzV_tup {H : Heap} {k : Nat} {cs cs' : List AV} (h : idFreeL cs = false) (h1 : frzL H k cs = some cs') : frzV H (k + 1) (.tup cs) = some (.tup cs') := by
  simp [frzV, h, h1]
theorem rd_isL {n : Nat} {l : List Int} (h : l.length = n) : IsL (.rd 1 n (iL l)) l := by subst h; exact .rd _
theorem ext_getI {a c : List Int} (h : a.length = c.length) (h2 : ∀ i : Nat, i < a.length → getI a (i : Int) = getI c (i : Int)) : a = c := by
  refine List.ext_getElem h fun j h1 h3 => ?_
  have := h2 j h1
  rw [getI_nat, getI_nat] at this
  simpa [List.getD, h1, h3] using this
theorem c74 {x : AV} {b : List (List Int)} (hx : IsLL x b) (hb : Bd b) {i : Nat} (hi : i < b.length) {m : Nat} (hm : 100 ≤ m) (H : Heap) : callPure (evF tab it m) true 74 [x, .int .i64 (i : Int)] H = some (.int .i64 (deg b.length (ed b) i), H) := by
  have f74 : evF tab it m 74 [x, .int .i64 (i : Int)] [] = some (.int .i64 (deg b.length (ed b) i), []) := by
    obtain ⟨m, rfl⟩ : ∃ j, m = j + 1 := ⟨m - 1, by omega⟩
    have fx := hx.free
    have hl := hb.len
    have hrow := hx.at (i := (i : Int)) ⟨by omega, by omega⟩
    have hrl := hb.row i hi
    have lr : ∀ H, evP H .len [llAt x (i : Int)] = some (.int .i64 ((b.length : Nat) : Int)) := fun H => by rw [← hrl]; exact p_lenI hrow
    have fr := hrow.free
    refine f_enter rfl rfl ?_
    generalize evF tab it m = call at *
    repeat' first
 | (apply s_mov; exact aW)
 | (apply c_nil)
 | (apply s_pn; exact aO; exact lr _)
 | (apply s_idxLL; exact aW; exact rfl; assumption; omega)
 | (apply s_ldLL; exact rfl; assumption; omega)
 | (apply c_seq)
 | (apply c_reg)
 | (apply c_block)
 | (with_reducible apply k_c)
    refine c_loop ?_
    refine loop_gc (σ := Nat) (fun k => [.int .i64 (sumTo (fun j => ed b i j) k), llAt x (i : Int), .int .i64 ((b.length : Nat) : Int), .int .i64 (k : Int)]) (fun _ => []) (fun k => k ≤ b.length) (fun k => b.length - k) ?_ _ 0 _ _ (by omega) (by omega) (gc_to rfl (by simp [idFreeL, AV.idFree, *]; done))
    intro k hk K hK
    have hs := sumTo_le (f := fun j => ed b i j) (M := 3) (n := k) fun j hj => by have := hb.val i j hi (by omega); unfold ed; omega
    have hK1 := hK (k + 1)
    simp only [sumTo] at hK1
    by_cases hkn : k < b.length
    · have hv := hb.val i k hi hkn
      have hed : ed b i k = getI (getLL b (i : Int)) (k : Int) := rfl
      rw [hed] at hK1
      repeat' first
 | (apply s_mov; exact aW)
 | (apply c_nil)
 | (apply s_lss; exact rfl; all_goals (intro _; try (exfalso; omega)))
 | (apply s_add; exact rfl; omega)
 | (apply s_idx; exact aW; exact rfl; exact aI; omega)
 | (apply s_ldI; exact rfl; omega)
 | (apply c_seq)
 | (apply c_reg)
 | (apply c_block)
 | (apply c_skip)
 | (apply c_condT; exact rfl)
 | (with_reducible apply k_c)
      exact hK1 _ _ (by omega) (by omega) (gc_to rfl (by simp [idFreeL, AV.idFree, *]; done))
    · obtain rfl : k = b.length := by omega
      have hd : sumTo (fun j => ed b i j) b.length = deg b.length (ed b) i := by unfold deg; rfl
      rw [hd] at *
      repeat' first
 | (apply s_mov; exact aW)
 | (apply c_nil)
 | (apply s_lss; exact rfl; all_goals (intro _; try (exfalso; omega)))
 | (apply c_seq)
 | (apply c_reg)
 | (apply c_exitH)
 | (apply c_ret)
 | (apply c_condF; exact rfl)
 | (apply c_preF; exact aK; exact aF)
 | (with_reducible apply k_c)
      exact fin_t (by (conv => lhs; whnf)) (by rfl) rfl
  exact callPure_free (by simp [idFreeL, AV.idFree, hx.free]) (by simp) f74 rfl
set_option maxHeartbeats 1000000
def unit (v : Nat) (k : Int) (j : Nat) : Int := if j = v then k else 0
theorem net_unit_self {n : Nat} {E : Nat → Nat → Int} (g : Gr n E) {v : Nat} (hv : v < n) {k : Int} (hk : 0 ≤ k) : net n E (unit v k) v ≤ k * deg n E v := by
  unfold net deg
  rw [sumTo_mul]
  refine sumTo_mono fun j hj => ?_
  try dsimp only
  rw [Int.mul_comm]
  refine Int.mul_le_mul_of_nonneg_right ?_ (g.nn v j hv hj)
  unfold unit
  rw [if_pos rfl]
  split <;> omega
theorem net_unit_other {n : Nat} {E : Nat → Nat → Int} (g : Gr n E) {v w : Nat} (hw : w < n) (hne : w ≠ v) {k : Int} (hk : 0 ≤ k) : net n E (unit v k) w ≤ 0 := by
  rw [show (0 : Int) = sumTo (fun _ => 0) n from (sumTo_zero n).symm]
  unfold net
  refine sumTo_mono fun j hj => ?_
  have := Int.mul_nonneg (g.nn w j hw hj) (show 0 ≤ unit v k j by unfold unit; split <;> omega)
  have e : unit v k w = 0 := by unfold unit; rw [if_neg hne]
  rw [e, Int.zero_sub, Int.mul_neg]
  omega
structure SetOk (n : Nat) (E : Nat → Nat → Int) (q : Nat) (c t : Nat → Int) : Prop where
  nn : ∀ v, v < n → 0 ≤ t v
  q0 : t q = 0
  pos : ∀ v, v < n → v ≠ q → 0 ≤ ap n E c t v
  lst : ∀ T : Nat → Int, (∀ v, v < n → 0 ≤ T v) → T q = 0 → (∀ v, v < n → v ≠ q → ap n E c T v < deg n E v) → ∀ v, v < n → t v ≤ T v
theorem ap_congr {n : Nat} {E : Nat → Nat → Int} {c c' t t' : Nat → Int} {v : Nat} (hv : v < n) (h : ∀ j, j < n → t j = t' j) (hc : c v = c' v) : ap n E c t v = ap n E c' t' v := by
  unfold ap
  rw [hc, net_congr hv h]
theorem SetOk.congr {n : Nat} {E : Nat → Nat → Int} {q : Nat} (hq : q < n) {c t t' : Nat → Int} (h : SetOk n E q c t) (e : ∀ j, j < n → t j = t' j) : SetOk n E q c t' :=
  ⟨fun v hv => by rw [← e v hv]; exact h.nn v hv, by rw [← e q hq]; exact h.q0, fun v hv hvq => by rw [← ap_congr hv e rfl]; exact h.pos v hv hvq, fun T a b d v hv => by rw [← e v hv]; exact h.lst T a b d v hv⟩
theorem SetOk.init {n : Nat} {E : Nat → Nat → Int} {q : Nat} {c : Nat → Int} (h : ∀ v, v < n → v ≠ q → 0 ≤ c v) : SetOk n E q c (fun _ => 0) :=
  ⟨fun _ _ => Int.le_refl _, rfl, fun v hv hvq => by unfold ap; rw [net_const]; have := h v hv hvq; omega, fun T hT _ _ v hv => hT v hv⟩
theorem SetOk.step {n : Nat} {E : Nat → Nat → Int} (g : Gr n E) {q : Nat} {c t : Nat → Int} (h : SetOk n E q c t) {v : Nat} (hv : v < n) (hvq : v ≠ q) {k : Int} (hk : 1 ≤ k) (hl : k * deg n E v ≤ ap n E c t v) : SetOk n E q c (fun j => t j + unit v k j) := by
  refine ⟨fun w hw => ?_, ?_, fun w hw hwq => ?_, fun T a b d w hw => ?_⟩
  · have := h.nn w hw
    unfold unit
    split <;> omega
  · have := h.q0
    unfold unit
    rw [if_neg (fun e => hvq e.symm)]
    omega
  · have e : ap n E c (fun j => t j + unit v k j) w = ap n E c t w - net n E (unit v k) w := by unfold ap; rw [net_add]; omega
    rw [e]
    by_cases hwv : w = v
    · subst hwv
      have := net_unit_self g hv (k := k) (by omega)
      omega
    · have := net_unit_other g hw hwv (k := k) (by omega)
      have := h.pos w hw hwq
      omega
  · have hle := h.lst T a b d
    by_cases hwv : w = v
    · subst hwv
      have := least g hle hv (d w hw hvq) hk hl
      unfold unit
      rw [if_pos rfl]
      exact this
    · have := hle w hw
      unfold unit
      rw [if_neg hwv]
      omega
def oth (n : Nat) (q : Int) (f : Nat → Int) : Int := sumTo (fun i => if (i : Int) = q then 0 else f i) n
theorem oth_term {n q : Nat} {f : Nat → Int} (h : ∀ v, v < n → v ≠ q → 0 ≤ f v) {v : Nat} (hv : v < n) (hvq : v ≠ q) : f v ≤ oth n q f := by
  have := sumTo_term (f := fun i => if (i : Int) = (q : Int) then 0 else f i) (n := n) (k := v) (fun j hj => by
    try dsimp only
    split
    · exact Int.le_refl _
    · rename_i e; exact h j hj (fun e2 => e (by rw [e2]))) hv
  try dsimp only at this
  rw [if_neg (fun e => hvq (by omega))] at this
  exact this
theorem sumTo_unit (q : Nat) (a : Int) : ∀ n, sumTo (fun i => if (i : Int) = (q : Int) then a else 0) n = if q < n then a else 0
  | 0 => rfl
  | n + 1 => by
    simp only [sumTo]
    rw [sumTo_unit q a n]
    by_cases h : n = q
    · subst h; rw [if_neg (by omega), if_pos rfl, if_pos (by omega)]; omega
    · rw [if_neg (show ¬ ((n : Nat) : Int) = (q : Int) by omega)]
      by_cases h2 : q < n
      · rw [if_pos h2, if_pos (by omega)]; omega
      · rw [if_neg h2, if_neg (by omega)]; omega
theorem oth_eq {n q : Nat} (hq : q < n) (f : Nat → Int) : oth n q f = sumTo f n - f q := by
  have h : sumTo f n = oth n q f + sumTo (fun i => if (i : Int) = (q : Int) then f q else 0) n := by
    unfold oth
    rw [← sumTo_add]
    refine sumTo_congr fun i _ => ?_
    by_cases e : (i : Int) = (q : Int)
    · rw [if_pos e, if_pos e]; have : i = q := by omega
      rw [this]; omega
    · rw [if_neg e, if_neg e]; omega
  rw [sumTo_unit, if_pos hq] at h
  omega
theorem oth_nn {n q : Nat} {f : Nat → Int} (h : ∀ v, v < n → v ≠ q → 0 ≤ f v) : 0 ≤ oth n q f := sumTo_nn fun j hj => by
  try dsimp only
  split
  · exact Int.le_refl _
  · rename_i e; exact h j hj (fun e2 => e (by rw [e2]))
theorem SetOk.le {n : Nat} {E : Nat → Nat → Int} (g : Gr n E) {q : Nat} (hq : q < n) {D : Nat → Int} (d : Dst n E q D) {c t : Nat → Int} (hc : ∀ v, v < n → v ≠ q → 0 ≤ c v) {M : Int} (hM : oth n q c ≤ M) (h : SetOk n E q c t) :
    (∀ v, v < n → v ≠ q → ap n E c t v ≤ M) ∧ (c q ≤ ap n E c t q ∧ ap n E c t q ≤ c q + M) ∧ (∀ v, v < n → 0 ≤ t v ∧ t v ≤ n * (n * M)) ∧ oth n q (ap n E c t) ≤ M := by
  have hn := g.sz
  have hsum := ap_sum g c t
  have e1 := oth_eq hq c
  have e2 := oth_eq hq (ap n E c t)
  have o1 := oth_nn hc
  have o2 := oth_nn h.pos
  have hnq : net n E t q ≤ 0 := by
    rw [show (0 : Int) = sumTo (fun _ => 0) n from (sumTo_zero n).symm]
    unfold net
    refine sumTo_mono fun j hj => ?_
    have := Int.mul_nonneg (g.nn q j hq hj) (h.nn j hj)
    rw [h.q0, Int.zero_sub, Int.mul_neg]
    omega
  have hcq : c q ≤ ap n E c t q := by unfold ap; omega
  have hle : ∀ v, v < n → v ≠ q → ap n E c t v ≤ M := fun v hv hvq => by
    have := oth_term h.pos hv hvq
    omega
  refine ⟨hle, ⟨hcq, by omega⟩, fun v hv => ⟨h.nn v hv, ?_⟩, by omega⟩
  have hs := script_le g d (t := t) (B := M) (by omega) h.q0 (fun w hw hwq => by
    have a := hle w hw hwq
    have b := h.pos w hw hwq
    have c1 := hc w hw hwq
    have c2 := oth_term hc hw hwq
    unfold ap at a b
    omega) n v hv (d.le v hv)
  exact hs.2
set_option maxHeartbeats 2000000
def skp (i r : Nat) : Nat := if r < i then r else r + 1
def mn (M : Nat → Nat → Int) (i j : Nat) : Nat → Nat → Int := fun r c => M (skp i r) (skp j c)
def sg (i : Nat) : Int := if i % 2 = 0 then 1 else -1
theorem sg_succ (i : Nat) : sg (i + 1) = - sg i := by unfold sg; split <;> split <;> omega
theorem sg_sq (i : Nat) : sg i * sg i = 1 := by unfold sg; split <;> rfl
def det : Nat → (Nat → Nat → Int) → Int
  | 0, _ => 1
  | n + 1, M => sumTo (fun i => sg i * (M i 0 * det n (mn M i 0))) (n + 1)
theorem skp_lt {i r n : Nat} (h : r < n) : skp i r < n + 1 := by unfold skp; split <;> omega
theorem det_congr : ∀ {n : Nat} {M M' : Nat → Nat → Int}, (∀ r c, r < n → c < n → M r c = M' r c) → det n M = det n M'
  | 0, _, _, _ => rfl
  | n + 1, M, M', h => by
    unfold det
    refine sumTo_congr fun i hi => ?_
    rw [h i 0 hi (by omega), det_congr (n := n) (M := mn M i 0) (M' := mn M' i 0) fun r c hr hc => h _ _ (skp_lt hr) (skp_lt hc)]
def rwR (M : Nat → Nat → Int) (k : Nat) (f : Nat → Int) : Nat → Nat → Int := fun r c => if r = k then f c else M r c
theorem rwR_self (M : Nat → Nat → Int) (k : Nat) : rwR M k (M k) = M := by
  funext r c
  unfold rwR
  split
  · rename_i h; rw [h]
  · rfl
theorem rwR_comm (M : Nat → Nat → Int) {k l : Nat} (h : k ≠ l) (f g : Nat → Int) : rwR (rwR M k f) l g = rwR (rwR M l g) k f := by
  funext r c
  unfold rwR
  by_cases e : r = k <;> by_cases e2 : r = l <;> simp [e, e2] <;> omega
theorem mn_rwR_at (M : Nat → Nat → Int) (k : Nat) (f : Nat → Int) (j : Nat) : mn (rwR M k f) k j = mn M k j := by
  funext r c
  unfold mn rwR
  rw [if_neg (by unfold skp; split <;> omega)]
theorem mn_rwR_lt (M : Nat → Nat → Int) {k i : Nat} (h : k < i) (f : Nat → Int) (j : Nat) : mn (rwR M k f) i j = rwR (mn M i j) k (fun c => f (skp j c)) := by
  funext r c
  unfold mn rwR
  by_cases e : r = k
  · subst e; rw [if_pos (by unfold skp; rw [if_pos h]), if_pos rfl]
  · rw [if_neg (by unfold skp; split <;> omega), if_neg e]
theorem mn_rwR_gt (M : Nat → Nat → Int) {k i : Nat} (h : i < k + 1) (f : Nat → Int) (j : Nat) : mn (rwR M (k + 1) f) i j = rwR (mn M i j) k (fun c => f (skp j c)) := by
  funext r c
  unfold mn rwR
  by_cases e : r = k
  · subst e; rw [if_pos (by unfold skp; rw [if_neg (by omega)]), if_pos rfl]
  · rw [if_neg (by unfold skp; split <;> omega), if_neg e]
theorem det_lin (t : Int) : ∀ {n : Nat} {M : Nat → Nat → Int} {k : Nat} {f g : Nat → Int}, k < n → det n (rwR M k (fun c => f c + t * g c)) = det n (rwR M k f) + t * det n (rwR M k g)
  | n + 1, M, k, f, g, hk => by
    unfold det
    rw [sumTo_mul, ← sumTo_add]
    refine sumTo_congr fun i hi => ?_
    by_cases e : i = k
    · subst e
      rw [mn_rwR_at, mn_rwR_at, mn_rwR_at]
      simp only [rwR, if_true]
      rw [Int.add_mul, Int.mul_add, Int.mul_assoc, Int.mul_left_comm (sg i) t]
    · have em : ∀ f : Nat → Int, rwR M k f i 0 = M i 0 := fun f => by unfold rwR; rw [if_neg e]
      rw [em, em, em]
      rcases Nat.lt_or_ge k i with h | h
      · rw [mn_rwR_lt _ h, mn_rwR_lt _ h, mn_rwR_lt _ h, det_lin t (n := n) (M := mn M i 0) (k := k) (f := fun c => f (skp 0 c)) (g := fun c => g (skp 0 c)) (by omega), Int.mul_add, Int.mul_add, Int.mul_left_comm (M i 0) t, Int.mul_left_comm (sg i) t]
      · obtain ⟨k, rfl⟩ : ∃ j, k = j + 1 := ⟨k - 1, by omega⟩
        have h' : i < k + 1 := by omega
        rw [mn_rwR_gt _ h', mn_rwR_gt _ h', mn_rwR_gt _ h', det_lin t (n := n) (M := mn M i 0) (k := k) (f := fun c => f (skp 0 c)) (g := fun c => g (skp 0 c)) (by omega), Int.mul_add, Int.mul_add, Int.mul_left_comm (M i 0) t, Int.mul_left_comm (sg i) t]
theorem sumTo_pair {F : Nat → Int} {k : Nat} : ∀ {n : Nat}, k + 1 < n → (∀ j, j < n → j ≠ k → j ≠ k + 1 → F j = 0) → sumTo F n = F k + F (k + 1)
  | n + 1, hk, h => by
    simp only [sumTo]
    by_cases e : n = k + 1
    · subst e
      have : sumTo F (k + 1) = F k := by
        simp only [sumTo]
        have e0 : sumTo F k = sumTo (fun _ => 0) k := sumTo_congr fun j hj => h j (by omega) (by omega) (by omega)
        rw [e0, sumTo_zero]; omega
      rw [this]
    · rw [sumTo_pair (n := n) (by omega) fun j hj => h j (by omega), h n (by omega) (by omega) e]; omega
theorem det_adj : ∀ {n : Nat} {M : Nat → Nat → Int} {k : Nat}, k + 1 < n → (∀ c, M k c = M (k + 1) c) → det n M = 0
  | n + 1, M, k, hk, h => by
    unfold det
    rw [sumTo_pair (k := k) hk fun j hj h1 h2 => ?_]
    · have e : mn M k 0 = mn M (k + 1) 0 := by
        funext r c
        unfold mn
        by_cases e : r = k
        · subst e
          rw [show skp r r = r + 1 by unfold skp; rw [if_neg (by omega)], show skp (r + 1) r = r by unfold skp; rw [if_pos (by omega)]]
          exact (h _).symm
        · rw [show skp k r = skp (k + 1) r by unfold skp; split <;> split <;> omega]
      rw [e, h 0, sg_succ, Int.neg_mul]
      omega
    · have hz : det n (mn M j 0) = 0 := by
        rcases Nat.lt_or_ge k j with g | g
        · refine det_adj (k := k) (by omega) fun c => ?_
          unfold mn
          rw [show skp j k = k by unfold skp; rw [if_pos g], show skp j (k + 1) = k + 1 by unfold skp; rw [if_pos (by omega)]]
          exact h _
        · obtain ⟨k, rfl⟩ : ∃ i, k = i + 1 := ⟨k - 1, by omega⟩
          refine det_adj (k := k) (by omega) fun c => ?_
          unfold mn
          rw [show skp j k = k + 1 by unfold skp; rw [if_neg (by omega)], show skp j (k + 1) = k + 1 + 1 by unfold skp; rw [if_neg (by omega)]]
          exact h _
      rw [hz]; simp
theorem swap_of {n : Nat} {i j : Nat} (hi : i < n) (hj : j < n) (hij : i ≠ j) (h0 : ∀ M : Nat → Nat → Int, (∀ c, M i c = M j c) → det n M = 0) (M : Nat → Nat → Int) : det n (rwR (rwR M i (M j)) j (M i)) = - det n M := by
  have key : ∀ f g : Nat → Int, det n (rwR (rwR M i f) j g) = - det n (rwR (rwR M i g) j f) := fun f g => by
    have hz : ∀ f : Nat → Int, det n (rwR (rwR M i f) j f) = 0 := fun f => h0 _ fun c => by
      unfold rwR
      rw [if_neg hij, if_pos rfl, if_pos rfl]
    have h1 := hz (fun c => f c + 1 * g c)
    rw [det_lin 1 hj, rwR_comm M hij, rwR_comm M hij, det_lin 1 hi, det_lin 1 hi, ← rwR_comm M hij, ← rwR_comm M hij, ← rwR_comm M hij, ← rwR_comm M hij, hz, hz] at h1
    omega
  have := key (M j) (M i)
  rw [rwR_self, rwR_self] at this
  exact this
theorem det_eq {n : Nat} : ∀ (d : Nat) {M : Nat → Nat → Int} {i : Nat}, i + d + 1 < n → (∀ c, M i c = M (i + d + 1) c) → det n M = 0
  | 0, M, i, h, he => det_adj h he
  | d + 1, M, i, h, he => by
    have hs := swap_of (n := n) (i := i + d + 1) (j := i + (d + 1) + 1) (by omega) h (by omega) (fun M hM => det_adj (by omega) hM) M
    have h2 : det n (rwR (rwR M (i + d + 1) (M (i + (d + 1) + 1))) (i + (d + 1) + 1) (M (i + d + 1))) = 0 := det_eq d (i := i) (by omega) fun c => by
      unfold rwR
      rw [if_neg (by omega), if_neg (by omega), if_neg (by omega), if_pos rfl]
      exact he c
    omega
theorem det_eq' {n : Nat} {M : Nat → Nat → Int} {i j : Nat} (hi : i < n) (hj : j < n) (hij : i ≠ j) (h : ∀ c, M i c = M j c) : det n M = 0 := by
  rcases Nat.lt_or_ge i j with g | g
  · exact det_eq (j - i - 1) (i := i) (by omega) fun c => by rw [show i + (j - i - 1) + 1 = j by omega]; exact h c
  · exact det_eq (i - j - 1) (i := j) (by omega) fun c => by rw [show j + (i - j - 1) + 1 = i by omega]; exact (h c).symm
theorem det_swap {n : Nat} {i j : Nat} (hi : i < n) (hj : j < n) (hij : i ≠ j) (M : Nat → Nat → Int) : det n (rwR (rwR M i (M j)) j (M i)) = - det n M :=
  swap_of hi hj hij (fun _ h => det_eq' hi hj hij h) M
theorem det_row {n : Nat} {i j : Nat} (hi : i < n) (hj : j < n) (hij : i ≠ j) (t : Int) (M : Nat → Nat → Int) : det n (rwR M i (fun c => M i c + t * M j c)) = det n M := by
  rw [det_lin t hi, rwR_self, det_eq' (M := rwR M i (M j)) hi hj hij fun c => by unfold rwR; rw [if_pos rfl, if_neg (Ne.symm hij)]]
  omega
theorem det_zrow {n : Nat} {i : Nat} (hi : i < n) {M : Nat → Nat → Int} (h : ∀ c, M i c = 0) : det n M = 0 := by
  have h1 := det_lin (-1) (M := M) (f := M i) (g := M i) hi
  rw [rwR_self] at h1
  have e : rwR M i (fun c => M i c + -1 * M i c) = M := by
    funext r c
    unfold rwR
    split
    · rename_i e; subst e
      show M r c + -1 * M r c = M r c
      have := h c
      omega
    · rfl
  rw [e] at h1
  omega
theorem mn_mn (M : Nat → Nat → Int) (i j : Nat) : mn (mn M (i + 1) 0) 0 j = mn (mn M 0 (j + 1)) i 0 := by
  funext r c
  unfold mn
  have h1 : skp (i + 1) (skp 0 r) = skp 0 (skp i r) := by unfold skp; simp only [Nat.not_lt_zero, if_false]; split <;> split <;> omega
  have h2 : skp 0 (skp j c) = skp (j + 1) (skp 0 c) := by unfold skp; simp only [Nat.not_lt_zero, if_false]; split <;> split <;> omega
  rw [h1, h2]
theorem sumTo_front' (F : Nat → Int) : ∀ m, sumTo F (m + 1) = F 0 + sumTo (fun j => F (j + 1)) m
  | 0 => by simp [sumTo]
  | m + 1 => by
    show sumTo F (m + 1) + F (m + 1) = F 0 + (sumTo (fun j => F (j + 1)) m + F (m + 1))
    rw [sumTo_front' F m]; omega
theorem det_first : ∀ (n : Nat) (M : Nat → Nat → Int), det (n + 1) M = sumTo (fun j => sg j * (M 0 j * det n (mn M 0 j))) (n + 1)
  | 0, M => by simp [det, sumTo]
  | n + 1, M => by
    have hL : det (n + 1 + 1) M = sumTo (fun i => sg i * (M i 0 * det (n + 1) (mn M i 0))) (n + 1 + 1) := rfl
    rw [hL, sumTo_front', sumTo_front' (fun j => sg j * (M 0 j * det (n + 1) (mn M 0 j)))]
    congr 1
    have e1 : ∀ i, i < n + 1 → sg (i + 1) * (M (i + 1) 0 * det (n + 1) (mn M (i + 1) 0)) = sumTo (fun j => sg (i + 1) * (M (i + 1) 0 * (sg j * (M 0 (j + 1) * det n (mn (mn M 0 (j + 1)) i 0))))) (n + 1) := fun i hi => by
      rw [det_first n (mn M (i + 1) 0), sumTo_mul, sumTo_mul]
      refine sumTo_congr fun j hj => ?_
      rw [mn_mn]
      rfl
    have e2 : ∀ j, j < n + 1 → sg (j + 1) * (M 0 (j + 1) * det (n + 1) (mn M 0 (j + 1))) = sumTo (fun i => sg (i + 1) * (M (i + 1) 0 * (sg j * (M 0 (j + 1) * det n (mn (mn M 0 (j + 1)) i 0))))) (n + 1) := fun j hj => by
      have hd : det (n + 1) (mn M 0 (j + 1)) = sumTo (fun i => sg i * (mn M 0 (j + 1) i 0 * det n (mn (mn M 0 (j + 1)) i 0))) (n + 1) := rfl
      rw [hd, sumTo_mul, sumTo_mul]
      refine sumTo_congr fun i hi => ?_
      have h0 : mn M 0 (j + 1) i 0 = M (i + 1) 0 := rfl
      rw [h0, sg_succ, sg_succ]
      simp only [Int.neg_mul, Int.neg_inj]
      simp only [Int.mul_assoc, Int.mul_comm, Int.mul_left_comm]
    have h1 : sumTo (fun i => sg (i + 1) * (M (i + 1) 0 * det (n + 1) (mn M (i + 1) 0))) (n + 1) = sumTo (fun i => sumTo (fun j => sg (i + 1) * (M (i + 1) 0 * (sg j * (M 0 (j + 1) * det n (mn (mn M 0 (j + 1)) i 0))))) (n + 1)) (n + 1) := sumTo_congr e1
    have h2 : sumTo (fun j => sg (j + 1) * (M 0 (j + 1) * det (n + 1) (mn M 0 (j + 1)))) (n + 1) = sumTo (fun j => sumTo (fun i => sg (i + 1) * (M (i + 1) 0 * (sg j * (M 0 (j + 1) * det n (mn (mn M 0 (j + 1)) i 0))))) (n + 1)) (n + 1) := sumTo_congr e2
    rw [h1, h2]
    exact sumTo_comm _ _ _
def tr (M : Nat → Nat → Int) : Nat → Nat → Int := fun r c => M c r
theorem det_tr : ∀ (n : Nat) (M : Nat → Nat → Int), det n (tr M) = det n M
  | 0, _ => rfl
  | n + 1, M => by
    rw [det_first n M]
    show sumTo (fun i => sg i * (tr M i 0 * det n (mn (tr M) i 0))) (n + 1) = _
    refine sumTo_congr fun i hi => ?_
    have e : mn (tr M) i 0 = tr (mn M 0 i) := rfl
    rw [e, det_tr n]
    rfl
set_option maxHeartbeats 2000000
def mv (u : Nat) : Nat → Nat
  | 0 => u
  | r + 1 => skp u r
theorem det_mv {n : Nat} : ∀ (u : Nat) (M : Nat → Nat → Int), u < n → det n (fun r c => M (mv u r) c) = sg u * det n M
  | 0, M, hu => by
    have e : (fun r c => M (mv 0 r) c) = M := by
      funext r c
      cases r with
      | zero => rfl
      | succ r => show M (skp 0 r) c = _; unfold skp; rw [if_neg (by omega)]
    rw [e]
    show _ = 1 * _
    omega
  | u + 1, M, hu => by
    have h := det_mv (n := n) u (rwR (rwR M u (M (u + 1))) (u + 1) (M u)) (by omega)
    rw [det_swap (i := u) (j := u + 1) (by omega) hu (by omega)] at h
    have e : (fun r c => rwR (rwR M u (M (u + 1))) (u + 1) (M u) (mv u r) c) = fun r c => M (mv (u + 1) r) c := by
      funext r c
      cases r with
      | zero => show rwR _ _ _ u c = M (u + 1) c; unfold rwR; rw [if_neg (show ¬ u = u + 1 by omega), if_pos rfl]
      | succ r =>
        show rwR _ _ _ (skp u r) c = M (skp (u + 1) r) c
        unfold rwR skp
        by_cases h1 : r < u
        · rw [if_pos h1, if_neg (show ¬ r = u + 1 by omega), if_neg (show ¬ r = u by omega), if_pos (show r < u + 1 by omega)]
        · by_cases h2 : r = u
          · subst h2; rw [if_neg h1, if_pos rfl, if_pos (show r < r + 1 by omega)]
          · rw [if_neg h1, if_neg (show ¬ r + 1 = u + 1 by omega), if_neg (show ¬ r + 1 = u by omega), if_neg (show ¬ r < u + 1 by omega)]
    rw [e] at h
    rw [h, sg_succ, Int.mul_neg, Int.neg_mul]
theorem det_unit {n u : Nat} {M : Nat → Nat → Int} (hu : u < n + 1) (h : ∀ c, c < n + 1 → M u c = if c = u then 1 else 0) : det (n + 1) M = det n (mn M u u) := by
  have h1 := det_mv u M hu
  have h2 := det_mv u (tr (fun r c => M (mv u r) c)) hu
  rw [det_tr] at h2
  have h3 : det (n + 1) (fun r c => M (mv u r) (mv u c)) = det (n + 1) (fun r c => tr (fun r c => M (mv u r) c) (mv u r) c) := (det_tr (n + 1) (fun r c => M (mv u r) (mv u c))).symm
  rw [h2, h1, ← Int.mul_assoc, sg_sq, Int.one_mul] at h3
  rw [← h3, det_first, sumTo_front']
  have hz : sumTo (fun j => sg (j + 1) * (M (mv u 0) (mv u (j + 1)) * det n (mn (fun r c => M (mv u r) (mv u c)) 0 (j + 1)))) n = 0 := by
    have e : sumTo (fun j => sg (j + 1) * (M (mv u 0) (mv u (j + 1)) * det n (mn (fun r c => M (mv u r) (mv u c)) 0 (j + 1)))) n = sumTo (fun _ => 0) n := sumTo_congr fun j hj => by
      have : M (mv u 0) (mv u (j + 1)) = 0 := by
        show M u (skp u j) = 0
        rw [h _ (skp_lt hj), if_neg (by unfold skp; split <;> omega)]
      rw [this]; simp
    rw [e, sumTo_zero]
  rw [hz]
  have h0 : M (mv u 0) (mv u 0) = 1 := by show M u u = 1; rw [h u hu, if_pos rfl]
  rw [h0]
  have e : mn (fun r c => M (mv u r) (mv u c)) 0 0 = mn M u u := by
    funext r c
    show M (mv u (skp 0 r)) (mv u (skp 0 c)) = M (skp u r) (skp u c)
    rfl
  rw [e]
  show 1 * (1 * _) + 0 = _
  omega
theorem dvd_sumTo {p : Int} {F : Nat → Int} : ∀ {n : Nat}, (∀ j, j < n → p ∣ F j) → p ∣ sumTo F n
  | 0, _ => Int.dvd_zero p
  | n + 1, h => Int.dvd_add (dvd_sumTo fun j hj => h j (by omega)) (h n (by omega))
theorem det_mod {p : Int} : ∀ {n : Nat} {M M' : Nat → Nat → Int}, (∀ r c, r < n → c < n → p ∣ M r c - M' r c) → p ∣ det n M - det n M'
  | 0, _, _, _ => by simp [det]
  | n + 1, M, M', h => by
    unfold det
    rw [← sumTo_sub]
    refine dvd_sumTo fun i hi => ?_
    have h1 := h i 0 hi (by omega)
    have h2 := det_mod (n := n) (M := mn M i 0) (M' := mn M' i 0) fun r c hr hc => h _ _ (skp_lt hr) (skp_lt hc)
    have e : sg i * (M i 0 * det n (mn M i 0)) - sg i * (M' i 0 * det n (mn M' i 0)) = sg i * (M i 0 * (det n (mn M i 0) - det n (mn M' i 0)) + (M i 0 - M' i 0) * det n (mn M' i 0)) := by
      rw [← Int.mul_sub]
      congr 1
      rw [Int.mul_sub, Int.sub_mul]
      omega
    rw [e]
    exact Int.dvd_mul_of_dvd_right (Int.dvd_add (Int.dvd_mul_of_dvd_right h2) (Int.dvd_mul_of_dvd_left h1))
theorem sumTo_skp (F : Nat → Int) : ∀ {m u : Nat}, u < m + 1 → sumTo F (m + 1) = F u + sumTo (fun j => F (skp u j)) m
  | 0, u, hu => by obtain rfl : u = 0 := by omega
                   simp [sumTo]
  | m + 1, u, hu => by
    by_cases e : u = m + 1
    · subst e
      have e2 : sumTo (fun j => F (skp (m + 1) j)) (m + 1) = sumTo F (m + 1) := sumTo_congr fun j hj => by unfold skp; rw [if_pos hj]
      rw [e2]
      show sumTo F (m + 1) + F (m + 1) = _
      omega
    · show sumTo F (m + 1) + F (m + 1) = F u + (sumTo (fun j => F (skp u j)) m + F (skp u m))
      rw [sumTo_skp F (m := m) (u := u) (by omega), show skp u m = m + 1 by unfold skp; rw [if_neg (by omega)]]
      omega
theorem det_rows0 {n : Nat} {M : Nat → Nat → Int} (h : ∀ c, c < n + 1 → sumTo (fun v => M v c) (n + 1) = 0) : det (n + 1) M = 0 := by
  have key : ∀ k, k ≤ n → det (n + 1) (rwR M 0 (fun c => sumTo (fun j => M (j + 1) c) k)) = 0 := fun k => by
    induction k with
    | zero =>
      intro _
      exact det_zrow (i := 0) (by omega) fun c => by unfold rwR; rw [if_pos rfl]; rfl
    | succ k ih =>
      intro hk
      have h1 := det_lin 1 (n := n + 1) (M := M) (k := 0) (f := fun c => sumTo (fun j => M (j + 1) c) k) (g := M (k + 1)) (by omega)
      rw [ih (by omega), det_eq' (M := rwR M 0 (M (k + 1))) (i := 0) (j := k + 1) (by omega) (by omega) (by omega) fun c => by unfold rwR; rw [if_pos rfl, if_neg (by omega)]] at h1
      have e : (fun c => sumTo (fun j => M (j + 1) c) (k + 1)) = fun c => sumTo (fun j => M (j + 1) c) k + 1 * M (k + 1) c := by
        funext c
        simp only [sumTo]
        omega
      rw [e, h1]
      rfl
  have h1 := det_lin (-1) (n := n + 1) (M := M) (k := 0) (f := fun _ => 0) (g := fun c => sumTo (fun j => M (j + 1) c) n) (by omega)
  rw [key n (Nat.le_refl _), det_zrow (M := rwR M 0 fun _ => 0) (i := 0) (by omega) fun c => by unfold rwR; rw [if_pos rfl]] at h1
  rw [← det_congr (M := rwR M 0 (fun c => 0 + -1 * sumTo (fun j => M (j + 1) c) n)) (M' := M) fun r c hr hc => ?_]
  · rw [h1]; rfl
  · unfold rwR
    split
    · rename_i e; subst e
      have := h c hc
      rw [sumTo_front'] at this
      show 0 + -1 * _ = _
      omega
    · rfl
end Go.AM.Ch
