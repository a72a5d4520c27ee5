/- A part of the proof: U24. -/
import Derived.Test.YtmegimhfoedcdaaU9
set_option linter.unusedSectionVars false
set_option linter.unusedVariables false
set_option linter.unusedSimpArgs false
namespace Go.AM.Ch
set_option maxHeartbeats 1000000
/-! ### chips on graphs, plain -/
theorem sumTo_add (f g : Nat → Int) : ∀ n, sumTo (fun i => f i + g i) n = sumTo f n + sumTo g n
  | 0 => rfl
  | n + 1 => by simp only [sumTo]; rw [sumTo_add f g n]; omega
theorem sumTo_sub (f g : Nat → Int) : ∀ n, sumTo (fun i => f i - g i) n = sumTo f n - sumTo g n
  | 0 => rfl
  | n + 1 => by simp only [sumTo]; rw [sumTo_sub f g n]; omega
theorem sumTo_neg (f : Nat → Int) : ∀ n, sumTo (fun i => - f i) n = - sumTo f n
  | 0 => rfl
  | n + 1 => by simp only [sumTo]; rw [sumTo_neg f n]; omega
theorem sumTo_zero : ∀ n, sumTo (fun _ => 0) n = 0
  | 0 => rfl
  | n + 1 => by simp only [sumTo]; rw [sumTo_zero n]; omega
theorem sumTo_mono {f g : Nat → Int} : ∀ {n : Nat}, (∀ j, j < n → f j ≤ g j) → sumTo f n ≤ sumTo g n
  | 0, _ => Int.le_refl _
  | n + 1, h => by
    have a := sumTo_mono (n := n) fun j hj => h j (by omega)
    have b := h n (by omega)
    simp only [sumTo]
    omega
theorem sumTo_term {f : Nat → Int} : ∀ {n k : Nat}, (∀ j, j < n → 0 ≤ f j) → k < n → f k ≤ sumTo f n
  | n + 1, k, h, hk => by
    simp only [sumTo]
    rcases (by omega : k < n ∨ k = n) with h1 | rfl
    · have a := sumTo_term (n := n) (k := k) (fun j hj => h j (by omega)) h1
      have b := h n (by omega)
      omega
    · have a := sumTo_nn (f := f) (n := k) fun j hj => h j (by omega)
      omega
theorem sumTo_mulr (f : Nat → Int) (a : Int) : ∀ n, sumTo f n * a = sumTo (fun k => f k * a) n
  | 0 => by simp [sumTo]
  | n + 1 => by simp only [sumTo]; rw [Int.add_mul, sumTo_mulr f a n]
theorem sumTo_comm (f : Nat → Nat → Int) (m : Nat) : ∀ n, sumTo (fun i => sumTo (fun j => f i j) m) n = sumTo (fun j => sumTo (fun i => f i j) n) m
  | 0 => by simp only [sumTo]; rw [sumTo_zero]
  | n + 1 => by simp only [sumTo]; rw [sumTo_comm f m n, ← sumTo_add]
/-- a graph with many edges: E -/
structure Gr (n : Nat) (E : Nat → Nat → Int) : Prop where
  sz : n ≤ 12
  nn : ∀ i j, i < n → j < n → 0 ≤ E i j
  le : ∀ i j, i < n → j < n → E i j ≤ 3
  sy : ∀ i j, i < n → j < n → E i j = E j i
/-- what goes out of a place -/
def net (n : Nat) (E : Nat → Nat → Int) (t : Nat → Int) (i : Nat) : Int := sumTo (fun j => E i j * (t i - t j)) n
/-- the numbers after a script -/
def ap (n : Nat) (E : Nat → Nat → Int) (s t : Nat → Int) (i : Nat) : Int := s i - net n E t i
def deg (n : Nat) (E : Nat → Nat → Int) (i : Nat) : Int := sumTo (fun j => E i j) n
theorem net_add (n : Nat) (E : Nat → Nat → Int) (t u : Nat → Int) (i : Nat) : net n E (fun j => t j + u j) i = net n E t i + net n E u i := by
  unfold net
  rw [← sumTo_add]
  refine sumTo_congr fun j _ => ?_
  rw [← Int.mul_add]
  congr 1
  dsimp only
  omega
theorem net_neg (n : Nat) (E : Nat → Nat → Int) (t : Nat → Int) (i : Nat) : net n E (fun j => - t j) i = - net n E t i := by
  unfold net
  rw [← sumTo_neg]
  refine sumTo_congr fun j _ => ?_
  rw [← Int.mul_neg]
  congr 1
  dsimp only
  omega
theorem net_const (n : Nat) (E : Nat → Nat → Int) (a : Int) (i : Nat) : net n E (fun _ => a) i = 0 := by
  unfold net
  simp only [Int.sub_self, Int.mul_zero]
  exact sumTo_zero n
theorem net_congr {n : Nat} {E : Nat → Nat → Int} {t u : Nat → Int} {i : Nat} (hi : i < n) (h : ∀ j, j < n → t j = u j) : net n E t i = net n E u i := by
  unfold net
  exact sumTo_congr fun j hj => by rw [h i hi, h j hj]
theorem net_mul (n : Nat) (E : Nat → Nat → Int) (a : Int) (t : Nat → Int) (i : Nat) : net n E (fun j => a * t j) i = a * net n E t i := by
  unfold net
  rw [sumTo_mul]
  refine sumTo_congr fun j _ => ?_
  rw [← Int.mul_sub, Int.mul_left_comm]
/-- scripts and weights may change places -/
theorem net_self {n : Nat} {E : Nat → Nat → Int} (g : Gr n E) (w t : Nat → Int) : sumTo (fun i => w i * net n E t i) n = sumTo (fun i => t i * net n E w i) n := by
  have e : ∀ w t : Nat → Int, sumTo (fun i => w i * net n E t i) n = sumTo (fun i => sumTo (fun j => E i j * (w i * t i)) n) n - sumTo (fun i => sumTo (fun j => E i j * (w i * t j)) n) n := fun w t => by
    rw [← sumTo_sub]
    refine sumTo_congr fun i _ => ?_
    rw [← sumTo_sub]
    unfold net
    rw [sumTo_mul]
    refine sumTo_congr fun j _ => ?_
    rw [Int.mul_left_comm, Int.mul_sub, Int.mul_sub]
  rw [e w t, e t w]
  congr 1
  · exact sumTo_congr fun i _ => sumTo_congr fun j _ => by rw [Int.mul_comm (w i)]
  · rw [sumTo_comm]
    refine sumTo_congr fun i hi => sumTo_congr fun j hj => ?_
    rw [g.sy j i hj hi, Int.mul_comm (w j)]
/-- nothing is lost -/
theorem net_sum {n : Nat} {E : Nat → Nat → Int} (g : Gr n E) (t : Nat → Int) : sumTo (fun i => net n E t i) n = 0 := by
  have h := net_self g (fun _ => 1) t
  simp only [Int.one_mul] at h
  rw [h]
  have : ∀ i, net n E (fun _ => 1) i = 0 := fun i => net_const n E 1 i
  simp only [this, Int.mul_zero]
  exact sumTo_zero n
theorem ap_ap (n : Nat) (E : Nat → Nat → Int) (s t u : Nat → Int) (i : Nat) : ap n E (ap n E s t) u i = ap n E s (fun j => t j + u j) i := by
  show (s i - net n E t i) - net n E u i = s i - net n E (fun j => t j + u j) i
  rw [net_add]; omega
theorem ap_sum {n : Nat} {E : Nat → Nat → Int} (g : Gr n E) (s t : Nat → Int) : sumTo (ap n E s t) n = sumTo s n := by
  have : sumTo (ap n E s t) n = sumTo s n - sumTo (fun i => net n E t i) n := by rw [← sumTo_sub]; rfl
  rw [this, net_sum g]; omega
theorem deg_nn {n : Nat} {E : Nat → Nat → Int} (g : Gr n E) {i : Nat} (hi : i < n) : 0 ≤ deg n E i ∧ deg n E i ≤ 36 := by
  have a := sumTo_nn (f := fun j => E i j) (n := n) fun j hj => g.nn i j hi hj
  have b := sumTo_le (f := fun j => E i j) (M := 3) (n := n) fun j hj => by have := g.nn i j hi hj; have := g.le i j hi hj; omega
  have := g.sz
  unfold deg
  omega
/-- outside of a set -/
def outE (n : Nat) (E : Nat → Nat → Int) (S : Nat → Bool) (i : Nat) : Int := sumTo (fun j => if S j = true then 0 else E i j) n
/-- reduced -/
def Red (n : Nat) (E : Nat → Nat → Int) (q : Nat) (c : Nat → Int) : Prop :=
  (∀ v, v < n → v ≠ q → 0 ≤ c v) ∧ ∀ S : Nat → Bool, S q = false → (∃ v, v < n ∧ S v = true) → ∃ v, v < n ∧ S v = true ∧ c v < outE n E S v
theorem ex_max (t : Nat → Int) : ∀ {n : Nat}, 0 < n → ∃ v, v < n ∧ ∀ u, u < n → t u ≤ t v
  | 1, _ => ⟨0, by omega, fun u hu => by obtain rfl : u = 0 := by omega
                                         exact Int.le_refl _⟩
  | n + 2, _ => by
    obtain ⟨v, hv, h⟩ := ex_max t (n := n + 1) (by omega)
    rcases Int.lt_or_le (t v) (t (n + 1)) with g | g
    · refine ⟨n + 1, by omega, fun u hu => ?_⟩
      rcases (by omega : u < n + 1 ∨ u = n + 1) with h1 | rfl
      · have := h u h1; omega
      · exact Int.le_refl _
    · refine ⟨v, by omega, fun u hu => ?_⟩
      rcases (by omega : u < n + 1 ∨ u = n + 1) with h1 | rfl
      · exact h u h1
      · exact g
theorem red_top {n : Nat} {E : Nat → Nat → Int} (g : Gr n E) {q : Nat} (hq : q < n) {c t : Nat → Int} (hc : Red n E q c) (h : ∀ v, v < n → v ≠ q → 0 ≤ ap n E c t v) : ∀ v, v < n → t v ≤ t q := by
  obtain ⟨m, hm, hmax⟩ := ex_max t (n := n) (by omega)
  by_cases hqm : t q = t m
  · intro v hv; rw [hqm]; exact hmax v hv
  · exfalso
    obtain ⟨v, hv, hS, hlt⟩ := hc.2 (fun v => decide (t v = t m)) (by simpa using hqm) ⟨m, hm, by simp⟩
    simp only [decide_eq_true_eq] at hS
    have hvq : v ≠ q := fun e => hqm (e ▸ hS)
    have h1 := h v hv hvq
    have h2 : outE n E (fun v => decide (t v = t m)) v ≤ net n E t v := by
      refine sumTo_mono fun u hu => ?_
      have hn := g.nn v u hv hu
      have hmu := hmax u hu
      simp only [decide_eq_true_eq]
      split
      · rename_i e; rw [hS, e, Int.sub_self, Int.mul_zero]; exact Int.le_refl _
      · rename_i e
        have h3 : 1 ≤ t v - t u := by omega
        have := Int.mul_le_mul_of_nonneg_left h3 hn
        omega
    unfold ap at h1
    omega
/-- there is one reduced list only -/
theorem red_uniq {n : Nat} {E : Nat → Nat → Int} (g : Gr n E) {q : Nat} (hq : q < n) {c c' t : Nat → Int} (hc : Red n E q c) (hc' : Red n E q c') (h : ∀ v, v < n → c' v = ap n E c t v) : ∀ v, v < n → c' v = c v ∧ t v = t q := by
  have a := red_top g hq hc (t := t) fun v hv hvq => by rw [← h v hv]; exact hc'.1 v hv hvq
  have b := red_top g hq hc' (t := fun j => - t j) fun v hv hvq => by
    have := hc.1 v hv hvq
    unfold ap
    rw [net_neg, h v hv]
    unfold ap
    omega
  have hk : ∀ v, v < n → t v = t q := fun v hv => by have := a v hv; have := b v hv; omega
  intro v hv
  refine ⟨?_, hk v hv⟩
  rw [h v hv]
  unfold ap
  rw [net_congr hv (u := fun _ => t q) hk, net_const]
  omega
/-- what goes out of a set -/
theorem flow {n : Nat} {E : Nat → Nat → Int} (g : Gr n E) (t : Nat → Int) (S : Nat → Bool) :
    sumTo (fun i => if S i = true then net n E t i else 0) n = sumTo (fun i => sumTo (fun j => if S i = true ∧ S j = false then E i j * (t i - t j) else 0) n) n := by
  have e1 : sumTo (fun i => if S i = true then net n E t i else 0) n = sumTo (fun i => sumTo (fun j => if S i = true ∧ S j = false then E i j * (t i - t j) else 0) n) n + sumTo (fun i => sumTo (fun j => if S i = true ∧ S j = true then E i j * (t i - t j) else 0) n) n := by
    rw [← sumTo_add]
    refine sumTo_congr fun i _ => ?_
    rw [← sumTo_add]
    unfold net
    cases hS : S i with
    | false => simp only [Bool.false_eq_true, if_false, false_and, Int.add_zero]; rw [sumTo_zero]
    | true =>
      simp only [if_true, true_and]
      refine sumTo_congr fun j _ => ?_
      cases S j <;> simp
  have e2 : sumTo (fun i => sumTo (fun j => if S i = true ∧ S j = true then E i j * (t i - t j) else 0) n) n = 0 := by
    have h1 := sumTo_comm (fun i j => if S i = true ∧ S j = true then E i j * (t i - t j) else 0) n n
    have h2 : sumTo (fun j => sumTo (fun i => if S i = true ∧ S j = true then E i j * (t i - t j) else 0) n) n = - sumTo (fun i => sumTo (fun j => if S i = true ∧ S j = true then E i j * (t i - t j) else 0) n) n := by
      rw [← sumTo_neg]
      refine sumTo_congr fun j hj => ?_
      rw [← sumTo_neg]
      refine sumTo_congr fun i hi => ?_
      rw [g.sy i j hi hj]
      by_cases hij : S i = true ∧ S j = true
      · rw [if_pos hij, if_pos ⟨hij.2, hij.1⟩, ← Int.mul_neg]; congr 1; omega
      · rw [if_neg hij, if_neg (fun h => hij ⟨h.2, h.1⟩)]; rfl
    omega
  omega
theorem sumS_le {S : Nat → Bool} {f : Nat → Int} {B : Int} {q : Nat} (hB : 0 ≤ B) (hS : S q = false) : ∀ {n : Nat}, (∀ v, v < n → v ≠ q → f v ≤ B) → sumTo (fun i => if S i = true then f i else 0) n ≤ n * B
  | 0, _ => by simp [sumTo]
  | n + 1, h => by
    have a := sumS_le (n := n) hB hS fun v hv => h v (by omega)
    have e : ((n + 1 : Nat) : Int) * B = n * B + B := by push_cast; rw [Int.add_mul, Int.one_mul]
    simp only [sumTo]
    rw [e]
    split
    · rename_i hs
      have := h n (by omega) (fun e => by rw [e, hS] at hs; cases hs)
      omega
    · omega
/-- along an edge a script changes little -/
theorem edge_le {n : Nat} {E : Nat → Nat → Int} (g : Gr n E) {q : Nat} {t : Nat → Int} {B : Int} (hB : 0 ≤ B) (h : ∀ v, v < n → v ≠ q → -B ≤ net n E t v ∧ net n E t v ≤ B) {v u : Nat} (hv : v < n) (hu : u < n) (he : 1 ≤ E v u) : t v - t u ≤ n * B := by
  rcases Int.lt_or_le (t u) (t v) with hlt | hle
  · cases hq : decide (t v ≤ t q) with
    | false =>
      have f := flow g t (fun w => decide (t v ≤ t w))
      have s := sumS_le (S := fun w => decide (t v ≤ t w)) (f := net n E t) (n := n) hB hq fun w hw hwq => (h w hw hwq).2
      have nn : ∀ i, i < n → ∀ j, j < n → 0 ≤ (if decide (t v ≤ t i) = true ∧ decide (t v ≤ t j) = false then E i j * (t i - t j) else 0) := fun i hi j hj => by
        split
        · rename_i hc
          simp only [decide_eq_true_eq, decide_eq_false_iff_not] at hc
          exact Int.mul_nonneg (g.nn i j hi hj) (by omega)
        · exact Int.le_refl _
      have a := sumTo_term (n := n) (k := u) (nn v hv) hu
      have b := sumTo_term (f := fun i => sumTo (fun j => if decide (t v ≤ t i) = true ∧ decide (t v ≤ t j) = false then E i j * (t i - t j) else 0) n) (n := n) (k := v) (fun i hi => sumTo_nn fun j hj => nn i hi j hj) hv
      try dsimp only at a b
      rw [if_pos ⟨by simp, by simp; omega⟩] at a
      have c := Int.mul_le_mul_of_nonneg_right he (show 0 ≤ t v - t u by omega)
      omega
    | true =>
      simp only [decide_eq_true_eq] at hq
      have hq' : decide (t q < t v) = false := by simp; omega
      have f := flow g (fun w => - t w) (fun w => decide (t w < t v))
      have s := sumS_le (S := fun w => decide (t w < t v)) (f := net n E (fun w => - t w)) (n := n) hB hq' fun w hw hwq => by rw [net_neg]; have := (h w hw hwq).1; omega
      have nn : ∀ i, i < n → ∀ j, j < n → 0 ≤ (if decide (t i < t v) = true ∧ decide (t j < t v) = false then E i j * ((- t i) - (- t j)) else 0) := fun i hi j hj => by
        split
        · rename_i hc
          simp only [decide_eq_true_eq, decide_eq_false_iff_not] at hc
          exact Int.mul_nonneg (g.nn i j hi hj) (by omega)
        · exact Int.le_refl _
      have a := sumTo_term (n := n) (k := v) (nn u hu) hv
      have b := sumTo_term (f := fun i => sumTo (fun j => if decide (t i < t v) = true ∧ decide (t j < t v) = false then E i j * ((- t i) - (- t j)) else 0) n) (n := n) (k := u) (fun i hi => sumTo_nn fun j hj => nn i hi j hj) hu
      try dsimp only at a b
      rw [if_pos ⟨by simp; omega, by simp⟩] at a
      have he' : 1 ≤ E u v := by rw [g.sy u v hu hv]; exact he
      have c := Int.mul_le_mul_of_nonneg_right he' (show 0 ≤ (- t u) - (- t v) by omega)
      omega
  · have : 0 ≤ (n : Int) * B := Int.mul_nonneg (by omega) hB
    omega
/-- distances: every place but q has a nearer one -/
structure Dst (n : Nat) (E : Nat → Nat → Int) (q : Nat) (D : Nat → Int) : Prop where
  zero : D q = 0
  pos : ∀ v, v < n → v ≠ q → 1 ≤ D v
  le : ∀ v, v < n → D v ≤ n
  near : ∀ v, v < n → v ≠ q → ∃ u, u < n ∧ 1 ≤ E v u ∧ D u < D v
theorem Dst.nn {n : Nat} {E : Nat → Nat → Int} {q : Nat} {D : Nat → Int} (d : Dst n E q D) {v : Nat} (hv : v < n) : 0 ≤ D v := by
  by_cases h : v = q
  · rw [h, d.zero]; exact Int.le_refl _
  · have := d.pos v hv h; omega
/-- a script with 0 at q is small -/
theorem script_le {n : Nat} {E : Nat → Nat → Int} (g : Gr n E) {q : Nat} {D : Nat → Int} (d : Dst n E q D) {t : Nat → Int} {B : Int} (hB : 0 ≤ B) (hq : t q = 0) (h : ∀ v, v < n → v ≠ q → -B ≤ net n E t v ∧ net n E t v ≤ B) :
    ∀ k : Nat, ∀ v, v < n → D v ≤ k → -(k * (n * B)) ≤ t v ∧ t v ≤ k * (n * B)
  | k, v, hv, hk => by
    have hnB : 0 ≤ (n : Int) * B := Int.mul_nonneg (by omega) hB
    by_cases hvq : v = q
    · subst hvq
      have : 0 ≤ (k : Int) * (n * B) := Int.mul_nonneg (by omega) hnB
      omega
    · obtain ⟨u, hu, he, hlt⟩ := d.near v hv hvq
      have hu0 := d.nn hu
      obtain ⟨j, rfl⟩ : ∃ j, k = j + 1 := ⟨k - 1, by have := d.pos v hv hvq; omega⟩
      have ih := script_le g d hB hq h j u hu (by omega)
      have a := edge_le g hB h hv hu he
      have he' : 1 ≤ E u v := by rw [g.sy u v hu hv]; exact he
      have b := edge_le g hB h hu hv he'
      have e : ((j + 1 : Nat) : Int) * (n * B) = j * (n * B) + n * B := by push_cast; rw [Int.add_mul, Int.one_mul]
      rw [e]
      omega
/-- weights that grow with the distance -/
def wgt (n : Nat) (D : Nat → Int) (v : Nat) : Int := 40 ^ n - 40 ^ (n - (D v).toNat)
theorem pow_le40 {a b : Nat} (h : a ≤ b) : (40 : Int) ^ a ≤ 40 ^ b := by
  have := Nat.pow_le_pow_right (show 0 < 40 by omega) h
  exact_mod_cast this
theorem pow_pos40 (a : Nat) : (1 : Int) ≤ 40 ^ a := by
  have := Nat.pow_pos (n := a) (show 0 < 40 by omega)
  exact_mod_cast this
theorem wgt_nn {n : Nat} {E : Nat → Nat → Int} {q : Nat} {D : Nat → Int} (d : Dst n E q D) (v : Nat) : 0 ≤ wgt n D v := by
  have := pow_le40 (show n - (D v).toNat ≤ n by omega)
  unfold wgt
  omega
theorem wgt_zero {n : Nat} {E : Nat → Nat → Int} {q : Nat} {D : Nat → Int} (d : Dst n E q D) : wgt n D q = 0 := by
  unfold wgt
  rw [d.zero]
  simp
theorem wgt_net {n : Nat} {E : Nat → Nat → Int} (g : Gr n E) {q : Nat} {D : Nat → Int} (d : Dst n E q D) {v : Nat} (hv : v < n) (hvq : v ≠ q) : 1 ≤ net n E (wgt n D) v := by
  obtain ⟨u, hu, he, hlt⟩ := d.near v hv hvq
  have hu0 := d.nn hu
  have hvn := d.le v hv
  have hv1 := d.pos v hv hvq
  -- every term is at least - E * P, that of u at least 39 P
  generalize hP : (40 : Int) ^ (n - (D v).toNat) = P
  have hP1 : 1 ≤ P := by rw [← hP]; exact pow_pos40 _
  have low : ∀ j, j < n → -(E v j * P) ≤ E v j * (wgt n D v - wgt n D j) := fun j hj => by
    rw [← Int.mul_neg]
    refine Int.mul_le_mul_of_nonneg_left ?_ (g.nn v j hv hj)
    unfold wgt
    rw [hP]
    have := pow_pos40 (n - (D j).toNat)
    omega
  have hi : 39 * P ≤ E v u * (wgt n D v - wgt n D u) := by
    have h1 : 39 * P ≤ wgt n D v - wgt n D u := by
      unfold wgt
      rw [hP]
      have := pow_le40 (show n - (D v).toNat + 1 ≤ n - (D u).toNat by omega)
      rw [Int.pow_succ, hP] at this
      omega
    have := Int.mul_le_mul_of_nonneg_right he (show 0 ≤ wgt n D v - wgt n D u by omega)
    omega
  have key : ∀ m, m ≤ n → (if u < m then 39 * P else 0) - sumTo (fun j => E v j) m * P ≤ sumTo (fun j => E v j * (wgt n D v - wgt n D j)) m := by
    intro m
    induction m with
    | zero => intro _; simp [sumTo]
    | succ m ih =>
      intro hm
      have a := ih (by omega)
      have b := low m (by omega)
      have e : sumTo (fun j => E v j) (m + 1) * P = sumTo (fun j => E v j) m * P + E v m * P := by simp only [sumTo]; rw [Int.add_mul]
      rw [e]
      simp only [sumTo]
      by_cases hum : u = m
      · subst hum
        rw [if_neg (by omega)] at a
        rw [if_pos (by omega)]
        have := Int.mul_nonneg (g.nn v u hv hu) (show 0 ≤ P by omega)
        omega
      · by_cases h2 : u < m
        · rw [if_pos h2] at a; rw [if_pos (by omega)]; omega
        · rw [if_neg h2] at a; rw [if_neg (by omega)]; omega
  have k := key n (Nat.le_refl _)
  rw [if_pos hu] at k
  have dg := (deg_nn g hv).2
  have : sumTo (fun j => E v j) n * P ≤ 36 * P := Int.mul_le_mul_of_nonneg_right dg (by omega)
  unfold net
  omega
/-- the weight of all chips -/
def pot (n : Nat) (D : Nat → Int) (c : Nat → Int) : Int := sumTo (fun i => wgt n D i * c i) n
theorem pot_ap {n : Nat} {E : Nat → Nat → Int} (g : Gr n E) {q : Nat} {D : Nat → Int} (d : Dst n E q D) (c t : Nat → Int) (ht : ∀ v, v < n → 0 ≤ t v) (hq : t q = 0) : pot n D (ap n E c t) + sumTo t n ≤ pot n D c := by
  have e1 : pot n D (ap n E c t) = pot n D c - sumTo (fun i => wgt n D i * net n E t i) n := by
    unfold pot
    rw [← sumTo_sub]
    exact sumTo_congr fun i _ => by unfold ap; rw [Int.mul_sub]
  have e2 := net_self g (wgt n D) t
  have e3 : sumTo t n ≤ sumTo (fun i => t i * net n E (wgt n D) i) n := sumTo_mono fun v hv => by
    by_cases h : v = q
    · rw [h, hq, Int.zero_mul]; exact Int.le_refl _
    · have := Int.mul_le_mul_of_nonneg_left (wgt_net g d hv h) (ht v hv)
      omega
  omega
theorem pot_nn {n : Nat} {E : Nat → Nat → Int} {q : Nat} {D : Nat → Int} (d : Dst n E q D) {c : Nat → Int} (h : ∀ v, v < n → v ≠ q → 0 ≤ c v) : 0 ≤ pot n D c := by
  refine sumTo_nn fun v hv => ?_
  by_cases hvq : v = q
  · rw [hvq, wgt_zero d, Int.zero_mul]; exact Int.le_refl _
  · exact Int.mul_nonneg (wgt_nn d v) (h v hv hvq)
/-- no legal firing goes beyond a script that ends stable -/
theorem least {n : Nat} {E : Nat → Nat → Int} (g : Gr n E) {c s t : Nat → Int} (hst : ∀ v, v < n → s v ≤ t v) {v : Nat} (hv : v < n) (hstab : ap n E c t v < deg n E v) {k : Int} (hk : 1 ≤ k) (hl : k * deg n E v ≤ ap n E c s v) : s v + k ≤ t v := by
  apply Classical.byContradiction
  intro hcon
  have h1 : ap n E c t v = ap n E c s v - net n E (fun j => t j - s j) v := by
    have : ap n E c t v = ap n E c (fun j => s j + (t j - s j)) v := by unfold ap; congr 1; exact net_congr hv fun j _ => by omega
    rw [this]
    unfold ap
    rw [net_add]
    omega
  have h2 : net n E (fun j => t j - s j) v ≤ (t v - s v) * deg n E v := by
    unfold net deg
    rw [sumTo_mul]
    refine sumTo_mono fun j hj => ?_
    dsimp only
    rw [Int.mul_comm]
    exact Int.mul_le_mul_of_nonneg_right (by have := hst j hj; omega) (g.nn v j hv hj)
  have h3 : (t v - s v) * deg n E v ≤ (k - 1) * deg n E v := Int.mul_le_mul_of_nonneg_right (by omega) (deg_nn g hv).1
  rw [Int.sub_mul k, Int.one_mul] at h3
  omega
end Go.AM.Ch
