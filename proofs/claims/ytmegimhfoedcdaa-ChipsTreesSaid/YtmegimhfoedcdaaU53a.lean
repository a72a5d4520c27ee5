/- A part of the proof: J4 J5 U30 U51 U52 J6 U53a. -/
import Derived.Test.YtmegimhfoedcdaaD5
import Derived.Test.YtmegimhfoedcdaaM3
set_option linter.unusedVariables false
set_option linter.unusedSimpArgs false
set_option linter.unusedSectionVars false
namespace Go.AM.Ch
set_option maxHeartbeats 4000000
theorem lap_congr {m : Nat} {w w' : Nat → Int} {E E' : Nat → Nat → Int} (hw : ∀ x, x < m → w x = w' x) (hE : ∀ x y, x < m → y < m → E x y = E' x y) : det m (lap m w E) = det m (lap m w' E') := det_congr fun r c hr hc => by
  unfold lap
  by_cases e : c = r
  · rw [if_pos e, if_pos e, hw r hr, sumTo_congr fun t ht => hE r t hr ht]
  · rw [if_neg e, if_neg e, hE r c hr hc]
def swN (i j t : Nat) : Nat := if t = i then j else if t = j then i else t
theorem swN_lt {i j t m : Nat} (hi : i < m) (hj : j < m) (ht : t < m) : swN i j t < m := by unfold swN; split <;> (try split) <;> omega
theorem swN_inj {i j s t : Nat} (h : swN i j s = swN i j t) : s = t := by
  unfold swN at h
  split at h <;> split at h <;> (try split at h) <;> (try split at h) <;> omega
theorem sumTo_sw {i j m : Nat} (hi : i < m) (hj : j < m) (f : Nat → Int) : sumTo (fun t => f (swN i j t)) m = sumTo f m := by
  by_cases hij : i = j
  · subst hij
    refine sumTo_congr fun t _ => ?_
    have : swN i i t = t := by unfold swN; split <;> (try split) <;> omega
    rw [this]
  · have e : sumTo (fun t => f (swN i j t)) m = sumTo (fun t => f t + ((if (t : Int) = (i : Int) then f j - f i else 0) + (if (t : Int) = (j : Int) then f i - f j else 0))) m := sumTo_congr fun t _ => by
      unfold swN
      by_cases h1 : t = i
      · subst h1
        rw [if_pos rfl, if_pos rfl, if_neg (by omega)]; omega
      · rw [if_neg h1, if_neg (show ¬ (t : Int) = (i : Int) by omega)]
        by_cases h2 : t = j
        · subst h2; rw [if_pos rfl, if_pos rfl]; omega
        · rw [if_neg h2, if_neg (by omega)]; omega
    rw [e, sumTo_add, sumTo_add, sumTo_unit, sumTo_unit, if_pos hi, if_pos hj]
    omega
theorem det_perm {i j m : Nat} (hi : i < m) (hj : j < m) (hij : i ≠ j) (M : Nat → Nat → Int) : det m (fun r c => M (swN i j r) (swN i j c)) = det m M := by
  have h1 : ∀ N : Nat → Nat → Int, det m (fun r c => N (swN i j r) c) = - det m N := fun N => by
    rw [← det_swap hi hj hij N]
    refine det_congr fun r c _ _ => ?_
    unfold rwR swN
    by_cases e : r = j
    · subst e; simp [Ne.symm hij]
    · by_cases e2 : r = i
      · subst e2; simp [e]
      · simp [e, e2]
  have h2 := h1 (fun r c => M r (swN i j c))
  have h3 := h1 (tr M)
  rw [det_tr] at h3
  have h4 := det_tr m (fun r c => M r (swN i j c))
  have h5 : det m (tr fun r c => M r (swN i j c)) = det m (fun r c => tr M (swN i j r) c) := rfl
  rw [h5, h3] at h4
  have h6 : det m (fun r c => M (swN i j r) (swN i j c)) = det m (fun r c => (fun r c => M r (swN i j c)) (swN i j r) c) := rfl
  rw [h6, h2, ← h4]
  omega
def tN (n : Nat) (E : Nat → Nat → Int) : Int := det (n - 1) (lap (n - 1) (fun v => E 0 (v + 1)) (fun v u => E (v + 1) (u + 1)))
theorem trN_tN (b : List (List Int)) : trN b = tN b.length (ed b) := rfl
theorem tN_congr {n : Nat} {E E' : Nat → Nat → Int} (h : ∀ i j, i < n → j < n → E i j = E' i j) : tN n E = tN n E' := by
  unfold tN
  cases n with
  | zero => rfl
  | succ n => exact lap_congr (fun x hx => h _ _ (by omega) (by omega)) fun x y hx hy => h _ _ (by omega) (by omega)
theorem tN_sw {n u v : Nat} (hu : 1 ≤ u ∧ u < n) (hv : 1 ≤ v ∧ v < n) (E : Nat → Nat → Int) : tN n (fun i j => E (swN u v i) (swN u v j)) = tN n E := by
  by_cases huv : u = v
  · subst huv
    refine tN_congr fun i j _ _ => ?_
    have : ∀ t, swN u u t = t := fun t => by unfold swN; split <;> (try split) <;> omega
    rw [this, this]
  · unfold tN
    have e1 : ∀ x, swN u v (x + 1) = swN (u - 1) (v - 1) x + 1 := fun x => by unfold swN; split <;> split <;> (try split) <;> (try split) <;> omega
    have e0 : swN u v 0 = 0 := by unfold swN; split <;> (try split) <;> omega
    rw [← det_perm (i := u - 1) (j := v - 1) (m := n - 1) (by omega) (by omega) (by omega) (lap (n - 1) (fun v => E 0 (v + 1)) (fun v u => E (v + 1) (u + 1)))]
    refine det_congr fun r c hr hc => ?_
    show (if c = r then E (swN u v 0) (swN u v (r + 1)) + sumTo (fun t => E (swN u v (r + 1)) (swN u v (t + 1))) (n - 1) else - E (swN u v (r + 1)) (swN u v (c + 1))) = if swN (u - 1) (v - 1) c = swN (u - 1) (v - 1) r then E 0 (swN (u - 1) (v - 1) r + 1) + sumTo (fun t => E (swN (u - 1) (v - 1) r + 1) (t + 1)) (n - 1) else - E (swN (u - 1) (v - 1) r + 1) (swN (u - 1) (v - 1) c + 1)
    rw [e0, e1 r, e1 c]
    by_cases e : c = r
    · subst e
      rw [if_pos rfl, if_pos rfl]
      congr 1
      exact (sumTo_congr fun t _ => by rw [e1]).trans (sumTo_sw (i := u - 1) (j := v - 1) (by omega) (by omega) (fun t => E (swN (u - 1) (v - 1) c + 1) (t + 1)))
    · rw [if_neg e, if_neg (fun h => e (swN_inj h))]
def dlE (E : Nat → Nat → Int) (k v i j : Nat) : Int := if (i = k ∧ j = v) ∨ (i = v ∧ j = k) then E i j - 1 else E i j
def mgE (E : Nat → Nat → Int) (k v i j : Nat) : Int := if i = j then 0 else E i j + (if i = v then E k j else 0) + (if j = v then E i k else 0)
structure SyD (n : Nat) (E : Nat → Nat → Int) : Prop where
  sy : ∀ i j, i < n → j < n → E i j = E j i
  di : ∀ i, i < n → E i i = 0
theorem del_con {m v : Nat} {E : Nat → Nat → Int} (h : SyD (m + 2) E) (hv : v ≤ m) : tN (m + 2) E = tN (m + 2) (dlE E (m + 1) v) + tN (m + 1) (mgE E (m + 1) v) := by
  unfold tN
  show det (m + 1) (lap (m + 1) (fun x => E 0 (x + 1)) (fun x y => E (x + 1) (y + 1))) = det (m + 1) (lap (m + 1) (fun x => dlE E (m + 1) v 0 (x + 1)) (fun x y => dlE E (m + 1) v (x + 1) (y + 1))) + det m (lap m (fun x => mgE E (m + 1) v 0 (x + 1)) (fun x y => mgE E (m + 1) v (x + 1) (y + 1)))
  cases v with
  | zero =>
    rw [det_cut (u := m) (by omega)]
    congr 1
    · refine lap_congr (fun x hx => ?_) fun x y hx hy => ?_
      · show less1 (fun x => E 0 (x + 1)) m x = dlE E (m + 1) 0 0 (x + 1)
        unfold less1 dlE
        by_cases e : x = m
        · rw [if_pos e, if_pos (by omega)]
        · rw [if_neg e, if_neg (by omega)]
      · show E (x + 1) (y + 1) = dlE E (m + 1) 0 (x + 1) (y + 1)
        unfold dlE
        rw [if_neg (by omega)]
    · have hs : ∀ x, x < m → skp m x = x := fun x hx => by unfold skp; rw [if_pos hx]
      refine lap_congr (fun x hx => ?_) fun x y hx hy => ?_
      · show E 0 (skp m x + 1) + E (skp m x + 1) (m + 1) = mgE E (m + 1) 0 0 (x + 1)
        unfold mgE
        rw [hs x hx, if_neg (by omega), if_pos rfl, if_neg (by omega), h.sy (x + 1) (m + 1) (by omega) (by omega)]
        omega
      · show E (skp m x + 1) (skp m y + 1) = mgE E (m + 1) 0 (x + 1) (y + 1)
        unfold mgE
        rw [hs x hx, hs y hy, if_neg (show ¬ x + 1 = 0 by omega), if_neg (show ¬ y + 1 = 0 by omega)]
        by_cases e : x = y
        · subst e; rw [if_pos rfl, h.di _ (by omega)]
        · rw [if_neg (by omega)]; omega
  | succ a =>
    generalize hw : (fun x => E 0 (x + 1)) = w
    generalize hF : (fun x y => E (x + 1) (y + 1)) = F
    have ew : ∀ x, E 0 (x + 1) = w x := fun x => by rw [← hw]
    have eF : ∀ x y, E (x + 1) (y + 1) = F x y := fun x y => by rw [← hF]
    have sF : ∀ x y, x < m + 1 → y < m + 1 → F x y = F y x := fun x y hx hy => by rw [← eF, ← eF]; exact h.sy _ _ (by omega) (by omega)
    have dF : ∀ x, x < m + 1 → F x x = 0 := fun x hx => by rw [← eF]; exact h.di _ (by omega)
    have ham : a < m := by omega
    have e1 : det (m + 1) (lap (m + 1) (fun x => dlE E (m + 1) (a + 1) 0 (x + 1)) (fun x y => dlE E (m + 1) (a + 1) (x + 1) (y + 1))) = det (m + 1) (lap (m + 1) w (dlE F m a)) := by
      refine lap_congr (fun x hx => ?_) fun x y hx hy => ?_
      · unfold dlE; rw [if_neg (by omega), ew]
      · unfold dlE
        rw [eF]
        by_cases e : (x = m ∧ y = a) ∨ (x = a ∧ y = m)
        · rw [if_pos e, if_pos (by omega)]
        · rw [if_neg e, if_neg (by omega)]
    have e2 : det m (lap m (fun x => mgE E (m + 1) (a + 1) 0 (x + 1)) (fun x y => mgE E (m + 1) (a + 1) (x + 1) (y + 1))) = det m (lap m (fun x => w x + if x = a then w m else 0) (mgE F m a)) := by
      refine lap_congr (fun x hx => ?_) fun x y hx hy => ?_
      · unfold mgE
        rw [if_neg (by omega), if_neg (by omega), ew, ew]
        by_cases e : x = a
        · rw [if_pos (by omega), if_pos e]; omega
        · rw [if_neg (by omega), if_neg e]; omega
      · unfold mgE
        by_cases e : x = y
        · rw [if_pos (by omega), if_pos e]
        · rw [if_neg (by omega), if_neg e, eF, eF, eF]
          have c1 : (if x + 1 = a + 1 then F m y else 0) = if x = a then F m y else 0 := by
            by_cases c : x = a
            · rw [if_pos (by omega), if_pos c]
            · rw [if_neg (by omega), if_neg c]
          have c2 : (if y + 1 = a + 1 then F x m else 0) = if y = a then F x m else 0 := by
            by_cases c : y = a
            · rw [if_pos (by omega), if_pos c]
            · rw [if_neg (by omega), if_neg c]
          rw [c1, c2]
    rw [e1, e2]
    clear e1 e2 hw hF ew eF h
    generalize hL : lap (m + 1) w F = L
    generalize hL' : lap (m + 1) w (dlE F m a) = L'
    have Ld : ∀ r c, L r c = if c = r then w r + sumTo (F r) (m + 1) else - F r c := fun r c => by rw [← hL]; rfl
    have Ld' : ∀ r c, L' r c = if c = r then w r + sumTo (dlE F m a r) (m + 1) else - dlE F m a r c := fun r c => by rw [← hL']; rfl
    have so : ∀ r, r ≠ a → r ≠ m → ∀ t, dlE F m a r t = F r t := fun r h1 h2 t => by unfold dlE; rw [if_neg (by omega)]
    have sa : sumTo (dlE F m a a) (m + 1) = sumTo (F a) (m + 1) - 1 := by
      have e : sumTo (dlE F m a a) (m + 1) = sumTo (fun t => F a t + if (t : Int) = (m : Int) then -1 else 0) (m + 1) := sumTo_congr fun t _ => by
        unfold dlE
        by_cases c : t = m
        · subst c; rw [if_pos (by omega), if_pos rfl]; omega
        · rw [if_neg (by omega), if_neg (by omega)]; omega
      rw [e, sumTo_add, sumTo_unit, if_pos (by omega)]; omega
    have sm : sumTo (dlE F m a m) (m + 1) = sumTo (F m) (m + 1) - 1 := by
      have e : sumTo (dlE F m a m) (m + 1) = sumTo (fun t => F m t + if (t : Int) = (a : Int) then -1 else 0) (m + 1) := sumTo_congr fun t _ => by
        unfold dlE
        by_cases c : t = a
        · subst c; rw [if_pos (by omega), if_pos rfl]; omega
        · rw [if_neg (by omega), if_neg (by omega)]; omega
      rw [e, sumTo_add, sumTo_unit, if_pos (by omega)]; omega
    have rm : ∀ c, L m c = L' m c + 1 * (if c = m then 1 else if c = a then -1 else 0) := fun c => by
      rw [Ld, Ld']
      by_cases c1 : c = m
      · rw [if_pos c1, if_pos c1, if_pos c1, sm]; omega
      · rw [if_neg c1, if_neg c1, if_neg c1]
        unfold dlE
        by_cases c2 : c = a
        · rw [if_pos c2, if_pos (by omega)]; omega
        · rw [if_neg c2, if_neg (by omega)]; omega
    have ra : ∀ c, L a c + 1 * L m c = L' a c + 1 * L' m c := fun c => by
      rw [rm c, Ld a, Ld' a, Ld' m]
      by_cases c1 : c = a
      · rw [if_pos c1, if_pos c1, if_neg (by omega), if_pos c1, sa]; omega
      · rw [if_neg c1, if_neg c1]
        unfold dlE
        by_cases c2 : c = m
        · subst c2; rw [if_pos (by omega), if_pos rfl]; omega
        · rw [if_neg (by omega), if_neg c2, if_neg c1]; omega
    have ro : ∀ r c, r ≠ a → r ≠ m → L r c = L' r c := fun r c h1 h2 => by
      have e : sumTo (dlE F m a r) (m + 1) = sumTo (F r) (m + 1) := sumTo_congr fun t _ => so r h1 h2 t
      rw [Ld, Ld', so r h1 h2 c, e]
    have s1 : det (m + 1) L = det (m + 1) (rwR L a (fun c => L a c + 1 * L m c)) := (det_row (by omega) (by omega) (by omega) 1 L).symm
    have s1' : det (m + 1) L' = det (m + 1) (rwR L' a (fun c => L' a c + 1 * L' m c)) := (det_row (by omega) (by omega) (by omega) 1 L').symm
    have s2 := det_lin 1 (n := m + 1) (M := rwR L a (fun c => L a c + 1 * L m c)) (k := m) (f := L' m) (g := fun c => if c = m then 1 else if c = a then -1 else 0) (by omega)
    have s3 : rwR (rwR L a (fun c => L a c + 1 * L m c)) m (fun c => L' m c + 1 * (if c = m then 1 else if c = a then -1 else 0)) = rwR L a (fun c => L a c + 1 * L m c) := by
      funext r c
      unfold rwR
      by_cases c1 : r = m
      · rw [if_pos c1, if_neg (by omega), c1, rm c]
      · rw [if_neg c1]
    have s4 : rwR (rwR L a (fun c => L a c + 1 * L m c)) m (L' m) = rwR L' a (fun c => L' a c + 1 * L' m c) := by
      funext r c
      unfold rwR
      by_cases c1 : r = m
      · rw [if_pos c1, if_neg (by omega), c1]
      · rw [if_neg c1]
        by_cases c2 : r = a
        · rw [if_pos c2, if_pos c2]; exact ra c
        · rw [if_neg c2, if_neg c2, ro r c c2 c1]
    rw [s3, s4, ← s1, ← s1', Int.one_mul] at s2
    rw [s2]
    congr 1
    generalize hN : rwR (rwR L a (fun c => L a c + 1 * L m c)) m (fun c => if c = m then 1 else if c = a then -1 else 0) = N
    have t1 : det (m + 1) (rwR (tr N) a (fun r => tr N a r + 1 * tr N m r)) = det (m + 1) N := (det_row (by omega) (by omega) (by omega) 1 (tr N)).trans (det_tr _ _)
    rw [← t1, ← det_tr]
    have Nd : ∀ r c, N r c = if r = m then (if c = m then 1 else if c = a then -1 else 0) else if r = a then L a c + 1 * L m c else L r c := fun r c => by
      rw [← hN]; rfl
    have Q : ∀ r c, tr (rwR (tr N) a (fun r => tr N a r + 1 * tr N m r)) r c = if c = a then N r a + 1 * N r m else N r c := fun r c => rfl
    rw [det_unit (u := m) (by omega) fun c hc => by
      rw [Q, Nd, Nd, Nd]
      by_cases c1 : c = a
      · simp [c1, show ¬ a = m by omega]
      · by_cases c2 : c = m
        · simp [c1, c2, show ¬ m = a by omega]
        · simp [c1, c2]]
    refine det_congr fun r c hr hc => ?_
    have hs : ∀ x, x < m → skp m x = x := fun x hx => by unfold skp; rw [if_pos hx]
    show tr (rwR (tr N) a (fun r => tr N a r + 1 * tr N m r)) (skp m r) (skp m c) = _
    have NN : ∀ c, N r c = if r = a then L a c + 1 * L m c else L r c := fun c => by rw [Nd, if_neg (show ¬ r = m by omega)]
    rw [hs r hr, hs c hc, Q, NN a, NN m, NN c]
    have split : ∀ f : Nat → Int, sumTo f (m + 1) = sumTo f m + f m := fun f => rfl
    have su : ∀ r, r < m → r ≠ a → sumTo (mgE F m a r) m = sumTo (F r) (m + 1) := fun r hr h1 => by
      have e : sumTo (mgE F m a r) m = sumTo (fun t => F r t + if (t : Int) = (a : Int) then F r m else 0) m := sumTo_congr fun t ht => by
        unfold mgE
        by_cases c1 : r = t
        · subst c1; rw [if_pos rfl, dF r (by omega), if_neg (by omega)]; omega
        · rw [if_neg c1, if_neg h1]
          by_cases c2 : t = a
          · rw [if_pos c2, if_pos (by omega)]; omega
          · rw [if_neg c2, if_neg (by omega)]; omega
      rw [e, sumTo_add, sumTo_unit, if_pos ham, split]
    have sa2 : sumTo (mgE F m a a) m = sumTo (F a) (m + 1) + sumTo (F m) (m + 1) - F a m - F m a := by
      have e : sumTo (mgE F m a a) m = sumTo (fun t => F a t + (F m t + if (t : Int) = (a : Int) then - F m a else 0)) m := sumTo_congr fun t ht => by
        unfold mgE
        by_cases c1 : a = t
        · subst c1; rw [if_pos rfl, dF a (by omega), if_pos rfl]; omega
        · rw [if_neg c1, if_pos rfl, if_neg (by omega), if_neg (by omega)]; omega
      rw [e, sumTo_add, sumTo_add, sumTo_unit, if_pos ham, split, split, dF m (by omega)]
      omega
    have hmg : ∀ r c, lap m (fun x => w x + if x = a then w m else 0) (mgE F m a) r c = if c = r then (w r + if r = a then w m else 0) + sumTo (mgE F m a r) m else - mgE F m a r c := fun r c => rfl
    rw [hmg]
    by_cases hra : r = a
    · subst hra
      simp only [if_true]
      by_cases hcr : c = r
      · subst hcr
        rw [if_pos rfl, if_pos rfl, sa2, Ld c c, Ld m c, Ld c m, Ld m m, if_pos rfl, if_neg (show ¬ c = m by omega), if_neg (show ¬ m = c by omega), if_pos rfl]
        omega
      · rw [if_neg hcr, if_neg hcr, Ld r c, Ld m c, if_neg hcr, if_neg (show ¬ c = m by omega)]
        unfold mgE
        rw [if_neg (Ne.symm hcr), if_pos rfl, if_neg hcr]
        omega
    · rw [if_neg hra, if_neg hra, if_neg hra]
      by_cases hca : c = a
      · subst hca
        rw [if_pos rfl, if_neg (Ne.symm hra), Ld r c, Ld r m, if_neg (Ne.symm hra), if_neg (show ¬ m = r by omega)]
        unfold mgE
        rw [if_neg hra, if_neg hra, if_pos rfl]
        omega
      · rw [if_neg hca, Ld]
        by_cases hcr : c = r
        · rw [if_pos hcr, if_pos hcr, if_neg hra, su r hr hra]; omega
        · rw [if_neg hcr, if_neg hcr]
          unfold mgE
          rw [if_neg (Ne.symm hcr), if_neg hra, if_neg hca]
          omega
set_option maxHeartbeats 4000000
def triM (d : Nat → Int) (r c : Nat) : Int := if c = r then d r else if c = r + 1 ∨ r = c + 1 then -1 else 0
def triD (d : Nat → Int) : Nat → Int
  | 0 => 1
  | 1 => d 0
  | m + 2 => d 0 * triD (fun i => d (i + 1)) (m + 1) - triD (fun i => d (i + 2)) m
theorem det_tri : ∀ (m : Nat) (d : Nat → Int), det m (triM d) = triD d m
  | 0, d => rfl
  | 1, d => by
    show sumTo (fun i => sg i * (triM d i 0 * det 0 (mn (triM d) i 0))) 1 = d 0
    have e : triM d 0 0 = d 0 := by unfold triM; rw [if_pos rfl]
    simp only [sumTo, det, e]
    show 0 + 1 * (d 0 * 1) = d 0
    omega
  | m + 2, d => by
    have e0 : det (m + 2) (triM d) = sumTo (fun i => sg i * (triM d i 0 * det (m + 1) (mn (triM d) i 0))) (m + 2) := rfl
    rw [e0, sumTo_pair (k := 0) (by omega) fun j hj h1 h2 => by
      have : triM d j 0 = 0 := by unfold triM; rw [if_neg (by omega), if_neg (by omega)]
      rw [this]; simp]
    have a0 : triM d 0 0 = d 0 := by unfold triM; rw [if_pos rfl]
    have a1 : triM d (0 + 1) 0 = -1 := by unfold triM; rw [if_neg (by omega), if_pos (by omega)]
    have s10 : skp (0 + 1) 0 = 0 := rfl
    have s0 : ∀ x, skp 0 x = x + 1 := fun x => by unfold skp; rw [if_neg (by omega)]
    have b0 : mn (triM d) 0 0 = triM (fun i => d (i + 1)) := by
      funext r c
      unfold mn
      rw [s0, s0]
      unfold triM
      by_cases h : c = r
      · rw [if_pos (by omega), if_pos h]
      · rw [if_neg (by omega), if_neg h]
        by_cases h2 : c = r + 1 ∨ r = c + 1
        · rw [if_pos (by omega), if_pos h2]
        · rw [if_neg (by omega), if_neg h2]
    have b1 : det (m + 1) (mn (triM d) (0 + 1) 0) = - triD (fun i => d (i + 2)) m := by
      rw [det_first, sumTo_front']
      have hz : sumTo (fun j => sg (j + 1) * (mn (triM d) (0 + 1) 0 0 (j + 1) * det m (mn (mn (triM d) (0 + 1) 0) 0 (j + 1)))) m = 0 := by
        have e : sumTo (fun j => sg (j + 1) * (mn (triM d) (0 + 1) 0 0 (j + 1) * det m (mn (mn (triM d) (0 + 1) 0) 0 (j + 1)))) m = sumTo (fun _ => 0) m := sumTo_congr fun j hj => by
          have : mn (triM d) (0 + 1) 0 0 (j + 1) = 0 := by
            show triM d (skp (0 + 1) 0) (skp 0 (j + 1)) = 0
            rw [s0, s10]
            unfold triM
            rw [if_neg (by omega), if_neg (by omega)]
          rw [this]; simp
        rw [e, sumTo_zero]
      have h0 : mn (triM d) (0 + 1) 0 0 0 = -1 := by
        show triM d (skp (0 + 1) 0) (skp 0 0) = -1
        rw [s0, s10]
        unfold triM
        rw [if_neg (by omega), if_pos (by omega)]
      have hm : mn (mn (triM d) (0 + 1) 0) 0 0 = triM (fun i => d (i + 2)) := by
        funext r c
        show triM d (skp (0 + 1) (skp 0 r)) (skp 0 (skp 0 c)) = _
        rw [s0, s0, s0]
        have : skp (0 + 1) (r + 1) = r + 2 := by unfold skp; rw [if_neg (by omega)]
        rw [this]
        unfold triM
        by_cases h : c = r
        · rw [if_pos (by omega), if_pos h]
        · rw [if_neg (by omega), if_neg h]
          by_cases h2 : c = r + 1 ∨ r = c + 1
          · rw [if_pos (by omega), if_pos h2]
          · rw [if_neg (by omega), if_neg h2]
      rw [hz, h0, hm, det_tri m]
      show 1 * (-1 * triD (fun i => d (i + 2)) m) + 0 = _
      omega
    rw [a0, a1, b0, b1, det_tri (m + 1)]
    show 1 * (d 0 * triD (fun i => d (i + 1)) (m + 1)) + sg (0 + 1) * (-1 * - triD (fun i => d (i + 2)) m) = d 0 * triD (fun i => d (i + 1)) (m + 1) - triD (fun i => d (i + 2)) m
    have : sg (0 + 1) = -1 := rfl
    rw [this]
    omega
theorem triD_two : ∀ m : Nat, triD (fun _ => 2) m = m + 1 ∧ triD (fun _ => 2) (m + 1) = m + 2
  | 0 => ⟨rfl, rfl⟩
  | m + 1 => by
    obtain ⟨h1, h2⟩ := triD_two m
    refine ⟨by rw [h2]; push_cast; omega, ?_⟩
    show 2 * triD (fun _ => 2) (m + 1) - triD (fun _ => 2) m = _
    rw [h1, h2]; push_cast; omega
theorem triD_path : ∀ (m : Nat) (d : Nat → Int), (∀ r, d r = if r + 1 < m then 2 else 1) → triD d m = 1
  | 0, _, _ => rfl
  | 1, d, h => by show d 0 = 1; rw [h]; rfl
  | 2, d, h => by
    show d 0 * triD (fun i => d (i + 1)) 1 - triD (fun i => d (i + 2)) 0 = 1
    show d 0 * d (0 + 1) - 1 = 1
    rw [h, h]; rfl
  | m + 3, d, h => by
    have h1 := triD_path (m + 2) (fun i => d (i + 1)) fun r => by
      rw [h]
      by_cases c : r + 1 < m + 2
      · rw [if_pos c, if_pos (by omega)]
      · rw [if_neg c, if_neg (by omega)]
    have h2 := triD_path (m + 1) (fun i => d (i + 2)) fun r => by
      rw [h]
      by_cases c : r + 1 < m + 1
      · rw [if_pos c, if_pos (by omega)]
      · rw [if_neg c, if_neg (by omega)]
    show d 0 * triD (fun i => d (i + 1)) (m + 2) - triD (fun i => d (i + 2)) (m + 1) = 1
    rw [h1, h2, h 0, if_pos (by omega)]
    rfl
def cirE (n i j : Nat) : Int := if j = (i + 1) % n ∨ j = (i + n - 1) % n then 1 else 0
def patE (i j : Nat) : Int := if j = i + 1 ∨ i = j + 1 then 1 else 0
theorem pat_sum {m r : Nat} (hr : r < m) : sumTo (fun t => patE (r + 1) (t + 1)) m = (if r + 1 < m then 1 else 0) + (if 1 ≤ r then 1 else 0) := by
  have e : sumTo (fun t => patE (r + 1) (t + 1)) m = sumTo (fun t => (if (t : Int) = ((r + 1 : Nat) : Int) then 1 else 0) + (if 1 ≤ r then (if (t : Int) = ((r - 1 : Nat) : Int) then 1 else 0) else 0)) m := sumTo_congr fun t ht => by
    unfold patE
    by_cases h1 : t = r + 1
    · subst h1
      rw [if_pos (by omega), if_pos rfl]
      by_cases h2 : 1 ≤ r
      · rw [if_pos h2, if_neg (by omega)]; omega
      · rw [if_neg h2]; omega
    · rw [if_neg (show ¬ (t : Int) = ((r + 1 : Nat) : Int) by omega)]
      by_cases h2 : 1 ≤ r
      · rw [if_pos h2]
        by_cases h3 : t = r - 1
        · rw [if_pos (by omega), if_pos (by omega)]; omega
        · rw [if_neg (by omega), if_neg (by omega)]; omega
      · rw [if_neg h2, if_neg (by omega)]; omega
  rw [e, sumTo_add, sumTo_unit]
  congr 1
  by_cases h2 : 1 ≤ r
  · simp only [if_pos h2]
    rw [sumTo_unit, if_pos (by omega)]
  · simp only [if_neg h2]
    exact sumTo_zero m
theorem tN_path {n : Nat} {E : Nat → Nat → Int} (hn : 2 ≤ n) (h : ∀ i j, i < n → j < n → E i j = patE i j) : tN n E = 1 := by
  rw [tN_congr h]
  unfold tN
  rw [← triD_path (n - 1) (fun r => if r + 1 < n - 1 then 2 else 1) fun r => rfl, ← det_tri]
  refine det_congr fun r c hr hc => ?_
  unfold lap triM
  by_cases e : c = r
  · subst e
    rw [if_pos rfl, if_pos rfl, pat_sum hr]
    unfold patE
    dsimp only
    (repeat' split) <;> omega
  · rw [if_neg e, if_neg e]
    unfold patE
    dsimp only
    (repeat' split) <;> omega
theorem cir_pat {n i j : Nat} (hn : 3 ≤ n) (hi : i < n) (hj : j < n) : cirE n i j = if (i = 0 ∧ j = n - 1) ∨ (j = 0 ∧ i = n - 1) then 1 else patE i j := by
  have h1 : (i + 1) % n = if i = n - 1 then 0 else i + 1 := by
    split
    · rename_i e; rw [e, show n - 1 + 1 = n by omega, Nat.mod_self]
    · exact Nat.mod_eq_of_lt (by omega)
  have h2 : (i + n - 1) % n = if i = 0 then n - 1 else i - 1 := by
    split
    · rename_i e; rw [e, Nat.zero_add]; exact Nat.mod_eq_of_lt (by omega)
    · rw [show i + n - 1 = (i - 1) + n by omega, Nat.add_mod_right]; exact Nat.mod_eq_of_lt (by omega)
  unfold cirE patE
  rw [h1, h2]
  by_cases c1 : i = n - 1 <;> by_cases c2 : i = 0
  · exfalso; omega
  · simp only [if_pos c1, if_neg c2]
    (repeat' split) <;> omega
  · simp only [if_neg c1, if_pos c2]
    (repeat' split) <;> omega
  · simp only [if_neg c1, if_neg c2]
    (repeat' split) <;> omega
theorem tN_circle {n : Nat} {E : Nat → Nat → Int} (hn : 3 ≤ n) (h : ∀ i j, i < n → j < n → E i j = cirE n i j) : tN n E = n := by
  rw [tN_congr h]
  unfold tN
  have ht := (triD_two (n - 1)).1
  have e0 : (((n - 1 : Nat) : Int) + 1) = (n : Int) := by omega
  rw [e0] at ht
  rw [← ht, ← det_tri]
  refine det_congr fun r c hr hc => ?_
  have hs : sumTo (fun t => cirE n (r + 1) (t + 1)) (n - 1) = sumTo (fun t => patE (r + 1) (t + 1)) (n - 1) := sumTo_congr fun t ht => by
    rw [cir_pat hn (by omega) (by omega), if_neg (by omega)]
  unfold lap triM
  by_cases e : c = r
  · subst e
    rw [if_pos rfl, if_pos rfl, hs, pat_sum hr]
    show cirE n 0 (c + 1) + _ = 2
    rw [cir_pat hn (show 0 < n by omega) (show c + 1 < n by omega)]
    unfold patE
    (repeat' split) <;> omega
  · rw [if_neg e, if_neg e]
    show - cirE n (r + 1) (c + 1) = _
    rw [cir_pat hn (show r + 1 < n by omega) (show c + 1 < n by omega)]
    unfold patE
    (repeat' split) <;> omega
theorem conn_of {b : List (List Int)} (hn : 1 ≤ b.length) (h : ∀ P : Nat → Prop, P 0 → (∀ v k : Nat, v < b.length → k < b.length → P v → 0 < ed b v k → P k) → ∀ k : Nat, k < b.length → P k) : Conn b := by
  obtain ⟨hB, hN, hC⟩ := dist_all b (q := 0) (by omega)
  have := h (fun k => 0 ≤ getI (dist b 0).1 (k : Int)) (by show 0 ≤ getI (dist b 0).1 ((0 : Nat) : Int); rw [hN.zero]; exact Int.le_refl _) fun v k hv hk h1 h2 => hC v k hv hk h1 h2
  unfold Conn
  exact hB.done.1 fun k hk => by have := this k hk; omega
theorem tN_nn {n : Nat} {E : Nat → Nat → Int} (h : SyD n E) (hnn : ∀ i j, i < n → j < n → 0 ≤ E i j) : 0 ≤ tN n E := by
  unfold tN
  cases n with
  | zero => exact (by decide : (0 : Int) ≤ 1)
  | succ m =>
    show 0 ≤ det m (lap m (fun v => E 0 (v + 1)) (fun v u => E (v + 1) (u + 1)))
    have hw : WG m (fun v => E 0 (v + 1)) (fun v u => E (v + 1) (u + 1)) := ⟨fun v hv => hnn _ _ (by omega) (by omega), fun v u hv hu => hnn _ _ (by omega) (by omega), fun v u hv hu => h.sy _ _ (by omega) (by omega), fun v hv => h.di _ (by omega)⟩
    have hs := sumTo_nn hw.w0
    have ht : ∀ v, v < m → 0 ≤ E 0 (v + 1) + sumTo (fun t => E (v + 1) (t + 1)) m := fun v hv => by
      have a := hw.w0 v hv
      have c := sumTo_nn (f := fun t => E (v + 1) (t + 1)) (n := m) fun t ht => hw.nn v t hv ht
      omega
    have hS := sumTo_nn (f := fun v => E 0 (v + 1) + sumTo (fun t => E (v + 1) (t + 1)) m) (n := m) ht
    have hd := det_nSS (sumTo (fun v => E 0 (v + 1) + sumTo (fun t => E (v + 1) (t + 1)) m) m).toNat m (sumTo (fun v => E 0 (v + 1)) m).toNat hw (fun v hv => by
      have := sumTo_term (f := fun v => E 0 (v + 1) + sumTo (fun t => E (v + 1) (t + 1)) m) ht hv
      omega) (by omega)
    rw [hd, len_ssL]
    omega
set_option maxHeartbeats 8000000
theorem fzL_ne {l : List Int} {n : Nat} (h : l.length = n) (hn : 1 ≤ n) : fzL l = .rd 1 n (iL l) := by
  rcases l with _ | ⟨a, r⟩
  · simp at h; omega
  · subst h; simp [fzL]
attribute [local go_sem] gc subHeap reach_skip ren_free reach_new reach_newp reach_end rangeL roots boxCells nodupB posOf renL AV.ren pickO renH renO looks look bindEnv envOf reach_int reach_bool reach_nilS reach_rd putRow cells_sl cells_int cells_bool cells_nilS cells_rd cells_agg reach_agg reach_tup idFreeL idf_sl idf_ptr idf_int idf_bool idf_nilS idf_rd reach_fn reach_mp cells_fn cells_ptr cells_mp idf_mp idf_fn idf_agg idf_tup
set_option maxHeartbeats 8000000
def modN (x : Int) (n : Nat) : Nat := (x % 18446744073709551616).toNat % n
theorem modN_lt (x : Int) {n : Nat} (h : 0 < n) : modN x n < n := Nat.mod_lt _ h
theorem wrapU {x : Int} : IntKind.u64.wrap x = x % 18446744073709551616 := by
  simp [IntKind.wrap, IntKind.signed, IntKind.bits]
theorem f49 {x : Int} {n : Nat} (hn : 0 < n) (hn2 : n < 9223372036854775808) {m : Nat} (hm : 1 ≤ m) : evF tab it m 49 [.int .i64 x, .int .i64 (n : Int)] [] = some (.int .i64 (modN x n : Nat), []) := by
  obtain ⟨m, rfl⟩ : ∃ j, m = j + 1 := ⟨m - 1, by omega⟩
  have c1 : ∀ H, evP H (.conv .u64) [.int .i64 x] = some (.int .u64 (((x % 18446744073709551616).toNat : Nat) : Int)) := fun H => by
    simp only [evP, wrapU]
    rw [Int.toNat_of_nonneg (Int.emod_nonneg _ (by decide))]
  have c2 : ∀ H, evP H (.conv .u64) [.int .i64 (n : Int)] = some (.int .u64 (n : Int)) := fun H => by
    simp only [evP, wrapU]
    rw [Int.emod_eq_of_lt (by omega) (by omega)]
  have c3 : ∀ H, evP H (.bin .rem) [.int .u64 (((x % 18446744073709551616).toNat : Nat) : Int), .int .u64 (n : Int)] = some (.int .u64 (modN x n : Nat)) := fun H => by
    simp only [evP, binV, isShift, binInt, Bool.false_eq_true, if_false, if_true]
    rw [if_neg (by omega)]
    rfl
  have hlt : modN x n < n := Nat.mod_lt _ hn
  have c4 : ∀ H, evP H (.conv .i64) [.int .u64 (modN x n : Nat)] = some (.int .i64 (modN x n : Nat)) := fun H => by
    simp only [evP]
    rw [wrapI (by omega)]
  refine f_enter rfl rfl ?_
  repeat' first
 | (apply s_mov; exact aW)
 | (apply c_nil)
 | (apply s_pn; exact aO; exact c1 _)
 | (apply s_pn; exact aO; exact c2 _)
 | (apply s_pn; exact aO; exact c3 _)
 | (apply s_pn; exact aO; exact c4 _)
 | (apply c_seq)
 | (apply c_reg)
 | (apply c_ret)
 | (with_reducible apply k_c)
  exact fin_t (by (conv => lhs; whnf)) (by rfl) rfl
theorem c49 {x : Int} {n : Nat} (hn : 0 < n) (hn2 : n < 9223372036854775808) {m : Nat} (hm : 1 ≤ m) (H : Heap) : callPure (evF tab it m) true 49 [.int .i64 x, .int .i64 (n : Int)] H = some (.int .i64 (modN x n : Nat), H) :=
  callPure_free rfl (by simp) (f49 hn hn2 hm) rfl
set_option maxHeartbeats 4000000
theorem renL_free {f : Nat → Option Nat} : ∀ {gs : List AV}, idFreeL gs = true → renL f gs = some gs
  | [], _ => rfl
  | g :: r, h => by
    simp only [idFreeL, Bool.and_eq_true] at h
    simp only [renL, ren_self h.1, Option.bind_some, renL_free h.2, Option.map_some]
theorem reach_pre {H : Heap} : ∀ (pre : List AV) {k : Nat} {acc : List Nat} {r : List AV}, idFreeL pre = true → reach H (k + pre.length) acc (pre ++ r) = reach H k acc r
  | [], _, _, _, _ => rfl
  | v :: pre, k, acc, r, h => by
    simp only [idFreeL, Bool.and_eq_true] at h
    rw [List.length_cons, ← Nat.add_assoc, List.cons_append, reach_skip h.1]
    exact reach_pre pre h.2
theorem gcR {H : Heap} {pre gs : List AV} {p M : Nat} {is : List Nat} {R : List (List AV)} (hp : idFreeL pre = true) (hpl : pre.length ≤ 20) (hg : idFreeL gs = true)
    (hb : H[p]? = some (some (.box (refs is R)))) (hl : is.length = R.length) (hR : ∀ (j i : Nat) (l : List AV), is[j]? = some i → R[j]? = some l → H[i]? = some (some (.data l))) (hd : (p :: is).Nodup) (hk : is.length < 100) :
    gc 0 (pre ++ .sl p 1 0 M :: gs) H = some (pre ++ .sl 0 1 0 M :: gs, some (.box (refs (List.range' 1 is.length) R)) :: rowsH R) := by
  have hφ : nodupB (p :: is) = true := nodupB_iff.2 hd
  have q1 : posOf (p :: is) p = some 0 := posOf_of_get hφ (j := 0) rfl
  have pr : renL (posOf (p :: is)) (refs is R) = some (refs (List.range' 1 is.length) R) := renL_refs hφ is R 1 hl fun j i h => by rw [Nat.add_comm]; exact h
  have hpick := pickO_refs is R hl hR
  obtain ⟨d1, d2⟩ := List.nodup_cons.1 hd
  refine gc_of (φ := p :: is) ?_ hφ (vs' := pre ++ .sl 0 1 0 M :: gs) ?_ (Hp := some (.box (refs is R)) :: rowsH R) ?_ ?_
  · have b2 : boxCells H p = refs is R := by simp [boxCells, hb]
    have e : reach H 400 (rangeL 0 []) (roots H (rangeL 0 []) ++ (pre ++ .sl p 1 0 M :: gs)) = reach H (399 - pre.length) [p] (refs is R ++ gs) := by
      have h1 : rangeL 0 [] = [] := rfl
      have h2 : roots H (rangeL 0 []) = [] := rfl
      rw [h2, List.nil_append, h1, show (400 : Nat) = (400 - pre.length) + pre.length by omega, reach_pre pre hp, show 400 - pre.length = (399 - pre.length) + 1 by omega, reach_new, b2]
      simp
    rw [e, reach_refs' (by omega) hl (fun i hi => ?_) d2 (rows_box hl hR), reach_free _ _ _ _ hg]
    · rfl
    · have h3 : i ≠ p := fun e => d1 (e ▸ hi)
      simp [h3]
  · rw [renL_append, renL_free hp]
    simp [renL, AV.ren, q1, renL_free hg]
  · simp [pickO, hb, hpick]
  · simp [renH, renO, pr, renH_rows]
def HB (n : Nat) (rows : List (List Int)) : Heap := some (.box (refs (List.range' 1 n) (rows.map iL))) :: rowsH (rows.map iL)
structure Rows (n : Nat) (rows : List (List Int)) : Prop where
  len : rows.length = n
  each : ∀ r ∈ rows, r.length = n
theorem Rows.get {n : Nat} {rows : List (List Int)} (h : Rows n rows) {i : Nat} (hi : i < n) : (getLL rows (i : Int)).length = n := by
  rw [getLL_nat]
  have : i < rows.length := by rw [h.len]; exact hi
  simp only [List.getD, List.getElem?_eq_getElem this, Option.getD_some]
  exact h.each _ (List.getElem_mem this)
theorem rows_at {rows : List (List Int)} {i : Nat} (hi : i < rows.length) : (rows.map iL)[i]? = some (iL (getLL rows (i : Int))) := by
  rw [getLL_nat]
  simp [List.getD, hi]
theorem gcHB {pre gs : List AV} {n M : Nat} {rows : List (List Int)} (h : Rows n rows) (hn : n < 100) (hp : idFreeL pre = true) (hpl : pre.length ≤ 20) (hg : idFreeL gs = true) :
    gc 0 (pre ++ .sl 0 1 0 M :: gs) (HB n rows) = some (pre ++ .sl 0 1 0 M :: gs, HB n rows) := by
  have hl : (List.range' 1 n).length = (rows.map iL).length := by simp [h.len]
  have := gcR (H := HB n rows) (p := 0) (M := M) (is := List.range' 1 n) (R := rows.map iL) hp hpl hg rfl hl (rng_rows0 [some (.box (refs (List.range' 1 n) (rows.map iL)))] rfl) (by simp [List.mem_range'_1, List.nodup_range']) (by simpa using hn)
  simpa [HB] using this
theorem hb_row {n i : Nat} {rows : List (List Int)} (h : Rows n rows) (hi : i < n) : (HB n rows)[1 + i]? = some (some (.data (iL (getLL rows (i : Int))))) := by
  have hil : i < rows.length := by rw [h.len]; exact hi
  have := rng_rows0 [some (.box (refs (List.range' 1 n) (rows.map iL)))] (s := 1) (q := n) (R := rows.map iL) rfl i (1 + i) _ (by rw [List.getElem?_range' hi]; simp) (rows_at hil)
  exact this
theorem hb_ld {n i : Nat} {rows : List (List Int)} (h : Rows n rows) (hi : i < n) : evP (HB n rows) (.ld false 1) [.ptr 0 i] = some (.sl (1 + i) 1 0 n) := by
  have hil : i < rows.length := by rw [h.len]; exact hi
  have hc : Heap.cells? (HB n rows) 0 = some (refs (List.range' 1 n) (rows.map iL)) := rfl
  have hr := refs_get (is := List.range' 1 n) (ll := rows.map iL) (j := i) (i := 1 + i) (by rw [List.getElem?_range' hi]; simp) (rows_at hil)
  rw [iL_len, h.get hi] at hr
  obtain ⟨h1, h2⟩ := List.getElem?_eq_some_iff.1 hr
  have h5 : i + 1 ≤ (refs (List.range' 1 n) (rows.map iL)).length := by omega
  simp only [evP, ldc, getRow, hc, Option.bind_some, if_pos h5]
  rw [List.drop_eq_getElem_cons h1, h2]
  simp [wholeOf]
theorem refs_len : ∀ (is : List Nat) {R S : List (List AV)}, R.map List.length = S.map List.length → refs is R = refs is S
  | [], R, S, _ => by simp [refs]
  | i :: is, [], [], _ => rfl
  | i :: is, [], _ :: _, h => by simp at h
  | i :: is, _ :: _, [], h => by simp at h
  | i :: is, l :: R, k :: S, h => by
    simp only [List.map_cons, List.cons.injEq] at h
    simp [refs, h.1, refs_len is h.2]
def setLL (rows : List (List Int)) (i j : Nat) (x : Int) : List (List Int) := rows.set i ((getLL rows (i : Int)).set j x)
theorem setLL_rows {n i j : Nat} {x : Int} {rows : List (List Int)} (h : Rows n rows) (hi : i < n) : Rows n (setLL rows i j x) := by
  refine ⟨by simp [setLL, h.len], fun r hr => ?_⟩
  unfold setLL at hr
  rcases List.mem_or_eq_of_mem_set hr with hr | hr
  · exact h.each r hr
  · rw [hr, List.length_set]; exact h.get hi
theorem setLL_get {n i j p q : Nat} {x : Int} {rows : List (List Int)} (h : Rows n rows) (hi : i < n) (hj : j < n) : getI (getLL (setLL rows i j x) (p : Int)) (q : Int) = if p = i ∧ q = j then x else getI (getLL rows (p : Int)) (q : Int) := by
  have hil : i < rows.length := by rw [h.len]; exact hi
  have hrl := h.get hi
  have e : getLL (setLL rows i j x) (p : Int) = if p = i then (getLL rows (i : Int)).set j x else getLL rows (p : Int) := by
    unfold setLL
    rw [getLL_nat, getLL_nat rows p]
    by_cases hp : p = i
    · subst hp; simp [List.getD, hil]
    · rw [if_neg hp]; simp [List.getD, List.getElem?_set_ne (Ne.symm hp)]
  rw [e]
  by_cases hp : p = i
  · subst hp
    rw [if_pos rfl, getI_set (by omega)]
    by_cases hq : q = j
    · rw [if_pos hq, if_pos ⟨rfl, hq⟩]
    · rw [if_neg hq, if_neg (fun h => hq h.2)]
  · rw [if_neg hp, if_neg (fun h => hp h.1)]
theorem hb_st {call : CallF} {n i j : Nat} {x : Int} {rows : List (List Int)} (h : Rows n rows) (hi : i < n) (hj : j < n) : evE call (HB n rows) (.st 1) [.ptr (1 + i) j, .int .i64 x] = some (.undef, HB n (setLL rows i j x)) := by
  have hil : i < rows.length := by rw [h.len]; exact hi
  have h1 := hb_row h hi
  have hd : Heap.data? (HB n rows) (1 + i) = some (iL (getLL rows (i : Int))) := data?_iff.2 h1
  have hst := e_stO (call := call) (H := HB n rows) (id := 1 + i) (l := getLL rows (i : Int)) (i := j) (v := x) hd (by rw [h.get hi]; exact hj)
  rw [hst]
  have e1 : (HB n rows).set (1 + i) (some (.data (iL ((getLL rows (i : Int)).set j x)))) = HB n (setLL rows i j x) := by
    unfold HB
    rw [Nat.add_comm, List.set_cons_succ]
    have e2 : (rowsH (rows.map iL)).set i (some (.data (iL ((getLL rows (i : Int)).set j x)))) = rowsH ((setLL rows i j x).map iL) := by
      simp [rowsH, setLL, List.map_set]
    have e3 : refs (List.range' 1 n) (rows.map iL) = refs (List.range' 1 n) ((setLL rows i j x).map iL) := refs_len _ (by
      refine List.ext_getElem (by simp [setLL]) fun k h1 h2 => ?_
      simp only [List.length_map] at h1
      have hkn : k < n := by rw [← h.len]; exact h1
      have a := h.get hkn
      have c := (setLL_rows (x := x) (j := j) h hi).get hkn
      rw [getLL_nat] at a c
      have h3 : k < (setLL rows i j x).length := by simpa [setLL] using h1
      simp only [List.getD, List.getElem?_eq_getElem h1, List.getElem?_eq_getElem h3, Option.getD_some] at a c
      simp [iL_len, a, c])
    rw [e2, e3]
  rw [e1]
theorem hb_frz {n : Nat} {rows : List (List Int)} (h : Rows n rows) (hn : 1 ≤ n) (hn2 : n ≤ 12) : frzV (HB n rows) 40 (.sl 0 1 0 n) = some (fzLL rows) := by
  have hl : (List.range' 1 n).length = (rows.map iL).length := by simp [h.len]
  have hz := frzL_refs (H := HB n rows) (List.range' 1 n) (rows.map iL) 38 hl (by simp; omega) (rng_rows0 [some (.box (refs (List.range' 1 n) (rows.map iL)))] rfl)
  have hbx : Heap.box? (HB n rows) 0 = some (refs (List.range' 1 n) (rows.map iL)) := rfl
  have hda : Heap.data? (HB n rows) 0 = none := rfl
  have hm : ((rows.map iL).map fun l => AV.rd 1 l.length l) = rows.map fzL := by
    rw [List.map_map]
    refine List.map_congr_left fun r hr => ?_
    have := h.each r hr
    rw [fzL_ne this hn]
    simp [iL_len, this]
  rw [hm] at hz
  have hlen : (rows.map fzL).length = n := by simp [h.len]
  rw [frzV_sl, hda, hbx]
  simp only [Option.none_or, Option.bind_some, hz]
  rw [if_pos (by simp [h.len])]
  have ht : (rows.map fzL).take n = rows.map fzL := List.take_of_length_le (by simp [h.len])
  have hne : rows ≠ [] := fun e => by rw [e] at h; have := h.len; simp at this; omega
  have : fzLL rows = .rd 1 n (rows.map fzL) := by
    cases rows with
    | nil => exact absurd rfl hne
    | cons r rs => have := h.len; simp only [List.length_cons] at this; simp [fzLL, this]
  rw [this]
  simp [ht]
set_option maxHeartbeats 4000000
theorem isB_of {n : Nat} {b : List (List Int)} {E : Nat → Nat → Int} (hr : Rows n b) (h1 : 1 ≤ n) (h2 : n ≤ 10) (he : ∀ i j, i < n → j < n → ed b i j = E i j) (hb : ∀ i j, i < n → j < n → 0 ≤ E i j ∧ E i j ≤ 3) (hs : SyD n E)
    (hc : ∀ P : Nat → Prop, P 0 → (∀ v k : Nat, v < n → k < n → P v → 0 < E v k → P k) → ∀ k : Nat, k < n → P k) : IsB b := by
  have hl := hr.len
  refine ⟨by omega, by omega, fun v hv => by rw [hl]; exact hr.get (by omega), fun i k hi hk => ?_, conn_of (by omega) fun P h0 hcl k hk => hc P h0 (fun v k hv hk hp hlt => hcl v k (by omega) (by omega) hp (by rw [he v k hv hk]; exact hlt)) k (by omega)⟩
  rw [hl] at hi hk
  have e1 := he i k hi hk
  have e2 := he k i hk hi
  have b1 := hb i k hi hk
  have s1 := hs.sy i k hi hk
  refine ⟨?_, ?_, fun e => ?_⟩
  · show 0 ≤ ed b i k ∧ ed b i k ≤ 3
    rw [e1]; exact b1
  · show ed b i k = ed b k i
    rw [e1, e2]; exact s1
  · show ed b i k = 0
    subst e
    rw [e1]; exact hs.di i hi
theorem cir_isB {n : Nat} {b : List (List Int)} (hr : Rows n b) (h1 : 3 ≤ n) (h2 : n ≤ 10) (he : ∀ i j, i < n → j < n → ed b i j = cirE n i j) : IsB b := by
  refine isB_of hr (by omega) h2 he (fun i j hi hj => by unfold cirE; split <;> omega) ⟨fun i j hi hj => ?_, fun i hi => ?_⟩ fun P h0 hcl => ?_
  · rw [cir_pat h1 hi hj, cir_pat h1 hj hi]
    unfold patE
    (repeat' split) <;> omega
  · rw [cir_pat h1 hi hi]
    unfold patE
    (repeat' split) <;> omega
  · intro k
    induction k with
    | zero => intro _; exact h0
    | succ k ih =>
      intro hk
      refine hcl k (k + 1) (by omega) hk (ih (by omega)) ?_
      rw [cir_pat h1 (by omega) (by omega)]
      unfold patE
      (repeat' split) <;> omega
theorem syd_of {b : List (List Int)} (hB : IsB b) : SyD b.length (ed b) := ⟨(gr_of hB).sy, fun i hi => (hB.ed i i hi hi).2.2 rfl⟩
def Cut (b : List (List Int)) (u v : Nat) : Prop := ed b u v > 1 ∨ (ed b u v = 1 ∧ v + 1 < u)
theorem less_isB {n u v : Nat} {b c : List (List Int)} (hB : IsB b) (hn : b.length = n) (hP : ∀ k, k + 1 < n → 1 ≤ ed b (k + 1) k) (hv : v < u) (hu : u < n) (hcut : Cut b u v) (hr : Rows n c) (he : ∀ i j, i < n → j < n → ed c i j = dlE (ed b) u v i j) : IsB c := by
  have hs := syd_of hB
  rw [hn] at hs
  have h2 := hB.n2
  have hb : ∀ i j, i < n → j < n → 0 ≤ ed b i j ∧ ed b i j ≤ 3 := fun i j hi hj => (hB.ed i j (by omega) (by omega)).1
  have hpos : 1 ≤ ed b u v := by unfold Cut at hcut; omega
  refine isB_of hr (by omega) (by omega) he (fun i j hi hj => ?_) ⟨fun i j hi hj => ?_, fun i hi => ?_⟩ fun P h0 hcl => ?_
  · have := hb i j hi hj
    unfold dlE
    split
    · rename_i c
      rcases c with ⟨rfl, rfl⟩ | ⟨rfl, rfl⟩
      · omega
      · have := hs.sy i j hi hj; omega
    · exact this
  · unfold dlE
    rw [hs.sy i j hi hj]
    by_cases c : (i = u ∧ j = v) ∨ (i = v ∧ j = u)
    · rw [if_pos c, if_pos (by omega)]
    · rw [if_neg c, if_neg (by omega)]
  · unfold dlE
    rw [if_neg (by omega)]
    exact hs.di i hi
  · intro k
    induction k with
    | zero => intro _; exact h0
    | succ k ih =>
      intro hk
      refine hcl k (k + 1) (by omega) hk (ih (by omega)) ?_
      have a := hP k hk
      have c := hs.sy k (k + 1) (by omega) hk
      unfold dlE
      by_cases d : (k = u ∧ k + 1 = v) ∨ (k = v ∧ k + 1 = u)
      · rw [if_pos d]
        have : k = v ∧ k + 1 = u := by omega
        obtain ⟨rfl, rfl⟩ := this
        unfold Cut at hcut
        omega
      · rw [if_neg d]; omega
def mrN (n u v x : Nat) : Nat := if x = u then v else if x = n - 1 then u else x
theorem mrN_lt {n u v x : Nat} (hv : v < u) (hu : u < n) (hx : x < n) : mrN n u v x < n - 1 := by unfold mrN; split <;> (try split) <;> omega
def mgS (n u v : Nat) (E : Nat → Nat → Int) (i j : Nat) : Int := if i = j then 0 else sumTo (fun x => sumTo (fun y => if mrN n u v x = i ∧ mrN n u v y = j then E x y else 0) n) n
theorem sum_pre {n u v i : Nat} (hv : v < u) (hu : u < n) (hi : i < n - 1) (f : Nat → Int) : sumTo (fun x => if mrN n u v x = i then f x else 0) n = f (swN u (n - 1) i) + if i = v then f u else 0 := by
  have e : sumTo (fun x => if mrN n u v x = i then f x else 0) n = sumTo (fun x => (if (x : Int) = ((swN u (n - 1) i : Nat) : Int) then f (swN u (n - 1) i) else 0) + (if i = v then (if (x : Int) = (u : Int) then f u else 0) else 0)) n := sumTo_congr fun x hx => by
    have hsw : swN u (n - 1) i = if i = u then n - 1 else i := by unfold swN; split <;> (try split) <;> omega
    rw [hsw]
    unfold mrN
    by_cases h1 : x = u
    · subst h1
      rw [if_pos rfl]
      by_cases h2 : i = v
      · subst h2
        rw [if_pos rfl, if_pos rfl, if_pos rfl, if_neg (show ¬ i = x by omega), if_neg (by omega)]; omega
      · rw [if_neg (Ne.symm h2), if_neg h2]
        by_cases h3 : i = x
        · rw [if_pos h3, if_neg (by omega)]; omega
        · rw [if_neg h3, if_neg (by omega)]; omega
    · rw [if_neg h1]
      have z : (if i = v then (if (x : Int) = (u : Int) then f u else 0) else 0) = 0 := by
        by_cases h2 : i = v
        · rw [if_pos h2, if_neg (by omega)]
        · rw [if_neg h2]
      rw [z]
      by_cases h4 : x = n - 1
      · rw [if_pos h4]
        by_cases h5 : i = u
        · rw [if_pos h5.symm, if_pos h5, if_pos (by omega), h4]; omega
        · rw [if_neg (Ne.symm h5), if_neg h5, if_neg (by omega)]; omega
      · rw [if_neg h4]
        by_cases h5 : i = u
        · rw [if_neg (by omega), if_pos h5, if_neg (by omega)]; omega
        · rw [if_neg h5]
          by_cases h6 : x = i
          · rw [if_pos h6, if_pos (by omega), h6]; omega
          · rw [if_neg h6, if_neg (by omega)]; omega
  rw [e, sumTo_add, sumTo_unit]
  have hs : swN u (n - 1) i < n := swN_lt hu (by omega) (by omega)
  rw [if_pos hs]
  congr 1
  by_cases h2 : i = v
  · simp only [if_pos h2]
    rw [sumTo_unit, if_pos hu]
  · simp only [if_neg h2]
    exact sumTo_zero n
theorem mgS_eq {n u v i j : Nat} {E : Nat → Nat → Int} (hv : v < u) (hu : u < n) (hi : i < n - 1) (hj : j < n - 1) : mgS n u v E i j = mgE (fun i j => E (swN u (n - 1) i) (swN u (n - 1) j)) (n - 1) v i j := by
  unfold mgS mgE
  by_cases e : i = j
  · rw [if_pos e, if_pos e]
  · rw [if_neg e, if_neg e]
    have hk : swN u (n - 1) (n - 1) = u := by unfold swN; split <;> (try split) <;> omega
    have h1 : ∀ x, sumTo (fun y => if mrN n u v x = i ∧ mrN n u v y = j then E x y else 0) n = if mrN n u v x = i then (E x (swN u (n - 1) j) + if j = v then E x u else 0) else 0 := fun x => by
      by_cases c : mrN n u v x = i
      · rw [if_pos c, ← sum_pre hv hu hj (fun y => E x y)]
        exact sumTo_congr fun y _ => by
          by_cases d : mrN n u v y = j
          · rw [if_pos ⟨c, d⟩, if_pos d]
          · rw [if_neg (fun h => d h.2), if_neg d]
      · rw [if_neg c]
        exact (sumTo_congr fun y _ => by rw [if_neg (fun h => c h.1)]).trans (sumTo_zero n)
    rw [sumTo_congr fun x _ => h1 x, sum_pre hv hu hi]
    show _ = E (swN u (n - 1) i) (swN u (n - 1) j) + (if i = v then E (swN u (n - 1) (n - 1)) (swN u (n - 1) j) else 0) + if j = v then E (swN u (n - 1) i) (swN u (n - 1) (n - 1)) else 0
    rw [hk]
    (repeat' split) <;> omega
theorem trees_cut {n u v : Nat} {b c : List (List Int)} (hB : IsB b) (hn : b.length = n) (h3 : 3 ≤ n) (hv : v < u) (hu : u < n) (hr : Rows n c) (he : ∀ i j, i < n → j < n → ed c i j = dlE (ed b) u v i j) : trN b = trN c + tN (n - 1) (mgS n u v (ed b)) := by
  have hs := syd_of hB
  rw [hn] at hs
  rw [trN_tN, trN_tN, hr.len, hn, ← tN_sw (u := u) (v := n - 1) ⟨by omega, hu⟩ ⟨by omega, by omega⟩ (ed b)]
  obtain ⟨m, rfl⟩ : ∃ m, n = m + 2 := ⟨n - 2, by omega⟩
  have hk : m + 2 - 1 = m + 1 := by omega
  have hl : ∀ i, i < m + 2 → swN u (m + 2 - 1) i < m + 2 := fun i hi => swN_lt hu (by omega) hi
  rw [del_con (v := v) ⟨fun i j hi hj => hs.sy _ _ (hl i hi) (hl j hj), fun i hi => hs.di _ (hl i hi)⟩ (by omega)]
  congr 1
  · rw [tN_congr he, ← tN_sw (u := u) (v := m + 2 - 1) ⟨by omega, hu⟩ ⟨by omega, by omega⟩ (dlE (ed b) u v)]
    refine tN_congr fun i j hi hj => ?_
    rw [hk]
    have hsw : ∀ i, swN u (m + 1) i = if i = u then m + 1 else if i = m + 1 then u else i := fun i => rfl
    have c1 : ∀ i, i < m + 2 → (swN u (m + 1) i = u ↔ i = m + 1) := fun i hi => by
      rw [hsw]
      constructor
      · intro h; (repeat' split at h) <;> omega
      · intro h; rw [h]; (repeat' split) <;> omega
    have c2 : ∀ i, i < m + 2 → (swN u (m + 1) i = v ↔ i = v) := fun i hi => by
      rw [hsw]
      constructor
      · intro h; (repeat' split at h) <;> omega
      · intro h; rw [h]; (repeat' split) <;> omega
    unfold dlE
    simp only [c1 i hi, c1 j hj, c2 i hi, c2 j hj]
  · show tN (m + 1) _ = tN (m + 2 - 1) _
    rw [hk]
    refine tN_congr fun i j hi hj => ?_
    rw [mgS_eq hv hu (by omega) (by omega)]
    rfl
theorem mgS_syd {n u v : Nat} {b : List (List Int)} (hB : IsB b) (hn : b.length = n) (hv : v < u) (hu : u < n) : SyD (n - 1) (mgS n u v (ed b)) ∧ ∀ i j, i < n - 1 → j < n - 1 → 0 ≤ mgS n u v (ed b) i j := by
  have hs := syd_of hB
  rw [hn] at hs
  refine ⟨⟨fun i j hi hj => ?_, fun i hi => by unfold mgS; rw [if_pos rfl]⟩, fun i j hi hj => ?_⟩
  · unfold mgS
    by_cases e : i = j
    · rw [if_pos e, if_pos e.symm]
    · rw [if_neg e, if_neg (Ne.symm e), sumTo_comm]
      exact sumTo_congr fun x hx => sumTo_congr fun y hy => by
        by_cases c : mrN n u v y = i ∧ mrN n u v x = j
        · rw [if_pos c, if_pos ⟨c.2, c.1⟩]; exact hs.sy _ _ hy hx
        · rw [if_neg c, if_neg (fun h => c ⟨h.2, h.1⟩)]
  · unfold mgS
    split
    · omega
    · exact sumTo_nn fun x hx => sumTo_nn fun y hy => by
        split
        · exact (hB.ed x y (by omega) (by omega)).1.1
        · omega
theorem one_isB {n u v : Nat} {b c : List (List Int)} (hB : IsB b) (hn : b.length = n) (h3 : 3 ≤ n) (hv : v < u) (hu : u < n) (hr : Rows (n - 1) c) (he : ∀ i j, i < n - 1 → j < n - 1 → ed c i j = mgS n u v (ed b) i j) (hle : ∀ i j, i < n - 1 → j < n - 1 → mgS n u v (ed b) i j ≤ 3) : IsB c := by
  have h2 := hB.n2
  obtain ⟨hs, hnn⟩ := mgS_syd hB hn hv hu
  have hb : ∀ i j, i < n → j < n → 0 ≤ ed b i j := fun i j hi hj => (hB.ed i j (by omega) (by omega)).1.1
  refine isB_of hr (by omega) (by omega) he (fun i j hi hj => ⟨hnn i j hi hj, hle i j hi hj⟩) hs fun P h0 hcl k hk => ?_
  have hall := all_of_zero hB (P := fun x => P (mrN n u v x)) (fun x y hx hy hp hlt => ?_) (by
    have : mrN n u v 0 = 0 := by unfold mrN; split <;> (try split) <;> omega
    rw [this]; exact h0)
  · by_cases c : k = u
    · have := hall (n - 1) (by omega)
      have e : mrN n u v (n - 1) = k := by unfold mrN; rw [if_neg (by omega), if_pos rfl, c]
      rwa [e] at this
    · have := hall k (by omega)
      have e : mrN n u v k = k := by unfold mrN; rw [if_neg c, if_neg (by omega)]
      rwa [e] at this
  · by_cases c : mrN n u v x = mrN n u v y
    · rw [← c]; exact hp
    · refine hcl _ _ (mrN_lt hv hu (by omega)) (mrN_lt hv hu (by omega)) hp ?_
      unfold mgS
      rw [if_neg c]
      have hx' : x < n := by omega
      have hy' : y < n := by omega
      have t1 := sumTo_term (f := fun y' => if mrN n u v x = mrN n u v x ∧ mrN n u v y' = mrN n u v y then ed b x y' else 0) (n := n) (k := y) (fun y' hy2 => by split; exact hb x y' hx' hy2; omega) hy'
      have t2 := sumTo_term (f := fun x' => sumTo (fun y' => if mrN n u v x' = mrN n u v x ∧ mrN n u v y' = mrN n u v y then ed b x' y' else 0) n) (n := n) (k := x) (fun x' hx2 => sumTo_nn fun y' hy2 => by split; exact hb x' y' hx2 hy2; omega) hx'
      rw [if_pos ⟨rfl, rfl⟩] at t1
      omega
set_option maxHeartbeats 8000000
def grN (b : List (List Int)) (w : Nat) : Nat := 1 + modN ((b.length : Int) - 1) w
def grX0 (b : List (List Int)) (i j : Nat) : Int := if i < b.length ∧ j < (getLL b (i : Int)).length then (modN (getI (getLL b (i : Int)) (j : Int)) 4 : Nat) else 0
theorem grX0_le (b : List (List Int)) (i j : Nat) : 0 ≤ grX0 b i j ∧ grX0 b i j ≤ 3 := by
  unfold grX0
  split
  · have := modN_lt (getI (getLL b (i : Int)) (j : Int)) (n := 4) (by omega); omega
  · omega
theorem grN_le (b : List (List Int)) {w : Nat} (hw : 1 ≤ w) : 1 ≤ grN b w ∧ grN b w ≤ w := by
  have := modN_lt ((b.length : Int) - 1) (n := w) (by omega)
  unfold grN
  omega
end Go.AM.Ch
