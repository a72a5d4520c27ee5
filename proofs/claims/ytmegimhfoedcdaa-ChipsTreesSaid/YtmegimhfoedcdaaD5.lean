/- A part of the proof: D3 U33 U33b D4 U28 U34 U35 U17 U18 U36 U38 D5. -/
import Derived.Test.YtmegimhfoedcdaaD2
import Derived.Test.YtmegimhfoedcdaaM3
set_option linter.unusedVariables false
set_option linter.unusedSimpArgs false
set_option linter.unusedSectionVars false
namespace Go.AM.Ch
set_option maxHeartbeats 2000000
def lap (m : Nat) (w : Nat → Int) (E : Nat → Nat → Int) : Nat → Nat → Int := fun v u => if u = v then w v + sumTo (fun t => E v t) m else - E v u
structure WG (m : Nat) (w : Nat → Int) (E : Nat → Nat → Int) : Prop where
  w0 : ∀ v, v < m → 0 ≤ w v
  nn : ∀ v u, v < m → u < m → 0 ≤ E v u
  sy : ∀ v u, v < m → u < m → E v u = E u v
  di : ∀ v, v < m → E v v = 0
def less1 (w : Nat → Int) (u : Nat) : Nat → Int := fun v => if v = u then w v - 1 else w v
def cw (w : Nat → Int) (E : Nat → Nat → Int) (u : Nat) : Nat → Int := fun v => w (skp u v) + E (skp u v) u
theorem skp_ne (u v : Nat) : skp u v ≠ u := by unfold skp; split <;> omega
theorem skp_inj {u v v' : Nat} : skp u v = skp u v' ↔ v = v' := by unfold skp; split <;> split <;> omega
theorem WG.less {m : Nat} {w : Nat → Int} {E : Nat → Nat → Int} (h : WG m w E) {u : Nat} (hw : 1 ≤ w u) : WG m (less1 w u) E :=
  ⟨fun v hv => by unfold less1; split
                  · rename_i e; subst e; omega
                  · exact h.w0 v hv, h.nn, h.sy, h.di⟩
theorem WG.cut {m : Nat} {w : Nat → Int} {E : Nat → Nat → Int} (h : WG (m + 1) w E) {u : Nat} (hu : u < m + 1) : WG m (cw w E u) (mn E u u) :=
  ⟨fun v hv => by
    have := h.w0 _ (skp_lt hv (i := u))
    have := h.nn _ u (skp_lt hv (i := u)) hu
    unfold cw; omega, fun v x hv hx => h.nn _ _ (skp_lt hv) (skp_lt hx), fun v x hv hx => h.sy _ _ (skp_lt hv) (skp_lt hx), fun v hv => h.di _ (skp_lt hv)⟩
theorem det_cut {m : Nat} {w : Nat → Int} {E : Nat → Nat → Int} {u : Nat} (hu : u < m + 1) : det (m + 1) (lap (m + 1) w E) = det (m + 1) (lap (m + 1) (less1 w u) E) + det m (lap m (cw w E u) (mn E u u)) := by
  have h1 := det_lin 1 (n := m + 1) (M := lap (m + 1) (less1 w u) E) (k := u) (f := lap (m + 1) (less1 w u) E u) (g := fun c => if c = u then 1 else 0) hu
  rw [rwR_self] at h1
  have e1 : rwR (lap (m + 1) (less1 w u) E) u (fun c => lap (m + 1) (less1 w u) E u c + 1 * (if c = u then 1 else 0)) = lap (m + 1) w E := by
    funext r c
    unfold rwR lap less1
    by_cases e : r = u
    · subst e
      rw [if_pos rfl]
      by_cases e2 : c = r
      · subst e2
        simp only [if_true]
        omega
      · simp only [if_neg e2]
        omega
    · rw [if_neg e, if_neg e]
  rw [e1] at h1
  rw [h1, det_unit (M := rwR (lap (m + 1) (less1 w u) E) u fun c => if c = u then 1 else 0) hu fun c hc => by unfold rwR; rw [if_pos rfl], mn_rwR_at]
  rw [Int.one_mul]
  congr 1
  refine det_congr fun r c hr hc => ?_
  show lap (m + 1) (less1 w u) E (skp u r) (skp u c) = _
  unfold lap less1 cw
  by_cases e : c = r
  · subst e
    rw [if_pos rfl, if_pos rfl, if_neg (skp_ne u c), sumTo_skp (fun t => E (skp u c) t) hu]
    show w (skp u c) + (E (skp u c) u + _) = w (skp u c) + E (skp u c) u + _
    unfold mn
    omega
  · rw [if_neg (fun h => e (skp_inj.1 h)), if_neg e]
    rfl
theorem det_noroot {m : Nat} {w : Nat → Int} {E : Nat → Nat → Int} (h : WG (m + 1) w E) (hw : ∀ v, v < m + 1 → w v = 0) : det (m + 1) (lap (m + 1) w E) = 0 := by
  refine det_rows0 fun c hc => ?_
  have e : sumTo (fun v => lap (m + 1) w E v c) (m + 1) = sumTo (fun v => (if (v : Int) = (c : Int) then sumTo (fun t => E c t) (m + 1) else 0) - E c v) (m + 1) := sumTo_congr fun v hv => by
    unfold lap
    by_cases e : c = v
    · subst e
      rw [if_pos rfl, if_pos rfl, hw _ hv, h.di _ hv]; omega
    · rw [if_neg e, if_neg (by omega), h.sy v c hv hc]; omega
  rw [e, sumTo_sub, sumTo_unit, if_pos hc]
  have : sumTo (fun t => E c t) (m + 1) = sumTo (E c) (m + 1) := rfl
  omega
def cns (x : Int) (c : Nat → Int) : Nat → Int
  | 0 => x
  | i + 1 => c i
def ins (u : Nat) (x : Int) (c : Nat → Int) : Nat → Int := fun i => if i < u then c i else if i = u then x else c (i - 1)
def sumC (K : Nat) : Nat → ((Nat → Int) → Int) → Int
  | 0, F => F fun _ => 0
  | m + 1, F => sumTo (fun x => sumC K m fun c => F (cns (x : Int) c)) K
theorem sumC_congr {K : Nat} : ∀ {m : Nat} {F G : (Nat → Int) → Int}, (∀ c, (∀ i, 0 ≤ c i) → F c = G c) → sumC K m F = sumC K m G
  | 0, F, G, h => h _ fun _ => Int.le_refl _
  | m + 1, F, G, h => by
    unfold sumC
    refine sumTo_congr fun x hx => sumC_congr fun c hc => h _ fun i => ?_
    cases i with
    | zero => show 0 ≤ (x : Int); omega
    | succ i => exact hc i
theorem ins_zero (x : Int) (c : Nat → Int) : ins 0 x c = cns x c := by
  funext i
  cases i with
  | zero => rfl
  | succ i => rfl
theorem ins_cns (u : Nat) (x y : Int) (c : Nat → Int) : ins (u + 1) y (cns x c) = cns x (ins u y c) := by
  funext i
  cases i with
  | zero => rfl
  | succ i =>
    show (if i + 1 < u + 1 then cns x c (i + 1) else if i + 1 = u + 1 then y else cns x c (i + 1 - 1)) = if i < u then c i else if i = u then y else c (i - 1)
    by_cases h1 : i < u
    · rw [if_pos h1, if_pos (show i + 1 < u + 1 by omega)]; rfl
    · rw [if_neg h1, if_neg (show ¬ i + 1 < u + 1 by omega)]
      by_cases h2 : i = u
      · rw [if_pos h2, if_pos (show i + 1 = u + 1 by omega)]
      · rw [if_neg h2, if_neg (show ¬ i + 1 = u + 1 by omega)]
        obtain ⟨j, rfl⟩ : ∃ j, i = j + 1 := ⟨i - 1, by omega⟩
        rfl
theorem ins_at (u : Nat) (x : Int) (c : Nat → Int) : ins u x c u = x := by unfold ins; rw [if_neg (by omega), if_pos rfl]
theorem ins_skp (u : Nat) (x : Int) (c : Nat → Int) (v : Nat) : ins u x c (skp u v) = c v := by
  unfold ins skp
  by_cases h : v < u
  · rw [if_pos h, if_pos h]
  · rw [if_neg h, if_neg (by omega), if_neg (by omega)]; congr 1
theorem sumC_at {K : Nat} : ∀ {u m : Nat} {F : (Nat → Int) → Int}, u < m + 1 → sumC K (m + 1) F = sumTo (fun x => sumC K m fun c => F (ins u (x : Int) c)) K
  | 0, m, F, _ => by
    show sumTo (fun x => sumC K m fun c => F (cns (x : Int) c)) K = _
    refine sumTo_congr fun x hx => sumC_congr fun c hc => by rw [ins_zero]
  | u + 1, m, F, h => by
    obtain ⟨m, rfl⟩ : ∃ j, m = j + 1 := ⟨m - 1, by omega⟩
    have e1 : sumC K (m + 1 + 1) F = sumTo (fun x => sumTo (fun y => sumC K m fun c => F (cns (x : Int) (ins u (y : Int) c))) K) K := by
      show sumTo (fun x => sumC K (m + 1) fun c => F (cns (x : Int) c)) K = _
      exact sumTo_congr fun x hx => sumC_at (u := u) (by omega)
    rw [e1, sumTo_comm]
    refine sumTo_congr fun y hy => ?_
    show _ = sumTo (fun x => sumC K m fun c => F (ins (u + 1) (y : Int) (cns (x : Int) c))) K
    refine sumTo_congr fun x hx => sumC_congr fun c hc => by rw [ins_cns]
def SS (m : Nat) (w : Nat → Int) (E : Nat → Nat → Int) (c : Nat → Int) : Prop := ∀ S : Nat → Bool, (∃ v, v < m ∧ S v = true) → ∃ v, v < m ∧ S v = true ∧ c v < w v + outE m E S v
noncomputable def b01 (p : Prop) : Int := open Classical in if p then 1 else 0
theorem b01_congr {p q : Prop} (h : p ↔ q) : b01 p = b01 q := by rw [propext h]
theorem b01_no {p : Prop} (h : ¬ p) : b01 p = 0 := by unfold b01; simp [h]
theorem b01_yes {p : Prop} (h : p) : b01 p = 1 := by unfold b01; simp [h]
noncomputable def nSS (K m : Nat) (w : Nat → Int) (E : Nat → Nat → Int) : Int := sumC K m fun c => b01 (SS m w E c)
theorem ss_less {m : Nat} {w : Nat → Int} {E : Nat → Nat → Int} {u : Nat} (x : Int) (c : Nat → Int) : SS m w E (ins u (x + 1) c) ↔ SS m (less1 w u) E (ins u x c) := by
  have e : ∀ S v, (ins u (x + 1) c v < w v + outE m E S v ↔ ins u x c v < less1 w u v + outE m E S v) := fun S v => by
    unfold less1
    by_cases h : v = u
    · subst h; rw [ins_at, ins_at, if_pos rfl]; omega
    · rw [if_neg h]
      unfold ins
      by_cases h1 : v < u
      · rw [if_pos h1, if_pos h1]
      · rw [if_neg h1, if_neg h1, if_neg h, if_neg h]
  unfold SS
  simp only [e]
theorem skp_ex {u v : Nat} (h : v ≠ u) : ∃ v', v = skp u v' := by
  rcases Nat.lt_or_ge v u with g | g
  · exact ⟨v, by unfold skp; rw [if_pos g]⟩
  · exact ⟨v - 1, by unfold skp; rw [if_neg (by omega)]; omega⟩
theorem skp_back {u v m : Nat} (h : skp u v < m + 1) (hu : u < m + 1) : v < m := by unfold skp at h; split at h <;> omega
theorem outE_skp {m : Nat} {E : Nat → Nat → Int} {u : Nat} (hu : u < m + 1) {S : Nat → Bool} (hS : S u = false) (v : Nat) : outE (m + 1) E S (skp u v) = E (skp u v) u + outE m (mn E u u) (fun i => S (skp u i)) v := by
  unfold outE
  rw [sumTo_skp (fun j => if S j = true then 0 else E (skp u v) j) hu]
  rw [if_neg (by rw [hS]; decide)]
  rfl
theorem ss_cut {m : Nat} {w : Nat → Int} {E : Nat → Nat → Int} (h : WG (m + 1) w E) {u : Nat} (hu : u < m + 1) (hw : 1 ≤ w u) (c : Nat → Int) : SS (m + 1) w E (ins u 0 c) ↔ SS m (cw w E u) (mn E u u) c := by
  constructor
  · intro hs S ⟨v, hv, hSv⟩
    obtain ⟨S2, s1, s2⟩ : ∃ S2 : Nat → Bool, S2 u = false ∧ ∀ i, S2 (skp u i) = S i := ⟨fun i => if i < u then S i else if i = u then false else S (i - 1), by simp, fun i => by
      show (if skp u i < u then S (skp u i) else if skp u i = u then false else S (skp u i - 1)) = S i
      unfold skp
      by_cases g : i < u
      · rw [if_pos g, if_pos g]
      · rw [if_neg g, if_neg (by omega), if_neg (by omega)]; rfl⟩
    obtain ⟨v2, h1, h2, h3⟩ := hs S2 ⟨skp u v, skp_lt hv, by rw [s2]; exact hSv⟩
    have hne : v2 ≠ u := fun e => by
      subst e
      rw [s1] at h2
      cases h2
    obtain ⟨v', rfl⟩ := skp_ex hne
    rw [s2] at h2
    refine ⟨v', skp_back h1 hu, h2, ?_⟩
    rw [ins_skp, outE_skp hu s1, funext s2] at h3
    unfold cw
    omega
  · intro hs S ⟨v, hv, hSv⟩
    by_cases hSu : S u = true
    · refine ⟨u, hu, hSu, ?_⟩
      rw [ins_at]
      have : 0 ≤ outE (m + 1) E S u := sumTo_nn fun j hj => by
        have := h.nn u j hu hj
        split <;> omega
      omega
    · have hSu' : S u = false := by simpa using hSu
      have hne : v ≠ u := fun e => by subst e; exact hSu hSv
      obtain ⟨v', rfl⟩ := skp_ex hne
      obtain ⟨x, h1, h2, h3⟩ := hs (fun i => S (skp u i)) ⟨v', skp_back hv hu, hSv⟩
      refine ⟨skp u x, skp_lt h1, h2, ?_⟩
      rw [ins_skp, outE_skp hu hSu']
      unfold cw at h3
      omega
theorem ss_high {m : Nat} {w : Nat → Int} {E : Nat → Nat → Int} (h : WG m w E) {u : Nat} (hu : u < m) {x : Int} (hx : w u + sumTo (fun t => E u t) m ≤ x) (c : Nat → Int) : ¬ SS m w E (ins u x c) := fun hs => by
  obtain ⟨v, h1, h2, h3⟩ := hs (fun i => i == u) ⟨u, hu, by simp⟩
  simp only [beq_iff_eq] at h2
  subst h2
  rw [ins_at] at h3
  have : outE m E (fun i => i == v) v ≤ sumTo (fun t => E v t) m := sumTo_mono fun j hj => by
    have := h.nn v j hu hj
    split <;> omega
  omega
theorem nSS_cut {K m : Nat} {w : Nat → Int} {E : Nat → Nat → Int} (h : WG (m + 1) w E) {u : Nat} (hu : u < m + 1) (hw : 1 ≤ w u) (hK : w u + sumTo (fun t => E u t) (m + 1) ≤ K) :
    nSS K (m + 1) w E = nSS K (m + 1) (less1 w u) E + nSS K m (cw w E u) (mn E u u) := by
  have hs : 0 ≤ sumTo (fun t => E u t) (m + 1) := sumTo_nn fun j hj => h.nn u j hu hj
  obtain ⟨K, rfl⟩ : ∃ j, K = j + 1 := ⟨K - 1, by omega⟩
  unfold nSS
  rw [sumC_at (m := m) (F := fun c => b01 (SS (m + 1) w E c)) hu, sumC_at (m := m) (F := fun c => b01 (SS (m + 1) (less1 w u) E c)) hu, sumTo_front']
  have e0 : sumC (K + 1) m (fun c => b01 (SS (m + 1) w E (ins u ((0 : Nat) : Int) c))) = sumC (K + 1) m (fun c => b01 (SS m (cw w E u) (mn E u u) c)) := sumC_congr fun c _ => b01_congr (ss_cut h hu hw c)
  have e1 : sumTo (fun x => sumC (K + 1) m (fun c => b01 (SS (m + 1) w E (ins u ((x + 1 : Nat) : Int) c)))) K = sumTo (fun x => sumC (K + 1) m (fun c => b01 (SS (m + 1) (less1 w u) E (ins u (x : Int) c)))) K := sumTo_congr fun x _ => sumC_congr fun c _ => b01_congr (by rw [Int.natCast_add]; exact ss_less x c)
  have e2 : sumC (K + 1) m (fun c => b01 (SS (m + 1) (less1 w u) E (ins u (K : Int) c))) = 0 := by
    have e3 : ∀ m, sumC (K + 1) m (fun _ => 0) = 0 := fun m => by
      induction m with
      | zero => rfl
      | succ m ih =>
        show sumTo (fun _ => sumC (K + 1) m fun _ => 0) (K + 1) = 0
        rw [ih, sumTo_zero]
    rw [← e3 m]
    refine sumC_congr fun c _ => b01_no (ss_high (h.less hw) hu ?_ c)
    unfold less1
    rw [if_pos rfl]
    omega
  rw [e0, e1]
  have e4 : sumTo (fun x => sumC (K + 1) m (fun c => b01 (SS (m + 1) (less1 w u) E (ins u (x : Int) c)))) (K + 1) = sumTo (fun x => sumC (K + 1) m (fun c => b01 (SS (m + 1) (less1 w u) E (ins u (x : Int) c)))) K + sumC (K + 1) m (fun c => b01 (SS (m + 1) (less1 w u) E (ins u (K : Int) c))) := rfl
  rw [e4, e2]
  omega
theorem nSS_noroot {K m : Nat} {w : Nat → Int} {E : Nat → Nat → Int} (hw : ∀ v, v < m + 1 → w v = 0) : nSS K (m + 1) w E = 0 := by
  have e3 : ∀ m, sumC K m (fun _ => 0) = 0 := fun m => by
    induction m with
    | zero => rfl
    | succ m ih =>
      show sumTo (fun _ => sumC K m fun _ => 0) K = 0
      rw [ih, sumTo_zero]
  rw [← e3 (m + 1)]
  refine sumC_congr fun c hc => b01_no fun hs => ?_
  obtain ⟨v, h1, -, h3⟩ := hs (fun _ => true) ⟨0, by omega, rfl⟩
  have e : outE (m + 1) E (fun _ => true) v = 0 := by
    unfold outE
    simp only [if_true]
    exact sumTo_zero _
  rw [e, hw v h1] at h3
  have := hc v
  omega
theorem det_nSS (K : Nat) : ∀ (m : Nat) (t : Nat) {w : Nat → Int} {E : Nat → Nat → Int}, WG m w E → (∀ v, v < m → w v + sumTo (fun t => E v t) m ≤ K) → sumTo w m = t → det m (lap m w E) = nSS K m w E
  | 0, _, w, E, _, _, _ => (b01_yes fun S ⟨v, hv, _⟩ => by omega).symm
  | m + 1, t, w, E, h, hK, ht => by
    by_cases hz : ∀ v, v < m + 1 → w v = 0
    · rw [det_noroot h hz, nSS_noroot hz]
    · obtain ⟨u, hu, hw⟩ : ∃ u, u < m + 1 ∧ 1 ≤ w u := by
        apply Classical.byContradiction
        intro hno
        refine hz fun v hv => ?_
        have := h.w0 v hv
        apply Classical.byContradiction
        intro hne
        exact hno ⟨v, hv, by omega⟩
      have hpos := sumTo_term h.w0 hu
      obtain ⟨t, rfl⟩ : ∃ j, t = j + 1 := ⟨t - 1, by omega⟩
      have hc := h.cut hu
      have hl := h.less hw
      have hs : sumTo (less1 w u) (m + 1) = t := by
        have e : sumTo (less1 w u) (m + 1) = sumTo (fun i => w i + (if (i : Int) = (u : Int) then -1 else 0)) (m + 1) := sumTo_congr fun i hi => by
          unfold less1
          by_cases e : i = u
          · rw [if_pos e, if_pos (by omega)]; omega
          · rw [if_neg e, if_neg (by omega)]; omega
        rw [e, sumTo_add, sumTo_unit, if_pos hu]
        omega
      have hcs := sumTo_nn hc.w0
      rw [det_cut hu, nSS_cut h hu hw (hK u hu), det_nSS K (m + 1) t hl (fun v hv => by
        have := hK v hv
        unfold less1
        split <;> omega) hs, det_nSS K m (sumTo (cw w E u) m).toNat hc (fun v hv => by
        have := hK (skp u v) (skp_lt hv)
        rw [sumTo_skp (fun t => E (skp u v) t) hu] at this
        show w (skp u v) + E (skp u v) u + sumTo (fun t => E (skp u v) (skp u t)) m ≤ K
        omega) (by omega)]
  termination_by m t => (m, t)
set_option maxHeartbeats 1000000
theorem deg_le {n : Nat} {E : Nat → Nat → Int} (g : Gr n E) {i : Nat} (hi : i < n) : deg n E i ≤ n * 3 := by
  have b := sumTo_le (f := fun j => E i j) (M := 3) (n := n) fun j hj => by have := g.nn i j hi hj; have := g.le i j hi hj; omega
  unfold deg
  omega
def ind (S : Nat → Bool) (j : Nat) : Int := if S j = true then 1 else 0
theorem net_ind {n : Nat} {E : Nat → Nat → Int} {S : Nat → Bool} {v : Nat} (h : S v = true) : net n E (ind S) v = outE n E S v := by
  unfold net outE
  refine sumTo_congr fun j _ => ?_
  unfold ind
  rw [if_pos h]
  cases S j <;> simp
theorem net_ind_out {n : Nat} {E : Nat → Nat → Int} (g : Gr n E) {S : Nat → Bool} {v : Nat} (hv : v < n) (h : S v = false) : net n E (ind S) v ≤ 0 := by
  rw [show (0 : Int) = sumTo (fun _ => 0) n from (sumTo_zero n).symm]
  unfold net
  refine sumTo_mono fun j hj => ?_
  have := g.nn v j hv hj
  have e : ind S v = 0 := by unfold ind; rw [h]; rfl
  rw [e]
  unfold ind
  split <;> omega
def Leg (n : Nat) (E : Nat → Nat → Int) (c : Nat → Int) (S : Nat → Bool) : Prop := ∀ v, v < n → S v = true → outE n E S v ≤ c v
theorem leg_fire {n : Nat} {E : Nat → Nat → Int} (g : Gr n E) {q : Nat} {c : Nat → Int} {S : Nat → Bool} (h : Leg n E c S) (hc : ∀ v, v < n → v ≠ q → 0 ≤ c v) : ∀ v, v < n → v ≠ q → 0 ≤ ap n E c (ind S) v := fun v hv hvq => by
  unfold ap
  cases hs : S v with
  | true => rw [net_ind hs]; have := h v hv hs; omega
  | false => have := net_ind_out g hv hs; have := hc v hv hvq; omega
theorem leg_pot {n : Nat} {E : Nat → Nat → Int} (g : Gr n E) {q : Nat} {D : Nat → Int} (d : Dst n E q D) {c : Nat → Int} {S : Nat → Bool} (hq : S q = false) {v : Nat} (hv : v < n) (hs : S v = true) : pot n D (ap n E c (ind S)) < pot n D c := by
  have a := pot_ap g d c (ind S) (fun w _ => by unfold ind; split <;> omega) (by unfold ind; rw [hq]; rfl)
  have b := sumTo_term (f := ind S) (n := n) (k := v) (fun w _ => by unfold ind; split <;> omega) hv
  have e : ind S v = 1 := by unfold ind; rw [hs]; rfl
  omega
theorem not_red {n : Nat} {E : Nat → Nat → Int} {q : Nat} {c : Nat → Int} (hc : ∀ v, v < n → v ≠ q → 0 ≤ c v) (h : ¬ Red n E q c) : ∃ S : Nat → Bool, S q = false ∧ (∃ v, v < n ∧ S v = true) ∧ Leg n E c S := by
  apply Classical.byContradiction
  intro hn
  refine h ⟨hc, fun S hS hex => Classical.byContradiction fun h2 => hn ⟨S, hS, hex, fun v hv hs => ?_⟩⟩
  exact Classical.byContradiction fun h3 => h2 ⟨v, hv, hs, by omega⟩
theorem red_of {n : Nat} {E : Nat → Nat → Int} (g : Gr n E) {q : Nat} {D : Nat → Int} (d : Dst n E q D) (c : Nat → Int) : ∀ N : Nat, ∀ t : Nat → Int, (∀ v, v < n → v ≠ q → 0 ≤ ap n E c t v) → pot n D (ap n E c t) < N → ∃ t : Nat → Int, Red n E q (ap n E c t)
  | 0, t, ht, hp => by have := pot_nn d ht; omega
  | N + 1, t, ht, hp => by
    by_cases hr : Red n E q (ap n E c t)
    · exact ⟨t, hr⟩
    · obtain ⟨S, hS, ⟨v, hv, hs⟩, hl⟩ := not_red ht hr
      have h1 := leg_fire g hl ht
      have h2 := leg_pot g d (c := ap n E c t) hS hv hs
      have e : ap n E (ap n E c t) (ind S) = ap n E c (fun j => t j + ind S j) := funext fun i => ap_ap n E c t _ i
      rw [e] at h1 h2
      exact red_of g d c N _ h1 (by omega)
def ceilI (a c : Int) : Int := if a ≤ 0 then 0 else (a + c - 1) / c
theorem ceilI_ge {a c : Int} (hc : 1 ≤ c) : a ≤ ceilI a c * c := by
  unfold ceilI
  split
  · omega
  · have h1 := Int.emod_add_mul_ediv (a + c - 1) c
    have h2 := Int.emod_lt_of_pos (a + c - 1) (show 0 < c by omega)
    have h3 : (a + c - 1) / c * c = c * ((a + c - 1) / c) := Int.mul_comm _ _
    omega
theorem ceilI_le {a c : Int} (hc : 1 ≤ c) (ha : 0 ≤ a) : ceilI a c ≤ a := by
  unfold ceilI
  split
  · exact ha
  · have h1 : (a + c - 1) / c * 1 ≤ (a + c - 1) / c * c := Int.mul_le_mul_of_nonneg_left hc (Int.ediv_nonneg (by omega) (by omega))
    have h2 : (a + c - 1) / c ≤ a := by
      have : (a + c - 1) / c < a + 1 := Int.ediv_lt_of_lt_mul (by omega) (by
        rw [Int.add_mul, Int.one_mul]
        have : a * 1 ≤ a * c := Int.mul_le_mul_of_nonneg_left hc ha
        have h4 : (a - 1) * 1 ≤ (a - 1) * c := Int.mul_le_mul_of_nonneg_left hc (by omega)
        rw [Int.sub_mul] at h4
        omega)
      omega
    exact h2
def getsN (n : Nat) (E : Nat → Nat → Int) (D : Nat → Int) (d : Int) (v : Nat) : Int := sumTo (fun u => if D u < d then E v u else 0) n
def nearS (D : Nat → Int) (d T : Int) (j : Nat) : Int := if D j < d then T else 0
theorem net_near {n : Nat} {E : Nat → Nat → Int} {D : Nat → Int} {d T : Int} {v : Nat} (h : ¬ D v < d) : net n E (nearS D d T) v = - (T * getsN n E D d v) := by
  unfold net getsN
  rw [sumTo_mul, ← sumTo_neg]
  refine sumTo_congr fun j _ => ?_
  unfold nearS
  rw [if_neg h]
  split
  · rw [Int.zero_sub, Int.mul_neg, Int.mul_comm]
  · simp
theorem gets_pos {n : Nat} {E : Nat → Nat → Int} (g : Gr n E) {q : Nat} {D : Nat → Int} (d : Dst n E q D) {v : Nat} (hv : v < n) (hvq : v ≠ q) : 1 ≤ getsN n E D (D v) v := by
  obtain ⟨u, hu, he, hlt⟩ := d.near v hv hvq
  have := sumTo_term (f := fun u => if D u < D v then E v u else 0) (n := n) (k := u) (fun j hj => by
    have := g.nn v j hv hj
    try dsimp only
    split <;> omega) hu
  try dsimp only at this
  rw [if_pos hlt] at this
  unfold getsN
  omega
theorem gets_nn {n : Nat} {E : Nat → Nat → Int} (g : Gr n E) {D : Nat → Int} {d : Int} {v : Nat} (hv : v < n) : 0 ≤ getsN n E D d v ∧ getsN n E D d v ≤ n * 3 := by
  have a := sumTo_nn (f := fun u => if D u < d then E v u else 0) (n := n) fun j hj => by
    have := g.nn v j hv hj
    try dsimp only
    split <;> omega
  have b := sumTo_le (f := fun u => if D u < d then E v u else 0) (M := 3) (n := n) fun j hj => by
    have := g.nn v j hv hj
    have := g.le v j hv hj
    try dsimp only
    split <;> omega
  unfold getsN
  omega
def tms (n : Nat) (E : Nat → Nat → Int) (D : Nat → Int) (c : Nat → Int) (d : Int) : Nat → Int
  | 0 => 0
  | k + 1 => if D k = d then (if ceilI (- c k) (getsN n E D d k) > tms n E D c d k then ceilI (- c k) (getsN n E D d k) else tms n E D c d k) else tms n E D c d k
theorem tms_nn {n : Nat} {E : Nat → Nat → Int} {D c : Nat → Int} {d : Int} : ∀ k, 0 ≤ tms n E D c d k
  | 0 => Int.le_refl _
  | k + 1 => by
    have := tms_nn (n := n) (E := E) (D := D) (c := c) (d := d) k
    simp only [tms]
    split
    · split <;> omega
    · exact this
theorem tms_ge {n : Nat} {E : Nat → Nat → Int} {D c : Nat → Int} {d : Int} : ∀ {k v : Nat}, v < k → D v = d → ceilI (- c v) (getsN n E D d v) ≤ tms n E D c d k
  | k + 1, v, hv, hd => by
    simp only [tms]
    by_cases e : v = k
    · subst e
      rw [if_pos hd]
      split <;> omega
    · have := tms_ge (n := n) (E := E) (D := D) (c := c) (d := d) (show v < k by omega) hd
      split
      · split <;> omega
      · exact this
theorem tms_le {n : Nat} {E : Nat → Nat → Int} {D c : Nat → Int} {d B : Int} (hB : 0 ≤ B) : ∀ {k : Nat}, (∀ v, v < k → D v = d → ceilI (- c v) (getsN n E D d v) ≤ B) → tms n E D c d k ≤ B
  | 0, _ => hB
  | k + 1, h => by
    have := tms_le (n := n) (E := E) (D := D) (c := c) (d := d) hB (k := k) fun v hv hd => h v (by omega) hd
    simp only [tms]
    split
    · rename_i e
      have := h k (by omega) e
      split <;> omega
    · exact this
def payF (n : Nat) (E : Nat → Nat → Int) (D l : Nat → Int) : Nat → (Nat → Int) → (Nat → Int)
  | 0, t => t
  | d + 1, t => payF n E D l d (fun j => t j + nearS D ((d + 1 : Nat) : Int) (tms n E D (ap n E l t) ((d + 1 : Nat) : Int) n) j)
structure PayOk (n : Nat) (E : Nat → Nat → Int) (D l : Nat → Int) (d : Nat) (B : Int) (t : Nat → Int) : Prop where
  paid : ∀ v, v < n → (d : Int) < D v → 0 ≤ ap n E l t v
  nn : ∀ v, v < n → 0 ≤ t v ∧ t v ≤ B
theorem ap_low {n : Nat} {E : Nat → Nat → Int} (g : Gr n E) {l t : Nat → Int} {B : Int} (h : ∀ v, v < n → 0 ≤ t v ∧ t v ≤ B) (hB : 0 ≤ B) {v : Nat} (hv : v < n) : l v - B * (n * 3) ≤ ap n E l t v ∧ ap n E l t v ≤ l v + B * (n * 3) := by
  have hd := deg_le g hv
  have h1 : net n E t v ≤ B * deg n E v := by
    unfold net deg
    rw [sumTo_mul]
    refine sumTo_mono fun j hj => ?_
    have h2 := h v hv
    have h3 := h j hj
    rw [Int.mul_comm B]
    exact Int.mul_le_mul_of_nonneg_left (by omega) (g.nn v j hv hj)
  have h4 : -(B * deg n E v) ≤ net n E t v := by
    unfold net deg
    rw [sumTo_mul, ← sumTo_neg]
    refine sumTo_mono fun j hj => ?_
    have h2 := h v hv
    have h3 := h j hj
    rw [Int.mul_comm B, ← Int.mul_neg]
    exact Int.mul_le_mul_of_nonneg_left (by omega) (g.nn v j hv hj)
  have h5 : B * deg n E v ≤ B * (n * 3) := Int.mul_le_mul_of_nonneg_left hd hB
  unfold ap
  omega
theorem PayOk.step {n : Nat} {E : Nat → Nat → Int} (g : Gr n E) {q : Nat} {D : Nat → Int} (hd : Dst n E q D) {l t : Nat → Int} {d : Nat} {B M : Int} (hB : 0 ≤ B) (hM : 0 ≤ M) (hl : ∀ v, v < n → v ≠ q → -M ≤ l v) (h : PayOk n E D l (d + 1) B t) :
    0 ≤ tms n E D (ap n E l t) ((d + 1 : Nat) : Int) n ∧ tms n E D (ap n E l t) ((d + 1 : Nat) : Int) n ≤ M + B * (n * 3) ∧
    PayOk n E D l d (M + B * (n * 3) + B) (fun j => t j + nearS D ((d + 1 : Nat) : Int) (tms n E D (ap n E l t) ((d + 1 : Nat) : Int) n) j) := by
  have hnB : 0 ≤ B * ((n : Int) * 3) := Int.mul_nonneg hB (by omega)
  have hT0 := tms_nn (n := n) (E := E) (D := D) (c := ap n E l t) (d := ((d + 1 : Nat) : Int)) n
  have hvq : ∀ v, v < n → D v = ((d + 1 : Nat) : Int) → v ≠ q := fun v hv e e2 => by subst e2; rw [hd.zero] at e; omega
  have hT1 : tms n E D (ap n E l t) ((d + 1 : Nat) : Int) n ≤ M + B * (n * 3) := tms_le (by omega) fun v hv e => by
    have hg := gets_pos g hd hv (hvq v hv e)
    rw [e] at hg
    have a := (ap_low g (l := l) h.nn hB hv).1
    have b := hl v hv (hvq v hv e)
    by_cases hc : 0 ≤ - ap n E l t v
    · have := ceilI_le hg hc; omega
    · have : ceilI (- ap n E l t v) (getsN n E D ((d + 1 : Nat) : Int) v) = 0 := by unfold ceilI; rw [if_pos (by omega)]
      omega
  refine ⟨hT0, hT1, fun v hv hdv => ?_, fun v hv => ?_⟩
  · generalize hTT : tms n E D (ap n E l t) ((d + 1 : Nat) : Int) n = T at *
    have e : ap n E l (fun j => t j + nearS D ((d + 1 : Nat) : Int) T j) v = ap n E l t v + T * getsN n E D ((d + 1 : Nat) : Int) v := by
      unfold ap
      rw [net_add, net_near (by omega)]
      omega
    rw [e]
    have hg0 := (gets_nn g (D := D) (d := ((d + 1 : Nat) : Int)) hv).1
    by_cases e2 : D v = ((d + 1 : Nat) : Int)
    · have hg := gets_pos g hd hv (hvq v hv e2)
      rw [e2] at hg
      have h1 := tms_ge (n := n) (E := E) (D := D) (c := ap n E l t) hv e2
      rw [hTT] at h1
      have h2 := ceilI_ge (a := - ap n E l t v) hg
      have h3 := Int.mul_le_mul_of_nonneg_right h1 hg0
      omega
    · have h1 := h.paid v hv (by omega)
      have := Int.mul_nonneg hT0 hg0
      omega
  · have := h.nn v hv
    unfold nearS
    split <;> omega
def payB (n : Nat) (M : Int) : Nat → Int
  | 0 => 0
  | k + 1 => M + payB n M k * (n * 3) + payB n M k
theorem payB_nn {n : Nat} {M : Int} (hM : 0 ≤ M) : ∀ k, 0 ≤ payB n M k
  | 0 => Int.le_refl _
  | k + 1 => by
    have := payB_nn (n := n) hM k
    have := Int.mul_nonneg this (show 0 ≤ (n : Int) * 3 by omega)
    simp only [payB]
    omega
theorem payF_ok {n : Nat} {E : Nat → Nat → Int} (g : Gr n E) {q : Nat} {D : Nat → Int} (hd : Dst n E q D) {l : Nat → Int} {M : Int} (hM : 0 ≤ M) (hl : ∀ v, v < n → v ≠ q → -M ≤ l v) : ∀ (d k : Nat) (t : Nat → Int), PayOk n E D l d (payB n M k) t → PayOk n E D l 0 (payB n M (k + d)) (payF n E D l d t)
  | 0, k, t, h => h
  | d + 1, k, t, h => by
    obtain ⟨_, _, s⟩ := h.step g hd (payB_nn hM k) hM hl
    have e : k + (d + 1) = k + 1 + d := by omega
    rw [e]
    simp only [payF]
    exact payF_ok g hd hM hl d (k + 1) _ s
theorem red_ex {n : Nat} {E : Nat → Nat → Int} (g : Gr n E) {q : Nat} {D : Nat → Int} (hd : Dst n E q D) (l : Nat → Int) : ∃ t : Nat → Int, t q = 0 ∧ Red n E q (ap n E l t) := by
  obtain ⟨M, hM, hl⟩ : ∃ M : Int, 0 ≤ M ∧ ∀ v, v < n → v ≠ q → -M ≤ l v := by
    by_cases hn : 0 < n
    · obtain ⟨w, _, hw⟩ := ex_max (fun v => - l v) hn
      refine ⟨if 0 ≤ - l w then - l w else 0, by split <;> omega, fun v hv _ => ?_⟩
      have := hw v hv
      try dsimp only at this
      split <;> omega
    · exact ⟨0, by omega, fun v hv => by omega⟩
  have h0 : PayOk n E D l n (payB n M 0) (fun _ => 0) := ⟨fun v hv h => by have := hd.le v hv; omega, fun v hv => by simp [payB]⟩
  have h1 := payF_ok g hd hM hl n 0 _ h0
  have h2 : ∀ v, v < n → v ≠ q → 0 ≤ ap n E l (payF n E D l n (fun _ => 0)) v := fun v hv hvq => h1.paid v hv (by have := hd.pos v hv hvq; omega)
  obtain ⟨t, ht⟩ := red_of g hd l _ _ h2 (show _ < (((pot n D (ap n E l (payF n E D l n (fun _ => 0)))).toNat + 1 : Nat) : Int) by omega)
  refine ⟨fun j => t j + (- t q), (by show t q + - t q = 0; omega), ?_⟩
  have e : ap n E l (fun j => t j + (- t q)) = ap n E l t := funext fun i => by unfold ap; rw [net_add, net_const]; omega
  rw [e]; exact ht
noncomputable def redT (b : List (List Int)) (l : List Int) (q : Nat) : List Int :=
  open Classical in if h : ∃ t : List Int, t.length = b.length ∧ gf t q = 0 ∧ Red b.length (ed b) q (ap b.length (ed b) (gf l) (gf t)) then Classical.choose h else []
theorem Red.congr {n : Nat} {E : Nat → Nat → Int} {q : Nat} {c c' : Nat → Int} (h : Red n E q c) (e : ∀ v, v < n → c v = c' v) : Red n E q c' :=
  ⟨fun v hv hvq => by rw [← e v hv]; exact h.1 v hv hvq, fun S hS hex => by
    obtain ⟨v, hv, hs, hlt⟩ := h.2 S hS hex
    exact ⟨v, hv, hs, by rw [← e v hv]; exact hlt⟩⟩
theorem redT_ok {b : List (List Int)} (hB : IsB b) (l : List Int) {q : Nat} (hq : q < b.length) : (redT b l q).length = b.length ∧ gf (redT b l q) q = 0 ∧ Red b.length (ed b) q (ap b.length (ed b) (gf l) (gf (redT b l q))) := by
  have hex : ∃ t : List Int, t.length = b.length ∧ gf t q = 0 ∧ Red b.length (ed b) q (ap b.length (ed b) (gf l) (gf t)) := by
    obtain ⟨t, h0, h1⟩ := red_ex (gr_of hB) (dist_dst hB hq) (gf l)
    have hg : ∀ j, j < b.length → t j = gf ((List.range b.length).map t) j := fun j hj => by unfold gf; rw [getI_nat]; simp [List.getD, hj]
    exact ⟨(List.range b.length).map t, by simp, by rw [← hg q hq]; exact h0, h1.congr fun v hv => ap_congr hv hg rfl⟩
  unfold redT
  rw [dif_pos hex]
  exact Classical.choose_spec hex
set_option maxHeartbeats 8000000
noncomputable def redL (b : List (List Int)) (l : List Int) (q : Nat) : List Int := apl b l (redT b l q)
theorem redL_red {b : List (List Int)} (hB : IsB b) (l : List Int) {q : Nat} (hq : q < b.length) : Red b.length (ed b) q (gf (redL b l q)) := (redT_ok hB l hq).2.2.congr fun v hv => (apl_ap hB l _ hv).symm
set_option maxHeartbeats 2000000
def lsum : List Int → Int
  | [] => 0
  | a :: l => a + lsum l
theorem lsum_append : ∀ (a c : List Int), lsum (a ++ c) = lsum a + lsum c
  | [], c => by simp [lsum]
  | x :: a, c => by show x + lsum (a ++ c) = x + lsum a + lsum c; rw [lsum_append a c]; omega
theorem lsum_congr {α : Type} {f g : α → Int} : ∀ {l : List α}, (∀ a ∈ l, f a = g a) → lsum (l.map f) = lsum (l.map g)
  | [], _ => rfl
  | a :: l, h => by
    show f a + lsum (l.map f) = g a + lsum (l.map g)
    rw [h a List.mem_cons_self, lsum_congr fun x hx => h x (List.mem_cons_of_mem _ hx)]
def allC (K : Nat) : Nat → List (List Int)
  | 0 => [[]]
  | m + 1 => (List.range K).flatMap fun (x : Nat) => (allC K m).map fun l => (x : Int) :: l
theorem mem_allC {K : Nat} : ∀ {m : Nat} {l : List Int}, l ∈ allC K m ↔ l.length = m ∧ ∀ x ∈ l, 0 ≤ x ∧ x < K
  | 0, l => by
    unfold allC
    constructor
    · intro h
      obtain rfl : l = [] := by simpa using h
      exact ⟨rfl, fun x hx => by cases hx⟩
    · rintro ⟨h, -⟩
      have : l = [] := List.length_eq_zero_iff.1 h
      simp [this]
  | m + 1, l => by
    unfold allC
    rw [List.mem_flatMap]
    constructor
    · rintro ⟨x, hx, h⟩
      obtain ⟨r, hr, rfl⟩ := List.mem_map.1 h
      obtain ⟨h1, h2⟩ := mem_allC.1 hr
      have := List.mem_range.1 hx
      refine ⟨by simp [h1], fun y hy => ?_⟩
      rcases List.mem_cons.1 hy with rfl | hy
      · omega
      · exact h2 y hy
    · rintro ⟨h1, h2⟩
      cases l with
      | nil => simp at h1
      | cons a r =>
        have ha := h2 a List.mem_cons_self
        refine ⟨a.toNat, List.mem_range.2 (by omega), List.mem_map.2 ⟨r, mem_allC.2 ⟨by simpa using h1, fun x hx => h2 x (List.mem_cons_of_mem _ hx)⟩, ?_⟩⟩
        rw [Int.toNat_of_nonneg ha.1]
theorem gf_cons (x : Int) (l : List Int) : gf (x :: l) = cns x (gf l) := by
  funext i
  cases i with
  | zero =>
    show getI (x :: l) ((0 : Nat) : Int) = x
    rw [getI_nat]; rfl
  | succ i =>
    show getI (x :: l) ((i + 1 : Nat) : Int) = getI l (i : Int)
    rw [getI_nat, getI_nat]
    rfl
theorem lsum_flat {α : Type} (f : List Int → Int) (g : α → List (List Int)) : ∀ l : List α, lsum ((l.flatMap g).map f) = lsum (l.map fun a => lsum ((g a).map f))
  | [] => rfl
  | a :: l => by
    rw [List.flatMap_cons, List.map_append, lsum_append, lsum_flat f g l]
    rfl
theorem lsum_range (F : Nat → Int) : ∀ n, lsum ((List.range n).map F) = sumTo F n
  | 0 => rfl
  | n + 1 => by
    rw [List.range_succ, List.map_append, lsum_append, lsum_range F n]
    show _ + (F n + 0) = sumTo F n + F n
    omega
theorem sumC_list {K : Nat} : ∀ {m : Nat} (F : (Nat → Int) → Int), sumC K m F = lsum ((allC K m).map fun l => F (gf l))
  | 0, F => by
    have e : gf [] = fun _ => 0 := by
      funext i
      show getI [] (i : Int) = 0
      rw [getI_nat]; rfl
    show F (fun _ => 0) = F (gf []) + 0
    rw [e]; omega
  | m + 1, F => by
    unfold allC sumC
    rw [lsum_flat, lsum_range]
    refine sumTo_congr fun x hx => ?_
    rw [sumC_list, List.map_map]
    refine lsum_congr fun l _ => ?_
    show F (cns (x : Int) (gf l)) = F (gf ((x : Int) :: l))
    rw [gf_cons]
noncomputable def ssL (K m : Nat) (w : Nat → Int) (E : Nat → Nat → Int) : List (List Int) := open Classical in (allC K m).filter fun l => decide (SS m w E (gf l))
theorem mem_ssL {K m : Nat} {w : Nat → Int} {E : Nat → Nat → Int} {l : List Int} : l ∈ ssL K m w E ↔ (l.length = m ∧ ∀ x ∈ l, 0 ≤ x ∧ x < K) ∧ SS m w E (gf l) := by
  unfold ssL
  rw [List.mem_filter, mem_allC]
  simp
theorem len_ssL (K m : Nat) (w : Nat → Int) (E : Nat → Nat → Int) : nSS K m w E = ((ssL K m w E).length : Int) := by
  unfold nSS ssL
  rw [sumC_list]
  generalize allC K m = L
  induction L with
  | nil => rfl
  | cons a L ih =>
    show b01 (SS m w E (gf a)) + lsum (L.map fun l => b01 (SS m w E (gf l))) = _
    rw [ih]
    by_cases h : SS m w E (gf a)
    · rw [b01_yes h]
      simp [List.filter_cons, h]
      omega
    · rw [b01_no h]
      simp [List.filter_cons, h]
set_option maxHeartbeats 8000000
theorem p_quo {H : Heap} {a c : Int} (ha : 0 ≤ a ∧ a < 4611686018427387904) (hc : 0 < c) : evP H (.bin .quo) [.int .i64 a, .int .i64 c] = some (.int .i64 (a / c)) := by
  have h1 : a.tdiv c = a / c := Int.tdiv_eq_ediv_of_nonneg ha.1
  have h2 : 0 ≤ a / c := Int.ediv_nonneg ha.1 (by omega)
  have h3 : a / c ≤ a := Int.ediv_le_self c ha.1
  simp only [evP, binV, isShift, binInt]
  rw [if_neg (show ¬ c = 0 by omega), h1, show IntKind.i64.wrap (a / c) = a / c from wrapI (by omega)]
  rfl
set_option maxHeartbeats 8000000
theorem PayOk.congr {n : Nat} {E : Nat → Nat → Int} {D l : Nat → Int} {d : Nat} {B : Int} {t t' : Nat → Int} (h : PayOk n E D l d B t) (e : ∀ j, j < n → t j = t' j) : PayOk n E D l d B t' :=
  ⟨fun v hv hd => by rw [← ap_congr hv e rfl]; exact h.paid v hv hd, fun v hv => by rw [← e v hv]; exact h.nn v hv⟩
attribute [local go_sem] gc subHeap reach_skip ren_free reach_new reach_newp reach_end rangeL roots boxCells nodupB posOf renL AV.ren pickO renH renO looks look bindEnv envOf reach_int reach_bool reach_nilS reach_rd putRow cells_sl cells_int cells_bool cells_nilS cells_rd cells_agg reach_agg reach_tup idFreeL idf_sl idf_ptr idf_int idf_bool idf_nilS idf_rd reach_fn reach_mp cells_fn cells_ptr cells_mp idf_mp idf_fn idf_agg idf_tup
set_option maxHeartbeats 8000000
structure Near (n q : Nat) (l : List Int) : Prop where
  len : l.length = n
  oth : ∀ v : Nat, v < n → v ≠ q → -100 ≤ getI l (v : Int) ∧ getI l (v : Int) ≤ 100
  own : -1125899906842624 ≤ getI l (q : Int) ∧ getI l (q : Int) ≤ 1125899906842624
theorem Near.all {n q : Nat} {l : List Int} (h : Near n q l) : ∀ v : Nat, v < n → -1125899906842624 ≤ getI l (v : Int) ∧ getI l (v : Int) ≤ 1125899906842624 := fun v hv => by
  by_cases e : v = q
  · subst e; exact h.own
  · have := h.oth v hv e; omega
set_option maxHeartbeats 8000000
theorem awakeN {m : Nat} (hm : 60000 ≤ m) (H : Heap) : callPure (evF tab it m) true 25 [] H = some (.bool true, H) :=
  callPure_free rfl (by simp) (evF_mono hm _ _ _ _ awake) rfl
theorem T23 : T 23 = some ⟨.slice 3, 1, 24, [.nilS]⟩ := rfl
theorem T3 : T 3 = some ⟨.int .i64, 1, 8, [.int .i64 0]⟩ := rfl
theorem T22 : T 22 = some ⟨.slice 23, 1, 24, [.nilS]⟩ := rfl
theorem take1 {l : List AV} {i : Nat} (h : i < l.length) : (l.drop i).take 1 = [l.getD i .undef] := by
  rw [List.drop_eq_getElem_cons h]
  simp only [List.take_succ_cons, List.take_zero, List.getD, List.getElem?_eq_getElem h, Option.getD_some]
theorem ints_of : ∀ (cs : List AV), (∀ i, i < cs.length → ∃ n : Int, cs.getD i .undef = .int .i64 n) → ∃ l, cs = iL l
  | [], _ => ⟨[], rfl⟩
  | c :: cs, h => by
    obtain ⟨n, hn⟩ := h 0 (by simp)
    obtain ⟨l, rfl⟩ := ints_of cs fun i hi => by simpa using h (i + 1) (by simpa using hi)
    simp at hn
    exact ⟨n :: l, by simp [iL, hn]⟩
theorem ty_int {k : Nat} {cs : List AV} (h : TyAV T k 3 cs) : ∃ n : Int, cs = [.int .i64 n] ∧ (Lit.int .i64 n).wf = true := by
  cases k with
  | zero => exact h.elim
  | succ k =>
    obtain ⟨s, hs, hm⟩ := h
    rw [T3] at hs; cases hs
    exact hm
theorem ty_intsB {k : Nat} {cs : List AV} (h : TyAV T k 23 cs) : ∃ x l, cs = [x] ∧ IsL x l ∧ l.length < 2 ^ 63 := by
  cases k with
  | zero => exact h.elim
  | succ k =>
    obtain ⟨s, hs, hm⟩ := h
    rw [T23] at hs; cases hs
    rcases hm with rfl | ⟨len, cells, se, h1, rfl, h3, h5, h4⟩
    · exact ⟨_, [], rfl, .nil, by simp⟩
    · rw [T3] at h1; cases h1
      simp only [Nat.mul_one] at h3 h4
      obtain ⟨l, rfl⟩ := ints_of cells fun i hi => by
        obtain ⟨n, hn, -⟩ := ty_int (h4 i (by omega))
        rw [take1 hi] at hn
        exact ⟨n, by simpa using hn⟩
      rw [iL_len] at h3
      subst h3
      exact ⟨_, l, rfl, .rd l, h5⟩
theorem ty_ints {k : Nat} {cs : List AV} (h : TyAV T k 23 cs) : ∃ x l, cs = [x] ∧ IsL x l := by
  obtain ⟨x, l, h1, h2, -⟩ := ty_intsB h
  exact ⟨x, l, h1, h2⟩
set_option maxHeartbeats 4000000
def brn (b : List (List Int)) (ord : List Nat) (v : Nat) : Int := sumTo (fun j => getI (getLL b (v : Int)) (getI (nI ord) (j : Int))) ord.length
def bP (b : List (List Int)) (l : List Int) (ord : List Nat) (v : Nat) : Bool := !ord.contains v && decide (getI l (v : Int) < brn b ord v)
structure BrnOk (b : List (List Int)) (l : List Int) (q : Nat) (ord : List Nat) : Prop where
  nd : ord.Nodup
  lt : ∀ v ∈ ord, v < b.length
  hd : ord[0]? = some q
  low : ∀ k : Nat, 0 < k → (h : k < ord.length) → getI l ((ord[k] : Nat) : Int) < brn b (ord.take k) ord[k]
theorem BrnOk.init {b : List (List Int)} {l : List Int} {q : Nat} (hq : q < b.length) : BrnOk b l q [q] :=
  ⟨by simp, by simpa using hq, rfl, fun k h1 h2 => by simp at h2; omega⟩
theorem BrnOk.step {b : List (List Int)} {l : List Int} {q : Nat} {ord : List Nat} (h : BrnOk b l q ord) {v : Nat} (hv : v < b.length) (hp : bP b l ord v = true) : BrnOk b l q (ord ++ [v]) := by
  simp only [bP, Bool.and_eq_true, Bool.not_eq_true', decide_eq_true_eq] at hp
  obtain ⟨h1, h2⟩ := hp
  have hm : v ∉ ord := by simpa using h1
  have h0 := h.hd
  obtain ⟨h3, -⟩ := List.getElem?_eq_some_iff.1 h0
  refine ⟨?_, fun w hw => ?_, by rw [List.getElem?_append_left h3]; exact h0, fun k k1 k2 => ?_⟩
  · rw [List.nodup_append]
    exact ⟨h.nd, by simp, fun a ha c hc e => by simp at hc; subst hc; subst e; exact hm ha⟩
  · rcases List.mem_append.1 hw with hw | hw
    · exact h.lt w hw
    · simp at hw; subst hw; exact hv
  · simp only [List.length_append, List.length_cons, List.length_nil] at k2
    by_cases e : k < ord.length
    · rw [List.getElem_append_left e, List.take_append_of_le_length (by omega)]
      exact h.low k k1 e
    · obtain rfl : k = ord.length := by omega
      rw [List.getElem_append_right (by omega)]
      simpa using h2
theorem BrnOk.len {b : List (List Int)} {l : List Int} {q : Nat} {ord : List Nat} (h : BrnOk b l q ord) : 1 ≤ ord.length ∧ ord.length ≤ b.length := by
  obtain ⟨h3, -⟩ := List.getElem?_eq_some_iff.1 h.hd
  have := nodup_len h.nd fun w hw => List.mem_range.2 (h.lt w hw)
  rw [List.length_range] at this
  omega
set_option maxHeartbeats 8000000
theorem smK_ex : ∃ K : Nat, 100000000000000000000000000000000000 ≤ K := ⟨_, Nat.le_refl _⟩
noncomputable def smK : Nat := Classical.choose smK_ex
attribute [irreducible] smK
set_option maxHeartbeats 4000000
def wB (b : List (List Int)) (v : Nat) : Int := ed b 0 (v + 1)
def eB (b : List (List Int)) (v u : Nat) : Int := ed b (v + 1) (u + 1)
def trN (b : List (List Int)) : Int := det (b.length - 1) (lap (b.length - 1) (wB b) (eB b))
theorem wg_of {b : List (List Int)} (hB : IsB b) : WG (b.length - 1) (wB b) (eB b) := by
  have g := gr_of hB
  have hn := hB.n1
  exact ⟨fun v hv => g.nn _ _ (by omega) (by omega), fun v u hv hu => g.nn _ _ (by omega) (by omega), fun v u hv hu => g.sy _ _ (by omega) (by omega), fun v hv => (hB.ed (v + 1) (v + 1) (by omega) (by omega)).2.2 rfl⟩
theorem deg_wB {b : List (List Int)} (hB : IsB b) {v : Nat} (hv : v < b.length - 1) : deg b.length (ed b) (v + 1) = wB b v + sumTo (fun t => eB b v t) (b.length - 1) := by
  have g := gr_of hB
  have hn := hB.n1
  have e : deg b.length (ed b) (v + 1) = sumTo (fun j => ed b (v + 1) j) (b.length - 1 + 1) := by unfold deg; congr 1; omega
  rw [e, sumTo_front', g.sy (v + 1) 0 (by omega) (by omega)]
  rfl
theorem red_ss {b : List (List Int)} (hB : IsB b) {c : Nat → Int} : Red b.length (ed b) 0 c ↔ (∀ v, v < b.length - 1 → 0 ≤ c (v + 1)) ∧ SS (b.length - 1) (wB b) (eB b) (fun v => c (v + 1)) := by
  have g := gr_of hB
  have hn := hB.n1
  have hout : ∀ S : Nat → Bool, S 0 = false → ∀ v, v < b.length - 1 → outE b.length (ed b) S (v + 1) = wB b v + outE (b.length - 1) (eB b) (fun i => S (i + 1)) v := fun S hS v hv => by
    have e : outE b.length (ed b) S (v + 1) = sumTo (fun j => if S j = true then 0 else ed b (v + 1) j) (b.length - 1 + 1) := by unfold outE; congr 1; omega
    rw [e, sumTo_front', if_neg (by rw [hS]; decide), g.sy (v + 1) 0 (by omega) (by omega)]
    rfl
  constructor
  · rintro ⟨h1, h2⟩
    refine ⟨fun v hv => h1 _ (by omega) (by omega), fun S ⟨v, hv, hSv⟩ => ?_⟩
    obtain ⟨S2, s1, s2⟩ : ∃ S2 : Nat → Bool, S2 0 = false ∧ ∀ i, S2 (i + 1) = S i := ⟨fun i => match i with
      | 0 => false
      | i + 1 => S i, rfl, fun _ => rfl⟩
    obtain ⟨x, x1, x2, x3⟩ := h2 S2 s1 ⟨v + 1, by omega, by rw [s2]; exact hSv⟩
    cases x with
    | zero => rw [s1] at x2; cases x2
    | succ x =>
      rw [s2] at x2
      rw [hout S2 s1 x (by omega), funext s2] at x3
      exact ⟨x, by omega, x2, x3⟩
  · rintro ⟨h1, h2⟩
    refine ⟨fun v hv h0 => ?_, fun S hS ⟨v, hv, hSv⟩ => ?_⟩
    · obtain ⟨v, rfl⟩ : ∃ j, v = j + 1 := ⟨v - 1, by omega⟩
      exact h1 v (by omega)
    · cases v with
      | zero => rw [hS] at hSv; cases hSv
      | succ v =>
        obtain ⟨x, x1, x2, x3⟩ := h2 (fun i => S (i + 1)) ⟨v, by omega, hSv⟩
        exact ⟨x + 1, by omega, x2, by rw [hout S hS x x1]; exact x3⟩
theorem red_zero {b : List (List Int)} (hB : IsB b) : Red b.length (ed b) 0 (fun _ => 0) := by
  obtain ⟨h1, h2⟩ := redL_red hB [] hB.n1
  refine ⟨fun _ _ _ => Int.le_refl _, fun S hS hex => ?_⟩
  obtain ⟨v, a, c, d⟩ := h2 S hS hex
  refine ⟨v, a, c, ?_⟩
  have h0 : v ≠ 0 := fun e => by subst e; rw [hS] at c; cases c
  have := h1 v a h0
  show (0 : Int) < _
  omega
noncomputable def redsL (b : List (List Int)) : List (List Int) := ssL 36 (b.length - 1) (wB b) (eB b)
theorem trN_len {b : List (List Int)} (hB : IsB b) : trN b = ((redsL b).length : Int) := by
  have g := gr_of hB
  have hn := hB.n1
  have h := wg_of hB
  unfold trN redsL
  rw [det_nSS 36 (b.length - 1) (sumTo (wB b) (b.length - 1)).toNat h (fun v hv => by
    rw [← deg_wB hB hv]
    exact (deg_nn g (by omega)).2) (by have := sumTo_nn h.w0; omega), len_ssL]
theorem allC_len (K : Nat) : ∀ m, (allC K m).length = K ^ m
  | 0 => rfl
  | m + 1 => by
    unfold allC
    rw [List.length_flatMap]
    have e : (List.range K).map (fun (x : Nat) => ((allC K m).map fun l => (x : Int) :: l).length) = (List.range K).map fun _ => K ^ m := List.map_congr_left fun x _ => by rw [List.length_map, allC_len K m]
    have e2 : ∀ L : List Nat, (L.map fun _ => K ^ m).sum = L.length * K ^ m := fun L => by
      induction L with
      | nil => simp
      | cons a L ih => simp only [List.map_cons, List.sum_cons, List.length_cons, ih]; rw [Nat.add_mul]; omega
    rw [e, e2, List.length_range, Nat.pow_succ, Nat.mul_comm]
theorem trN_le {b : List (List Int)} (hB : IsB b) : 1 ≤ trN b ∧ trN b ≤ 101559956668416 := by
  have hn := hB.n2
  rw [trN_len hB]
  constructor
  · have h0 := (red_ss hB).1 (red_zero hB)
    have hm : List.replicate (b.length - 1) (0 : Int) ∈ redsL b := mem_ssL.2 ⟨⟨by simp, fun x hx => by have := (List.mem_replicate.1 hx).2; omega⟩, by
      have e : gf (List.replicate (b.length - 1) 0) = fun _ => 0 := by
        funext i
        show getI _ (i : Int) = 0
        rw [getI_nat]
        by_cases h : i < b.length - 1
        · simp [List.getD, h]
        · simp [List.getD, h]
      rw [e]; exact h0.2⟩
    have := List.length_pos_of_mem hm
    omega
  · have h1 : (redsL b).length ≤ (allC 36 (b.length - 1)).length := by unfold redsL ssL; exact List.length_filter_le _ _
    rw [allC_len] at h1
    have h2 : 36 ^ (b.length - 1) ≤ 36 ^ 9 := Nat.pow_le_pow_right (by omega) (by omega)
    have h3 : (36 : Nat) ^ 9 = 101559956668416 := by decide
    omega
end Go.AM.Ch
