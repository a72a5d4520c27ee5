/- A part of the proof: D3 U33b D4 E2 E3. -/
import Derived.Test.YtmegimhfoedcdaaD2
import Derived.Test.YtmegimhfoedcdaaU34
set_option linter.unusedVariables false
set_option linter.unusedSimpArgs false
set_option linter.unusedSectionVars false
namespace Go.AM.Ch
set_option maxHeartbeats 2000000
def lap (m : Nat) (w : Nat → Int) (E : Nat → Nat → Int) : Nat → Nat → Int := fun v u => if u = v then w v + sumTo (fun t => E v t) m else - E v u
structure WG (m : Nat) (w : Nat → Int) (E : Nat → Nat → Int) : Prop where
  w0 : ∀ v, v < m → 0 ≤ w v
  nn : ∀ v u, v < m → u < m → 0 ≤ E v u
  sy : ∀ v u, v < m → u < m → E v u = E u v
  di : ∀ v, v < m → E v v = 0
def less1 (w : Nat → Int) (u : Nat) : Nat → Int := fun v => if v = u then w v - 1 else w v
def cw (w : Nat → Int) (E : Nat → Nat → Int) (u : Nat) : Nat → Int := fun v => w (skp u v) + E (skp u v) u
theorem skp_ne (u v : Nat) : skp u v ≠ u := by unfold skp; split <;> omega
theorem skp_inj {u v v' : Nat} : skp u v = skp u v' ↔ v = v' := by unfold skp; split <;> split <;> omega
theorem WG.less {m : Nat} {w : Nat → Int} {E : Nat → Nat → Int} (h : WG m w E) {u : Nat} (hw : 1 ≤ w u) : WG m (less1 w u) E :=
  ⟨fun v hv => by unfold less1; split
                  · rename_i e; subst e; omega
                  · exact h.w0 v hv, h.nn, h.sy, h.di⟩
theorem WG.cut {m : Nat} {w : Nat → Int} {E : Nat → Nat → Int} (h : WG (m + 1) w E) {u : Nat} (hu : u < m + 1) : WG m (cw w E u) (mn E u u) :=
  ⟨fun v hv => by
    have := h.w0 _ (skp_lt hv (i := u))
    have := h.nn _ u (skp_lt hv (i := u)) hu
    unfold cw; omega, fun v x hv hx => h.nn _ _ (skp_lt hv) (skp_lt hx), fun v x hv hx => h.sy _ _ (skp_lt hv) (skp_lt hx), fun v hv => h.di _ (skp_lt hv)⟩
theorem det_cut {m : Nat} {w : Nat → Int} {E : Nat → Nat → Int} {u : Nat} (hu : u < m + 1) : det (m + 1) (lap (m + 1) w E) = det (m + 1) (lap (m + 1) (less1 w u) E) + det m (lap m (cw w E u) (mn E u u)) := by
  have h1 := det_lin 1 (n := m + 1) (M := lap (m + 1) (less1 w u) E) (k := u) (f := lap (m + 1) (less1 w u) E u) (g := fun c => if c = u then 1 else 0) hu
  rw [rwR_self] at h1
  have e1 : rwR (lap (m + 1) (less1 w u) E) u (fun c => lap (m + 1) (less1 w u) E u c + 1 * (if c = u then 1 else 0)) = lap (m + 1) w E := by
    funext r c
    unfold rwR lap less1
    by_cases e : r = u
    · subst e
      rw [if_pos rfl]
      by_cases e2 : c = r
      · subst e2
        simp only [if_true]
        omega
      · simp only [if_neg e2]
        omega
    · rw [if_neg e, if_neg e]
  rw [e1] at h1
  rw [h1, det_unit (M := rwR (lap (m + 1) (less1 w u) E) u fun c => if c = u then 1 else 0) hu fun c hc => by unfold rwR; rw [if_pos rfl], mn_rwR_at]
  rw [Int.one_mul]
  congr 1
  refine det_congr fun r c hr hc => ?_
  show lap (m + 1) (less1 w u) E (skp u r) (skp u c) = _
  unfold lap less1 cw
  by_cases e : c = r
  · subst e
    rw [if_pos rfl, if_pos rfl, if_neg (skp_ne u c), sumTo_skp (fun t => E (skp u c) t) hu]
    show w (skp u c) + (E (skp u c) u + _) = w (skp u c) + E (skp u c) u + _
    unfold mn
    omega
  · rw [if_neg (fun h => e (skp_inj.1 h)), if_neg e]
    rfl
theorem det_noroot {m : Nat} {w : Nat → Int} {E : Nat → Nat → Int} (h : WG (m + 1) w E) (hw : ∀ v, v < m + 1 → w v = 0) : det (m + 1) (lap (m + 1) w E) = 0 := by
  refine det_rows0 fun c hc => ?_
  have e : sumTo (fun v => lap (m + 1) w E v c) (m + 1) = sumTo (fun v => (if (v : Int) = (c : Int) then sumTo (fun t => E c t) (m + 1) else 0) - E c v) (m + 1) := sumTo_congr fun v hv => by
    unfold lap
    by_cases e : c = v
    · subst e
      rw [if_pos rfl, if_pos rfl, hw _ hv, h.di _ hv]; omega
    · rw [if_neg e, if_neg (by omega), h.sy v c hv hc]; omega
  rw [e, sumTo_sub, sumTo_unit, if_pos hc]
  have : sumTo (fun t => E c t) (m + 1) = sumTo (E c) (m + 1) := rfl
  omega
def cns (x : Int) (c : Nat → Int) : Nat → Int
  | 0 => x
  | i + 1 => c i
def ins (u : Nat) (x : Int) (c : Nat → Int) : Nat → Int := fun i => if i < u then c i else if i = u then x else c (i - 1)
def sumC (K : Nat) : Nat → ((Nat → Int) → Int) → Int
  | 0, F => F fun _ => 0
  | m + 1, F => sumTo (fun x => sumC K m fun c => F (cns (x : Int) c)) K
theorem sumC_congr {K : Nat} : ∀ {m : Nat} {F G : (Nat → Int) → Int}, (∀ c, (∀ i, 0 ≤ c i) → F c = G c) → sumC K m F = sumC K m G
  | 0, F, G, h => h _ fun _ => Int.le_refl _
  | m + 1, F, G, h => by
    unfold sumC
    refine sumTo_congr fun x hx => sumC_congr fun c hc => h _ fun i => ?_
    cases i with
    | zero => show 0 ≤ (x : Int); omega
    | succ i => exact hc i
theorem ins_zero (x : Int) (c : Nat → Int) : ins 0 x c = cns x c := by
  funext i
  cases i with
  | zero => rfl
  | succ i => rfl
theorem ins_cns (u : Nat) (x y : Int) (c : Nat → Int) : ins (u + 1) y (cns x c) = cns x (ins u y c) := by
  funext i
  cases i with
  | zero => rfl
  | succ i =>
    show (if i + 1 < u + 1 then cns x c (i + 1) else if i + 1 = u + 1 then y else cns x c (i + 1 - 1)) = if i < u then c i else if i = u then y else c (i - 1)
    by_cases h1 : i < u
    · rw [if_pos h1, if_pos (show i + 1 < u + 1 by omega)]; rfl
    · rw [if_neg h1, if_neg (show ¬ i + 1 < u + 1 by omega)]
      by_cases h2 : i = u
      · rw [if_pos h2, if_pos (show i + 1 = u + 1 by omega)]
      · rw [if_neg h2, if_neg (show ¬ i + 1 = u + 1 by omega)]
        obtain ⟨j, rfl⟩ : ∃ j, i = j + 1 := ⟨i - 1, by omega⟩
        rfl
theorem ins_at (u : Nat) (x : Int) (c : Nat → Int) : ins u x c u = x := by unfold ins; rw [if_neg (by omega), if_pos rfl]
theorem ins_skp (u : Nat) (x : Int) (c : Nat → Int) (v : Nat) : ins u x c (skp u v) = c v := by
  unfold ins skp
  by_cases h : v < u
  · rw [if_pos h, if_pos h]
  · rw [if_neg h, if_neg (by omega), if_neg (by omega)]; congr 1
theorem sumC_at {K : Nat} : ∀ {u m : Nat} {F : (Nat → Int) → Int}, u < m + 1 → sumC K (m + 1) F = sumTo (fun x => sumC K m fun c => F (ins u (x : Int) c)) K
  | 0, m, F, _ => by
    show sumTo (fun x => sumC K m fun c => F (cns (x : Int) c)) K = _
    refine sumTo_congr fun x hx => sumC_congr fun c hc => by rw [ins_zero]
  | u + 1, m, F, h => by
    obtain ⟨m, rfl⟩ : ∃ j, m = j + 1 := ⟨m - 1, by omega⟩
    have e1 : sumC K (m + 1 + 1) F = sumTo (fun x => sumTo (fun y => sumC K m fun c => F (cns (x : Int) (ins u (y : Int) c))) K) K := by
      show sumTo (fun x => sumC K (m + 1) fun c => F (cns (x : Int) c)) K = _
      exact sumTo_congr fun x hx => sumC_at (u := u) (by omega)
    rw [e1, sumTo_comm]
    refine sumTo_congr fun y hy => ?_
    show _ = sumTo (fun x => sumC K m fun c => F (ins (u + 1) (y : Int) (cns (x : Int) c))) K
    refine sumTo_congr fun x hx => sumC_congr fun c hc => by rw [ins_cns]
def SS (m : Nat) (w : Nat → Int) (E : Nat → Nat → Int) (c : Nat → Int) : Prop := ∀ S : Nat → Bool, (∃ v, v < m ∧ S v = true) → ∃ v, v < m ∧ S v = true ∧ c v < w v + outE m E S v
noncomputable def b01 (p : Prop) : Int := open Classical in if p then 1 else 0
theorem b01_congr {p q : Prop} (h : p ↔ q) : b01 p = b01 q := by rw [propext h]
theorem b01_no {p : Prop} (h : ¬ p) : b01 p = 0 := by unfold b01; simp [h]
theorem b01_yes {p : Prop} (h : p) : b01 p = 1 := by unfold b01; simp [h]
noncomputable def nSS (K m : Nat) (w : Nat → Int) (E : Nat → Nat → Int) : Int := sumC K m fun c => b01 (SS m w E c)
theorem ss_less {m : Nat} {w : Nat → Int} {E : Nat → Nat → Int} {u : Nat} (x : Int) (c : Nat → Int) : SS m w E (ins u (x + 1) c) ↔ SS m (less1 w u) E (ins u x c) := by
  have e : ∀ S v, (ins u (x + 1) c v < w v + outE m E S v ↔ ins u x c v < less1 w u v + outE m E S v) := fun S v => by
    unfold less1
    by_cases h : v = u
    · subst h; rw [ins_at, ins_at, if_pos rfl]; omega
    · rw [if_neg h]
      unfold ins
      by_cases h1 : v < u
      · rw [if_pos h1, if_pos h1]
      · rw [if_neg h1, if_neg h1, if_neg h, if_neg h]
  unfold SS
  simp only [e]
theorem skp_ex {u v : Nat} (h : v ≠ u) : ∃ v', v = skp u v' := by
  rcases Nat.lt_or_ge v u with g | g
  · exact ⟨v, by unfold skp; rw [if_pos g]⟩
  · exact ⟨v - 1, by unfold skp; rw [if_neg (by omega)]; omega⟩
theorem skp_back {u v m : Nat} (h : skp u v < m + 1) (hu : u < m + 1) : v < m := by unfold skp at h; split at h <;> omega
theorem outE_skp {m : Nat} {E : Nat → Nat → Int} {u : Nat} (hu : u < m + 1) {S : Nat → Bool} (hS : S u = false) (v : Nat) : outE (m + 1) E S (skp u v) = E (skp u v) u + outE m (mn E u u) (fun i => S (skp u i)) v := by
  unfold outE
  rw [sumTo_skp (fun j => if S j = true then 0 else E (skp u v) j) hu]
  rw [if_neg (by rw [hS]; decide)]
  rfl
theorem ss_cut {m : Nat} {w : Nat → Int} {E : Nat → Nat → Int} (h : WG (m + 1) w E) {u : Nat} (hu : u < m + 1) (hw : 1 ≤ w u) (c : Nat → Int) : SS (m + 1) w E (ins u 0 c) ↔ SS m (cw w E u) (mn E u u) c := by
  constructor
  · intro hs S ⟨v, hv, hSv⟩
    obtain ⟨S2, s1, s2⟩ : ∃ S2 : Nat → Bool, S2 u = false ∧ ∀ i, S2 (skp u i) = S i := ⟨fun i => if i < u then S i else if i = u then false else S (i - 1), by simp, fun i => by
      show (if skp u i < u then S (skp u i) else if skp u i = u then false else S (skp u i - 1)) = S i
      unfold skp
      by_cases g : i < u
      · rw [if_pos g, if_pos g]
      · rw [if_neg g, if_neg (by omega), if_neg (by omega)]; rfl⟩
    obtain ⟨v2, h1, h2, h3⟩ := hs S2 ⟨skp u v, skp_lt hv, by rw [s2]; exact hSv⟩
    have hne : v2 ≠ u := fun e => by
      subst e
      rw [s1] at h2
      cases h2
    obtain ⟨v', rfl⟩ := skp_ex hne
    rw [s2] at h2
    refine ⟨v', skp_back h1 hu, h2, ?_⟩
    rw [ins_skp, outE_skp hu s1, funext s2] at h3
    unfold cw
    omega
  · intro hs S ⟨v, hv, hSv⟩
    by_cases hSu : S u = true
    · refine ⟨u, hu, hSu, ?_⟩
      rw [ins_at]
      have : 0 ≤ outE (m + 1) E S u := sumTo_nn fun j hj => by
        have := h.nn u j hu hj
        split <;> omega
      omega
    · have hSu' : S u = false := by simpa using hSu
      have hne : v ≠ u := fun e => by subst e; exact hSu hSv
      obtain ⟨v', rfl⟩ := skp_ex hne
      obtain ⟨x, h1, h2, h3⟩ := hs (fun i => S (skp u i)) ⟨v', skp_back hv hu, hSv⟩
      refine ⟨skp u x, skp_lt h1, h2, ?_⟩
      rw [ins_skp, outE_skp hu hSu']
      unfold cw at h3
      omega
theorem ss_high {m : Nat} {w : Nat → Int} {E : Nat → Nat → Int} (h : WG m w E) {u : Nat} (hu : u < m) {x : Int} (hx : w u + sumTo (fun t => E u t) m ≤ x) (c : Nat → Int) : ¬ SS m w E (ins u x c) := fun hs => by
  obtain ⟨v, h1, h2, h3⟩ := hs (fun i => i == u) ⟨u, hu, by simp⟩
  simp only [beq_iff_eq] at h2
  subst h2
  rw [ins_at] at h3
  have : outE m E (fun i => i == v) v ≤ sumTo (fun t => E v t) m := sumTo_mono fun j hj => by
    have := h.nn v j hu hj
    split <;> omega
  omega
theorem nSS_cut {K m : Nat} {w : Nat → Int} {E : Nat → Nat → Int} (h : WG (m + 1) w E) {u : Nat} (hu : u < m + 1) (hw : 1 ≤ w u) (hK : w u + sumTo (fun t => E u t) (m + 1) ≤ K) :
    nSS K (m + 1) w E = nSS K (m + 1) (less1 w u) E + nSS K m (cw w E u) (mn E u u) := by
  have hs : 0 ≤ sumTo (fun t => E u t) (m + 1) := sumTo_nn fun j hj => h.nn u j hu hj
  obtain ⟨K, rfl⟩ : ∃ j, K = j + 1 := ⟨K - 1, by omega⟩
  unfold nSS
  rw [sumC_at (m := m) (F := fun c => b01 (SS (m + 1) w E c)) hu, sumC_at (m := m) (F := fun c => b01 (SS (m + 1) (less1 w u) E c)) hu, sumTo_front']
  have e0 : sumC (K + 1) m (fun c => b01 (SS (m + 1) w E (ins u ((0 : Nat) : Int) c))) = sumC (K + 1) m (fun c => b01 (SS m (cw w E u) (mn E u u) c)) := sumC_congr fun c _ => b01_congr (ss_cut h hu hw c)
  have e1 : sumTo (fun x => sumC (K + 1) m (fun c => b01 (SS (m + 1) w E (ins u ((x + 1 : Nat) : Int) c)))) K = sumTo (fun x => sumC (K + 1) m (fun c => b01 (SS (m + 1) (less1 w u) E (ins u (x : Int) c)))) K := sumTo_congr fun x _ => sumC_congr fun c _ => b01_congr (by rw [Int.natCast_add]; exact ss_less x c)
  have e2 : sumC (K + 1) m (fun c => b01 (SS (m + 1) (less1 w u) E (ins u (K : Int) c))) = 0 := by
    have e3 : ∀ m, sumC (K + 1) m (fun _ => 0) = 0 := fun m => by
      induction m with
      | zero => rfl
      | succ m ih =>
        show sumTo (fun _ => sumC (K + 1) m fun _ => 0) (K + 1) = 0
        rw [ih, sumTo_zero]
    rw [← e3 m]
    refine sumC_congr fun c _ => b01_no (ss_high (h.less hw) hu ?_ c)
    unfold less1
    rw [if_pos rfl]
    omega
  rw [e0, e1]
  have e4 : sumTo (fun x => sumC (K + 1) m (fun c => b01 (SS (m + 1) (less1 w u) E (ins u (x : Int) c)))) (K + 1) = sumTo (fun x => sumC (K + 1) m (fun c => b01 (SS (m + 1) (less1 w u) E (ins u (x : Int) c)))) K + sumC (K + 1) m (fun c => b01 (SS (m + 1) (less1 w u) E (ins u (K : Int) c))) := rfl
  rw [e4, e2]
  omega
theorem nSS_noroot {K m : Nat} {w : Nat → Int} {E : Nat → Nat → Int} (hw : ∀ v, v < m + 1 → w v = 0) : nSS K (m + 1) w E = 0 := by
  have e3 : ∀ m, sumC K m (fun _ => 0) = 0 := fun m => by
    induction m with
    | zero => rfl
    | succ m ih =>
      show sumTo (fun _ => sumC K m fun _ => 0) K = 0
      rw [ih, sumTo_zero]
  rw [← e3 (m + 1)]
  refine sumC_congr fun c hc => b01_no fun hs => ?_
  obtain ⟨v, h1, -, h3⟩ := hs (fun _ => true) ⟨0, by omega, rfl⟩
  have e : outE (m + 1) E (fun _ => true) v = 0 := by
    unfold outE
    simp only [if_true]
    exact sumTo_zero _
  rw [e, hw v h1] at h3
  have := hc v
  omega
theorem det_nSS (K : Nat) : ∀ (m : Nat) (t : Nat) {w : Nat → Int} {E : Nat → Nat → Int}, WG m w E → (∀ v, v < m → w v + sumTo (fun t => E v t) m ≤ K) → sumTo w m = t → det m (lap m w E) = nSS K m w E
  | 0, _, w, E, _, _, _ => (b01_yes fun S ⟨v, hv, _⟩ => by omega).symm
  | m + 1, t, w, E, h, hK, ht => by
    by_cases hz : ∀ v, v < m + 1 → w v = 0
    · rw [det_noroot h hz, nSS_noroot hz]
    · obtain ⟨u, hu, hw⟩ : ∃ u, u < m + 1 ∧ 1 ≤ w u := by
        apply Classical.byContradiction
        intro hno
        refine hz fun v hv => ?_
        have := h.w0 v hv
        apply Classical.byContradiction
        intro hne
        exact hno ⟨v, hv, by omega⟩
      have hpos := sumTo_term h.w0 hu
      obtain ⟨t, rfl⟩ : ∃ j, t = j + 1 := ⟨t - 1, by omega⟩
      have hc := h.cut hu
      have hl := h.less hw
      have hs : sumTo (less1 w u) (m + 1) = t := by
        have e : sumTo (less1 w u) (m + 1) = sumTo (fun i => w i + (if (i : Int) = (u : Int) then -1 else 0)) (m + 1) := sumTo_congr fun i hi => by
          unfold less1
          by_cases e : i = u
          · rw [if_pos e, if_pos (by omega)]; omega
          · rw [if_neg e, if_neg (by omega)]; omega
        rw [e, sumTo_add, sumTo_unit, if_pos hu]
        omega
      have hcs := sumTo_nn hc.w0
      rw [det_cut hu, nSS_cut h hu hw (hK u hu), det_nSS K (m + 1) t hl (fun v hv => by
        have := hK v hv
        unfold less1
        split <;> omega) hs, det_nSS K m (sumTo (cw w E u) m).toNat hc (fun v hv => by
        have := hK (skp u v) (skp_lt hv)
        rw [sumTo_skp (fun t => E (skp u v) t) hu] at this
        show w (skp u v) + E (skp u v) u + sumTo (fun t => E (skp u v) (skp u t)) m ≤ K
        omega) (by omega)]
  termination_by m t => (m, t)
set_option maxHeartbeats 8000000
noncomputable def redL (b : List (List Int)) (l : List Int) (q : Nat) : List Int := apl b l (redT b l q)
theorem redL_len (b : List (List Int)) (l : List Int) (q : Nat) : (redL b l q).length = b.length := apl_len _ _ _
theorem redL_red {b : List (List Int)} (hB : IsB b) (l : List Int) {q : Nat} (hq : q < b.length) : Red b.length (ed b) q (gf (redL b l q)) := (redT_ok hB l hq).2.2.congr fun v hv => (apl_ap hB l _ hv).symm
theorem redL_eq {b : List (List Int)} (hB : IsB b) {l t : List Int} {q : Nat} (hq : q < b.length) (h : Red b.length (ed b) q (gf (apl b l t))) : apl b l t = redL b l q := by
  refine ext_getI (by rw [apl_len, redL_len]) fun i hi => ?_
  rw [apl_len] at hi
  have hr := redL_red hB l hq
  refine (red_uniq (gr_of hB) hq hr h (t := fun j => gf t j + (- gf (redT b l q) j)) (fun v hv => ?_) i hi).1
  have e1 : gf (apl b l t) v = ap b.length (ed b) (gf l) (gf t) v := apl_ap hB l t hv
  have e2 : gf (redL b l q) v = ap b.length (ed b) (gf l) (gf (redT b l q)) v := apl_ap hB l _ hv
  rw [e1]
  unfold ap at e2 ⊢
  rw [net_add, net_neg, e2]
  omega
set_option maxHeartbeats 2000000
def lsum : List Int → Int
  | [] => 0
  | a :: l => a + lsum l
theorem lsum_append : ∀ (a c : List Int), lsum (a ++ c) = lsum a + lsum c
  | [], c => by simp [lsum]
  | x :: a, c => by show x + lsum (a ++ c) = x + lsum a + lsum c; rw [lsum_append a c]; omega
theorem lsum_perm {a c : List Int} (h : a.Perm c) : lsum a = lsum c := by
  induction h with
  | nil => rfl
  | cons x _ ih => show x + _ = x + _; rw [ih]
  | swap x y l => show y + (x + _) = x + (y + _); omega
  | trans _ _ h1 h2 => rw [h1, h2]
theorem lsum_add {α : Type} (f g : α → Int) : ∀ l : List α, lsum (l.map fun a => f a + g a) = lsum (l.map f) + lsum (l.map g)
  | [] => rfl
  | a :: l => by
    show f a + g a + lsum (l.map fun a => f a + g a) = f a + lsum (l.map f) + (g a + lsum (l.map g))
    rw [lsum_add f g l]; omega
theorem lsum_sub {α : Type} (f g : α → Int) : ∀ l : List α, lsum (l.map fun a => f a - g a) = lsum (l.map f) - lsum (l.map g)
  | [] => rfl
  | a :: l => by
    show f a - g a + lsum (l.map fun a => f a - g a) = f a + lsum (l.map f) - (g a + lsum (l.map g))
    rw [lsum_sub f g l]; omega
theorem lsum_const {α : Type} (k : Int) : ∀ l : List α, lsum (l.map fun _ => k) = l.length * k
  | [] => by simp [lsum]
  | a :: l => by
    show k + lsum (l.map fun _ => k) = ((l.length + 1 : Nat) : Int) * k
    rw [lsum_const k l, Int.natCast_add, Int.add_mul]; omega
theorem lsum_congr {α : Type} {f g : α → Int} : ∀ {l : List α}, (∀ a ∈ l, f a = g a) → lsum (l.map f) = lsum (l.map g)
  | [], _ => rfl
  | a :: l, h => by
    show f a + lsum (l.map f) = g a + lsum (l.map g)
    rw [h a List.mem_cons_self, lsum_congr fun x hx => h x (List.mem_cons_of_mem _ hx)]
theorem net_lsum (n : Nat) (E : Nat → Nat → Int) {α : Type} (T : α → Nat → Int) (i : Nat) : ∀ l : List α, net n E (fun j => lsum (l.map fun a => T a j)) i = lsum (l.map fun a => net n E (T a) i)
  | [] => net_const n E 0 i
  | a :: l => by
    show net n E (fun j => T a j + lsum (l.map fun a => T a j)) i = net n E (T a) i + lsum (l.map fun a => net n E (T a) i)
    rw [net_add, net_lsum n E T i l]
theorem perm_of_sub {α : Type} [DecidableEq α] : ∀ {l1 l2 : List α}, l1.Nodup → (∀ x ∈ l1, x ∈ l2) → l1.length = l2.length → l1.Perm l2
  | [], l2, _, _, h => by
    have : l2 = [] := List.length_eq_zero_iff.1 h.symm
    rw [this]
  | a :: t, l2, hn, hs, h => by
    obtain ⟨h1, h2⟩ := List.nodup_cons.1 hn
    have ha := hs a List.mem_cons_self
    have hp := List.perm_cons_erase ha
    refine ((List.perm_cons a).2 (perm_of_sub h2 (fun x hx => ?_) ?_)).trans hp.symm
    · exact (List.mem_erase_of_ne (fun (e : x = a) => h1 (e ▸ hx))).2 (hs x (List.mem_cons_of_mem _ hx))
    · rw [List.length_erase_of_mem ha]
      simp only [List.length_cons] at h
      omega
def allC (K : Nat) : Nat → List (List Int)
  | 0 => [[]]
  | m + 1 => (List.range K).flatMap fun (x : Nat) => (allC K m).map fun l => (x : Int) :: l
theorem mem_allC {K : Nat} : ∀ {m : Nat} {l : List Int}, l ∈ allC K m ↔ l.length = m ∧ ∀ x ∈ l, 0 ≤ x ∧ x < K
  | 0, l => by
    unfold allC
    constructor
    · intro h
      obtain rfl : l = [] := by simpa using h
      exact ⟨rfl, fun x hx => by cases hx⟩
    · rintro ⟨h, -⟩
      have : l = [] := List.length_eq_zero_iff.1 h
      simp [this]
  | m + 1, l => by
    unfold allC
    rw [List.mem_flatMap]
    constructor
    · rintro ⟨x, hx, h⟩
      obtain ⟨r, hr, rfl⟩ := List.mem_map.1 h
      obtain ⟨h1, h2⟩ := mem_allC.1 hr
      have := List.mem_range.1 hx
      refine ⟨by simp [h1], fun y hy => ?_⟩
      rcases List.mem_cons.1 hy with rfl | hy
      · omega
      · exact h2 y hy
    · rintro ⟨h1, h2⟩
      cases l with
      | nil => simp at h1
      | cons a r =>
        have ha := h2 a List.mem_cons_self
        refine ⟨a.toNat, List.mem_range.2 (by omega), List.mem_map.2 ⟨r, mem_allC.2 ⟨by simpa using h1, fun x hx => h2 x (List.mem_cons_of_mem _ hx)⟩, ?_⟩⟩
        rw [Int.toNat_of_nonneg ha.1]
theorem nodup_flat {α β : Type} {f : α → List β} : ∀ {l : List α}, l.Nodup → (∀ a ∈ l, (f a).Nodup) → (∀ a ∈ l, ∀ c ∈ l, a ≠ c → ∀ x ∈ f a, x ∉ f c) → (l.flatMap f).Nodup
  | [], _, _, _ => by simp
  | a :: l, hn, h1, h2 => by
    obtain ⟨n1, n2⟩ := List.nodup_cons.1 hn
    rw [List.flatMap_cons, List.nodup_append]
    refine ⟨h1 a List.mem_cons_self, nodup_flat n2 (fun c hc => h1 c (List.mem_cons_of_mem _ hc)) (fun c hc d hd => h2 c (List.mem_cons_of_mem _ hc) d (List.mem_cons_of_mem _ hd)), fun x hx y hy e => ?_⟩
    subst e
    obtain ⟨c, hc, hxc⟩ := List.mem_flatMap.1 hy
    exact h2 a List.mem_cons_self c (List.mem_cons_of_mem _ hc) (fun e => n1 (e ▸ hc)) x hx hxc
theorem nodup_mapI {α β : Type} {f : α → β} {l : List α} (h : l.Nodup) (hf : ∀ a ∈ l, ∀ c ∈ l, f a = f c → a = c) : (l.map f).Nodup := by
  rw [List.nodup_iff_pairwise_ne, List.pairwise_map]
  refine (List.pairwise_iff_getElem).2 fun i j hi hj hij e => ?_
  have := hf _ (List.getElem_mem hi) _ (List.getElem_mem hj) e
  exact (List.pairwise_iff_getElem.1 (List.nodup_iff_pairwise_ne.1 h)) i j hi hj hij this
theorem nodup_allC {K : Nat} : ∀ m, (allC K m).Nodup
  | 0 => by simp [allC]
  | m + 1 => by
    unfold allC
    refine nodup_flat List.nodup_range (fun x hx => nodup_mapI (nodup_allC m) fun a _ c _ e => by injection e) fun x hx y hy hxy l hl hl2 => ?_
    obtain ⟨r, _, rfl⟩ := List.mem_map.1 hl
    obtain ⟨r2, _, e⟩ := List.mem_map.1 hl2
    injection e with e1 e2
    omega
theorem gf_cons (x : Int) (l : List Int) : gf (x :: l) = cns x (gf l) := by
  funext i
  cases i with
  | zero =>
    show getI (x :: l) ((0 : Nat) : Int) = x
    rw [getI_nat]; rfl
  | succ i =>
    show getI (x :: l) ((i + 1 : Nat) : Int) = getI l (i : Int)
    rw [getI_nat, getI_nat]
    rfl
theorem lsum_flat {α : Type} (f : List Int → Int) (g : α → List (List Int)) : ∀ l : List α, lsum ((l.flatMap g).map f) = lsum (l.map fun a => lsum ((g a).map f))
  | [] => rfl
  | a :: l => by
    rw [List.flatMap_cons, List.map_append, lsum_append, lsum_flat f g l]
    rfl
theorem lsum_range (F : Nat → Int) : ∀ n, lsum ((List.range n).map F) = sumTo F n
  | 0 => rfl
  | n + 1 => by
    rw [List.range_succ, List.map_append, lsum_append, lsum_range F n]
    show _ + (F n + 0) = sumTo F n + F n
    omega
theorem sumC_list {K : Nat} : ∀ {m : Nat} (F : (Nat → Int) → Int), sumC K m F = lsum ((allC K m).map fun l => F (gf l))
  | 0, F => by
    have e : gf [] = fun _ => 0 := by
      funext i
      show getI [] (i : Int) = 0
      rw [getI_nat]; rfl
    show F (fun _ => 0) = F (gf []) + 0
    rw [e]; omega
  | m + 1, F => by
    unfold allC sumC
    rw [lsum_flat, lsum_range]
    refine sumTo_congr fun x hx => ?_
    rw [sumC_list, List.map_map]
    refine lsum_congr fun l _ => ?_
    show F (cns (x : Int) (gf l)) = F (gf ((x : Int) :: l))
    rw [gf_cons]
noncomputable def ssL (K m : Nat) (w : Nat → Int) (E : Nat → Nat → Int) : List (List Int) := open Classical in (allC K m).filter fun l => decide (SS m w E (gf l))
theorem mem_ssL {K m : Nat} {w : Nat → Int} {E : Nat → Nat → Int} {l : List Int} : l ∈ ssL K m w E ↔ (l.length = m ∧ ∀ x ∈ l, 0 ≤ x ∧ x < K) ∧ SS m w E (gf l) := by
  unfold ssL
  rw [List.mem_filter, mem_allC]
  simp
theorem nodup_ssL (K m : Nat) (w : Nat → Int) (E : Nat → Nat → Int) : (ssL K m w E).Nodup := by
  unfold ssL
  have h := nodup_allC (K := K) m
  exact h.sublist List.filter_sublist
theorem len_ssL (K m : Nat) (w : Nat → Int) (E : Nat → Nat → Int) : nSS K m w E = ((ssL K m w E).length : Int) := by
  unfold nSS ssL
  rw [sumC_list]
  generalize allC K m = L
  induction L with
  | nil => rfl
  | cons a L ih =>
    show b01 (SS m w E (gf a)) + lsum (L.map fun l => b01 (SS m w E (gf l))) = _
    rw [ih]
    by_cases h : SS m w E (gf a)
    · rw [b01_yes h]
      simp [List.filter_cons, h]
      omega
    · rw [b01_no h]
      simp [List.filter_cons, h]
set_option maxHeartbeats 4000000
theorem s_stK {call : CallF} {K : KT} {env : Env} {H : Heap} {res : R} {e : EO} {xs kp : List Opd} {r : List AI} {v : AV} {vs : List AV} {H' : Heap} (ho : opds env xs = vs) (h : evE call H e vs = some (v, H')) (hk : keptOk H H' (opds env kp) = true) (g : RR call r K env H' res) :
    RR call (⟨.inr e, xs, none, none, kp⟩ :: r) K env H res := ⟨by
  have := g.eq
  rw [← ho] at h
  simpa only [evR, evI, h, Option.bind_some, hk, if_true, putE] using this⟩
theorem refs_set : ∀ (is : List Nat) (R : List (List AV)) (i a : Nat) (r : List AV), is.length = R.length → (refs is R).set i (.sl a 1 0 r.length) = refs (is.set i a) (R.set i r)
  | [], [], i, a, r, _ => by simp [refs]
  | [], _ :: _, _, _, _, h => by simp at h
  | _ :: _, [], _, _, _, h => by simp at h
  | i0 :: is, l :: R, 0, a, r, h => by simp [refs]
  | i0 :: is, l :: R, i + 1, a, r, h => by simp [refs, refs_set is R i a r (by simpa using h)]
theorem gcQ {H : Heap} {pre gs1 gs2 : List AV} {p q M : Nat} {is : List Nat} {R : List (List AV)} {c : AV} (hp : idFreeL pre = true) (hpl : pre.length ≤ 20) (hg1 : idFreeL gs1 = true) (hg1l : gs1.length ≤ 20) (hg2 : idFreeL gs2 = true)
    (hb : H[p]? = some (some (.box (refs is R)))) (hl : is.length = R.length) (hR : ∀ (j i : Nat) (l : List AV), is[j]? = some i → R[j]? = some l → H[i]? = some (some (.data l))) (hq : H[q]? = some (some (.data [c]))) (hd : (p :: (is ++ [q])).Nodup) (hk : is.length < 100) :
    gc 0 (pre ++ .sl p 1 0 M :: (gs1 ++ .ptr q 0 :: gs2)) H = some (pre ++ .sl 0 1 0 M :: (gs1 ++ .ptr (is.length + 1) 0 :: gs2), some (.box (refs (List.range' 1 is.length) R)) :: (rowsH R ++ [some (.data [c])])) := by
  have hφ : nodupB (p :: (is ++ [q])) = true := nodupB_iff.2 hd
  have q1 : posOf (p :: (is ++ [q])) p = some 0 := posOf_of_get hφ (j := 0) rfl
  have q2 : posOf (p :: (is ++ [q])) q = some (is.length + 1) := posOf_of_get hφ (j := is.length + 1) (by simp)
  have pr : renL (posOf (p :: (is ++ [q]))) (refs is R) = some (refs (List.range' 1 is.length) R) := renL_refs hφ is R 1 hl fun j i h => by
    rw [Nat.add_comm, List.getElem?_cons_succ]
    have hj := (List.getElem?_eq_some_iff.1 h).1
    rw [List.getElem?_append_left hj]; exact h
  have hpick := pickO_refs is R hl hR
  obtain ⟨d1, d2⟩ := List.nodup_cons.1 hd
  rw [List.nodup_append] at d2
  obtain ⟨d3, -, d4⟩ := d2
  simp only [List.mem_append, List.mem_singleton, not_or] at d1
  refine gc_of (φ := p :: (is ++ [q])) ?_ hφ (vs' := pre ++ .sl 0 1 0 M :: (gs1 ++ .ptr (is.length + 1) 0 :: gs2)) ?_ (Hp := some (.box (refs is R)) :: (rowsH R ++ [some (.data [c])])) ?_ ?_
  · have b2 : boxCells H p = refs is R := by simp [boxCells, hb]
    have b3 : boxCells H q = [] := by simp [boxCells, hq]
    have e : reach H 400 (rangeL 0 []) (roots H (rangeL 0 []) ++ (pre ++ .sl p 1 0 M :: (gs1 ++ .ptr q 0 :: gs2))) = reach H (399 - pre.length) [p] (refs is R ++ (gs1 ++ .ptr q 0 :: gs2)) := by
      have h1 : rangeL 0 [] = [] := rfl
      have h2 : roots H (rangeL 0 []) = [] := rfl
      rw [h2, List.nil_append, h1, show (400 : Nat) = (400 - pre.length) + pre.length by omega, reach_pre pre hp, show 400 - pre.length = (399 - pre.length) + 1 by omega, reach_new, b2]
      simp
    rw [e, reach_refs' (by omega) hl (fun i hi => ?_) d3 (rows_box hl hR), show 399 - pre.length - is.length = (399 - pre.length - is.length - gs1.length) + gs1.length by omega, reach_pre gs1 hg1, show 399 - pre.length - is.length - gs1.length = (398 - pre.length - is.length - gs1.length) + 1 by omega, reach_newp, b3]
    · have hc : ([p] ++ is).contains q = false := by
        simp only [List.contains_eq_mem, List.singleton_append, List.mem_cons, decide_eq_false_iff_not, not_or]
        exact ⟨fun h => d1.2 h.symm, fun h => d4 q h q (by simp) rfl⟩
      rw [hc]
      simp only [Bool.false_eq_true, if_false, List.nil_append]
      rw [reach_free _ _ _ _ hg2]
      simp
    · have h3 : i ≠ p := fun e => d1.1 (e ▸ hi)
      simp [h3]
  · rw [renL_append, renL_free hp]
    simp [renL, AV.ren, q1, q2, renL_free hg2, renL_append, renL_free hg1]
  · simp [pickO, hb, pickO_append, hpick, hq]
  · simp [renH, renO, pr, renH_append, renH_rows]
structure RA (H : Heap) (is : List Nat) (rows : List (List Int)) : Prop where
  bx : H[0]? = some (some (.box (refs is (rows.map iL))))
  ln : is.length = rows.length
  rw : ∀ j i : Nat, is[j]? = some i → H[i]? = some (some (.data (iL (getLL rows (j : Int)))))
theorem RA.ld {H : Heap} {is : List Nat} {rows : List (List Int)} (h : RA H is rows) {j i : Nat} (hj : is[j]? = some i) : evP H (.ld false 1) [.ptr 0 j] = some (.sl i 1 0 (getLL rows (j : Int)).length) := by
  have hjl := (List.getElem?_eq_some_iff.1 hj).1
  have hil : j < rows.length := by rw [← h.ln]; exact hjl
  have hc : Heap.cells? H 0 = some (refs is (rows.map iL)) := cells?_iff.2 (.inr h.bx)
  have hr := refs_get hj (rows_at hil)
  rw [iL_len] at hr
  obtain ⟨h1, h2⟩ := List.getElem?_eq_some_iff.1 hr
  have h5 : j + 1 ≤ (refs is (rows.map iL)).length := by omega
  simp only [evP, ldc, getRow, hc, Option.bind_some, if_pos h5]
  rw [List.drop_eq_getElem_cons h1, h2]
  simp [wholeOf]
theorem p_ldD {H : Heap} {i k : Nat} {l : List Int} (h : H[i]? = some (some (.data (iL l)))) (hk : k < l.length) : evP H (.ld false 1) [.ptr i k] = some (.int .i64 (getI l (k : Int))) := by
  have hc : Heap.cells? H i = some (iL l) := cells?_iff.2 (.inl h)
  have hr : (iL l)[k]? = some (.int .i64 (getI l (k : Int))) := by rw [getI_nat]; simp [iL, List.getD, hk]
  obtain ⟨h1, h2⟩ := List.getElem?_eq_some_iff.1 hr
  have h5 : k + 1 ≤ (iL l).length := by omega
  simp only [evP, ldc, getRow, hc, Option.bind_some, if_pos h5]
  rw [List.drop_eq_getElem_cons h1, h2]
  simp [wholeOf]
theorem RA.get {H : Heap} {is : List Nat} {rows : List (List Int)} (h : RA H is rows) {j i k : Nat} (hj : is[j]? = some i) (hk : k < (getLL rows (j : Int)).length) : evP H (.ld false 1) [.ptr i k] = some (.int .i64 (getI (getLL rows (j : Int)) (k : Int))) :=
  p_ldD (h.rw j i hj) hk
def HC (n : Nat) (rows : List (List Int)) (c : Nat) : Heap := HB n rows ++ [some (.data (iL [(c : Int)]))]
theorem hb_length {n : Nat} {rows : List (List Int)} (h : Rows n rows) : (HB n rows).length = n + 1 := by simp [HB, rowsH, h.len]
theorem rng1 {n j : Nat} (h : j < n) : (List.range' 1 n)[j]? = some (1 + j) := by rw [List.getElem?_range' h]; simp
theorem ra_hb {n : Nat} {rows : List (List Int)} (h : Rows n rows) (X : Heap) : RA (HB n rows ++ X) (List.range' 1 n) rows := by
  have hl := hb_length h
  refine ⟨?_, by simp [h.len], fun j i hj => ?_⟩
  · rw [List.getElem?_append_left (by omega)]; rfl
  · obtain ⟨rfl, hjn⟩ := rng_get hj
    rw [List.getElem?_append_left (by omega)]
    exact hb_row h hjn
theorem hc_cell {n c : Nat} {rows : List (List Int)} (h : Rows n rows) : (HC n rows c)[n + 1]? = some (some (.data (iL [(c : Int)]))) := by
  unfold HC
  rw [List.getElem?_append_right (by rw [hb_length h]; omega), hb_length h, Nat.sub_self]
  rfl
theorem hc_c {n c : Nat} {rows : List (List Int)} (h : Rows n rows) : evP (HC n rows c) (.ld false 1) [.ptr (n + 1) 0] = some (.int .i64 (c : Int)) := by
  have := p_ldD (k := 0) (hc_cell (c := c) h) (by simp)
  rw [this]
  have e : getI [(c : Int)] ((0 : Nat) : Int) = (c : Int) := by rw [getI_nat]; rfl
  rw [e]
theorem hc_ld {n i c : Nat} {rows : List (List Int)} (h : Rows n rows) (hi : i < n) : evP (HC n rows c) (.ld false 1) [.ptr 0 i] = some (.sl (1 + i) 1 0 n) := by
  have := (ra_hb h [some (.data (iL [(c : Int)]))]).ld (rng1 hi)
  rw [h.get hi] at this
  exact this
theorem hc_get {n i k c : Nat} {rows : List (List Int)} (h : Rows n rows) (hi : i < n) (hk : k < n) : evP (HC n rows c) (.ld false 1) [.ptr (1 + i) k] = some (.int .i64 (getI (getLL rows (i : Int)) (k : Int))) :=
  (ra_hb h [some (.data (iL [(c : Int)]))]).get (rng1 hi) (by rw [h.get hi]; exact hk)
theorem hc_st {call : CallF} {n i j c : Nat} {x : Int} {rows : List (List Int)} (h : Rows n rows) (hi : i < n) (hj : j < n) : evE call (HC n rows c) (.st 1) [.ptr (1 + i) j, .int .i64 x] = some (.undef, HC n (setLL rows i j x) c) := by
  have h0 := hb_st (call := call) (x := x) h hi hj
  have h1 := hb_row h hi
  have hl : 1 + i < (HB n rows).length := by rw [hb_length h]; omega
  have hd : Heap.data? (HB n rows) (1 + i) = some (iL (getLL rows (i : Int))) := data?_iff.2 h1
  rw [e_stO (call := call) (H := HB n rows) (id := 1 + i) (l := getLL rows (i : Int)) (i := j) (v := x) hd (by rw [h.get hi]; exact hj)] at h0
  have h2 : (HC n rows c)[1 + i]? = some (some (.data (iL (getLL rows (i : Int))))) := by unfold HC; rw [List.getElem?_append_left hl]; exact h1
  rw [e_stO (call := call) (H := HC n rows c) (id := 1 + i) (l := getLL rows (i : Int)) (i := j) (v := x) (data?_iff.2 h2) (by rw [h.get hi]; exact hj)]
  injection h0 with h0
  injection h0 with _ h0
  unfold HC
  rw [← h0, List.set_append_left _ _ hl]
theorem gcHC {pre gs1 gs2 : List AV} {n M c : Nat} {rows : List (List Int)} (h : Rows n rows) (hn : n < 100) (hp : idFreeL pre = true) (hpl : pre.length ≤ 20) (hg1 : idFreeL gs1 = true) (hg1l : gs1.length ≤ 20) (hg2 : idFreeL gs2 = true) :
    gc 0 (pre ++ .sl 0 1 0 M :: (gs1 ++ .ptr (n + 1) 0 :: gs2)) (HC n rows c) = some (pre ++ .sl 0 1 0 M :: (gs1 ++ .ptr (n + 1) 0 :: gs2), HC n rows c) := by
  have ra := ra_hb h [some (.data (iL [(c : Int)]))]
  have := gcQ (H := HC n rows c) (pre := pre) (gs1 := gs1) (gs2 := gs2) (p := 0) (q := n + 1) (M := M) (is := List.range' 1 n) (R := rows.map iL) (c := .int .i64 (c : Int)) hp hpl hg1 hg1l hg2 ra.bx (by simp [h.len]) (fun j i l hj hl => by
    rw [show HC n rows c = HB n rows ++ [some (.data (iL [(c : Int)]))] from rfl, ra.rw j i hj]
    have hjr : j < rows.length := by have := (List.getElem?_eq_some_iff.1 hl).1; simpa using this
    rw [rows_at hjr] at hl
    injection hl with hl
    rw [hl]) (hc_cell h) (by
      simp only [List.nodup_cons, List.mem_append, List.mem_range'_1, List.mem_singleton, List.nodup_append, List.nodup_range', List.not_mem_nil, not_false_eq_true, true_and, and_true]
      refine ⟨by omega, List.nodup_range', by simp, fun a ha b hb => ?_⟩
      omega) (by simpa using hn)
  rw [this]
  simp [HC, HB, iL]
theorem gcHC0 {pre gs : List AV} {n M c : Nat} {rows : List (List Int)} (h : Rows n rows) (hn : n < 100) (hp : idFreeL pre = true) (hpl : pre.length ≤ 20) (hg : idFreeL gs = true) :
    gc 0 (pre ++ .sl 0 1 0 M :: gs) (HC n rows c) = some (pre ++ .sl 0 1 0 M :: gs, HB n rows) := by
  have ra := ra_hb h [some (.data (iL [(c : Int)]))]
  have := gcR (H := HC n rows c) (pre := pre) (gs := gs) (p := 0) (M := M) (is := List.range' 1 n) (R := rows.map iL) hp hpl hg ra.bx (by simp [h.len]) (fun j i l hj hl => by
    rw [show HC n rows c = HB n rows ++ [some (.data (iL [(c : Int)]))] from rfl, ra.rw j i hj]
    have hjr : j < rows.length := by have := (List.getElem?_eq_some_iff.1 hl).1; simpa using this
    rw [rows_at hjr] at hl
    injection hl with hl
    rw [hl]) (by simp [List.mem_range'_1, List.nodup_range']) (by simpa using hn)
  rw [this]
  simp [HB]
def HP (n : Nat) (rows : List (List Int)) : Heap := some (.box (refs (List.range' 1 rows.length) (rows.map iL) ++ List.replicate (n - rows.length) .nilS)) :: rowsH (rows.map iL)
theorem hp_full {n : Nat} {rows : List (List Int)} (h : Rows n rows) : HP n rows = HB n rows := by
  unfold HP HB
  rw [h.len]
  simp
structure RowsP (i n : Nat) (rows : List (List Int)) : Prop where
  len : rows.length = i
  each : ∀ r ∈ rows, r.length = n
theorem RowsP.get {k n : Nat} {rows : List (List Int)} (h : RowsP k n rows) {i : Nat} (hi : i < k) : (getLL rows (i : Int)).length = n := by
  rw [getLL_nat]
  have : i < rows.length := by rw [h.len]; exact hi
  simp only [List.getD, List.getElem?_eq_getElem this, Option.getD_some]
  exact h.each _ (List.getElem_mem this)
theorem RowsP.set {k n i j : Nat} {x : Int} {rows : List (List Int)} (h : RowsP k n rows) (hi : i < k) : RowsP k n (setLL rows i j x) := by
  refine ⟨by simp [setLL, h.len], fun r hr => ?_⟩
  unfold setLL at hr
  rcases List.mem_or_eq_of_mem_set hr with hr | hr
  · exact h.each r hr
  · rw [hr, List.length_set]; exact h.get hi
theorem RowsP.setget {k n i j p q : Nat} {x : Int} {rows : List (List Int)} (h : RowsP k n rows) (hi : i < k) (hj : j < n) : getI (getLL (setLL rows i j x) (p : Int)) (q : Int) = if p = i ∧ q = j then x else getI (getLL rows (p : Int)) (q : Int) := by
  have hil : i < rows.length := by rw [h.len]; exact hi
  have hrl := h.get hi
  have e : getLL (setLL rows i j x) (p : Int) = if p = i then (getLL rows (i : Int)).set j x else getLL rows (p : Int) := by
    unfold setLL
    rw [getLL_nat, getLL_nat rows p]
    by_cases hp : p = i
    · subst hp; simp [List.getD, hil]
    · rw [if_neg hp]; simp [List.getD, List.getElem?_set_ne (Ne.symm hp)]
  rw [e]
  by_cases hp : p = i
  · subst hp
    rw [if_pos rfl, getI_set (by omega)]
    by_cases hq : q = j
    · rw [if_pos hq, if_pos ⟨rfl, hq⟩]
    · rw [if_neg hq, if_neg (fun h => hq h.2)]
  · rw [if_neg hp, if_neg (fun h => hp h.1)]
theorem hp_row {k n i : Nat} {rows : List (List Int)} (h : RowsP k n rows) (hi : i < k) : (HP n rows)[1 + i]? = some (some (.data (iL (getLL rows (i : Int))))) := by
  have hil : i < rows.length := by rw [h.len]; exact hi
  unfold HP
  rw [Nat.add_comm, List.getElem?_cons_succ]
  exact rowsH_get (rows_at hil)
theorem hp_ld {k n i : Nat} {rows : List (List Int)} (h : RowsP k n rows) (hi : i < k) : evP (HP n rows) (.ld false 1) [.ptr 0 i] = some (.sl (1 + i) 1 0 n) := by
  have hil : i < rows.length := by rw [h.len]; exact hi
  have hc : Heap.cells? (HP n rows) 0 = some (refs (List.range' 1 rows.length) (rows.map iL) ++ List.replicate (n - rows.length) .nilS) := rfl
  have hr := refs_get (is := List.range' 1 rows.length) (ll := rows.map iL) (j := i) (i := 1 + i) (rng1 hil) (rows_at hil)
  rw [iL_len, h.get hi] at hr
  have hr2 : (refs (List.range' 1 rows.length) (rows.map iL) ++ List.replicate (n - rows.length) AV.nilS)[i]? = some (.sl (1 + i) 1 0 n) := by
    rw [List.getElem?_append_left (List.getElem?_eq_some_iff.1 hr).1]; exact hr
  generalize refs (List.range' 1 rows.length) (rows.map iL) ++ List.replicate (n - rows.length) AV.nilS = cs at *
  obtain ⟨h1, h2⟩ := List.getElem?_eq_some_iff.1 hr2
  have h5 : i + 1 ≤ cs.length := by omega
  simp only [evP, ldc, getRow, hc, Option.bind_some, if_pos h5]
  rw [List.drop_eq_getElem_cons h1, h2]
  simp [wholeOf]
theorem hp_st {call : CallF} {k n i j : Nat} {x : Int} {rows : List (List Int)} (h : RowsP k n rows) (hi : i < k) (hj : j < n) : evE call (HP n rows) (.st 1) [.ptr (1 + i) j, .int .i64 x] = some (.undef, HP n (setLL rows i j x)) := by
  have hil : i < rows.length := by rw [h.len]; exact hi
  have h1 := hp_row h hi
  rw [e_stO (call := call) (H := HP n rows) (id := 1 + i) (l := getLL rows (i : Int)) (i := j) (v := x) (data?_iff.2 h1) (by rw [h.get hi]; exact hj)]
  have e1 : (HP n rows).set (1 + i) (some (.data (iL ((getLL rows (i : Int)).set j x)))) = HP n (setLL rows i j x) := by
    unfold HP
    rw [Nat.add_comm, List.set_cons_succ]
    have e2 : (rowsH (rows.map iL)).set i (some (.data (iL ((getLL rows (i : Int)).set j x)))) = rowsH ((setLL rows i j x).map iL) := by
      simp [rowsH, setLL, List.map_set]
    have e4 : (setLL rows i j x).length = rows.length := by simp [setLL]
    have e3 : refs (List.range' 1 rows.length) (rows.map iL) = refs (List.range' 1 rows.length) ((setLL rows i j x).map iL) := refs_len _ (by
      refine List.ext_getElem (by simp [setLL]) fun q h1 h2 => ?_
      simp only [List.length_map] at h1
      have hkn : q < k := by rw [← h.len]; exact h1
      have a := h.get hkn
      have c := (h.set (x := x) (j := j) hi).get hkn
      rw [getLL_nat] at a c
      have h3 : q < (setLL rows i j x).length := by simpa [setLL] using h1
      simp only [List.getD, List.getElem?_eq_getElem h1, List.getElem?_eq_getElem h3, Option.getD_some] at a c
      simp [iL_len, a, c])
    rw [e2, e3, e4]
  rw [e1]
theorem hp_new {call : CallF} {k n : Nat} {rows : List (List Int)} (h : RowsP k n rows) (hk : k < n) : evE call (HP n rows ++ [some (.data (iL (List.replicate n 0)))]) (.st 1) [.ptr 0 k, .sl (1 + k) 1 0 n] = some (.undef, HP n (rows ++ [List.replicate n 0])) := by
  have hl := h.len
  have hlen : (refs (List.range' 1 rows.length) (rows.map iL)).length = k := by rw [refs_length (by simp)]; simp [hl]
  have h0 : (HP n rows ++ [some (.data (iL (List.replicate n 0)))])[0]? = some (some (.box (refs (List.range' 1 rows.length) (rows.map iL) ++ List.replicate (n - rows.length) .nilS))) := rfl
  have e0 : ((refs (List.range' 1 rows.length) (rows.map iL) ++ List.replicate (n - rows.length) AV.nilS)).length = n := by rw [List.length_append, hlen]; simp; omega
  have hz := iL_len (List.replicate n 0)
  rw [List.length_replicate] at hz
  have e1 : putRow (refs (List.range' 1 rows.length) (rows.map iL) ++ List.replicate (n - rows.length) AV.nilS) k [.sl (1 + k) 1 0 n] = refs (List.range' 1 (rows ++ [List.replicate n 0]).length) ((rows ++ [List.replicate n 0]).map iL) ++ List.replicate (n - (rows ++ [List.replicate n 0]).length) AV.nilS := by
    unfold putRow
    rw [List.take_append_of_le_length (by omega), List.take_of_length_le (by omega), List.drop_append, hlen, List.drop_of_length_le (by simp; omega)]
    rw [List.map_append, show (rows ++ [List.replicate n (0 : Int)]).length = rows.length + 1 by simp, show List.range' 1 (rows.length + 1) = List.range' 1 rows.length ++ [1 + rows.length] by rw [List.range'_concat]; simp, refs_append (by simp)]
    simp [refs, hz, hl]
    omega
  have hstep : stAt (HP n rows ++ [some (.data (iL (List.replicate n 0)))]) 1 (.ptr 0 k) (.sl (1 + k) 1 0 n) = some ((HP n rows ++ [some (HO.data (iL (List.replicate n 0)))]).set 0 (some (.box (putRow (refs (List.range' 1 rows.length) (rows.map iL) ++ List.replicate (n - rows.length) AV.nilS) k [.sl (1 + k) 1 0 n])))) := by
    have hb : k + 1 ≤ (refs (List.range' 1 rows.length) (rows.map iL) ++ List.replicate (n - rows.length) AV.nilS).length := by omega
    simp only [stAt, h0, cells_sl, List.length_singleton, oneL, AV.one, Bool.and_self, and_self, if_true, if_pos hb]
  simp only [evE, hstep, Option.map_some, e1]
  unfold HP
  simp [rowsH]
theorem reach_nils {H : Heap} {k : Nat} {acc : List Nat} {z : Nat} {gs : List AV} (hz : z ≤ k) : reach H k acc (List.replicate z .nilS ++ gs) = reach H (k - z) acc gs := by
  induction z generalizing k with
  | zero => rfl
  | succ z ih =>
    obtain ⟨k, rfl⟩ : ∃ j, k = j + 1 := ⟨k - 1, by omega⟩
    rw [List.replicate_succ, List.cons_append, reach_skip rfl, ih (by omega)]
    congr 1
    omega
theorem gcHP {pre gs : List AV} {i n M : Nat} {rows : List (List Int)} (h : RowsP i n rows) (hi : i ≤ n) (hn : n < 100) (hp : idFreeL pre = true) (hpl : pre.length ≤ 20) (hg : idFreeL gs = true) :
    gc 0 (pre ++ .sl 0 1 0 M :: gs) (HP n rows) = some (pre ++ .sl 0 1 0 M :: gs, HP n rows) := by
  have hl : (List.range' 1 rows.length).length = (rows.map iL).length := by simp
  have hd : (0 :: List.range' 1 rows.length).Nodup := by simp [List.mem_range'_1, List.nodup_range']
  have hR : ∀ (j i : Nat) (l : List AV), (List.range' 1 rows.length)[j]? = some i → (rows.map iL)[j]? = some l → (HP n rows)[i]? = some (some (.data l)) := rng_rows0 [some (.box (refs (List.range' 1 rows.length) (rows.map iL) ++ List.replicate (n - rows.length) AV.nilS))] (s := 1) (q := rows.length) (R := rows.map iL) rfl
  have hlr := h.len
  have hφ : nodupB (0 :: List.range' 1 rows.length) = true := nodupB_iff.2 hd
  have q1 : posOf (0 :: List.range' 1 rows.length) 0 = some 0 := posOf_of_get hφ (j := 0) rfl
  have pr : renL (posOf (0 :: List.range' 1 rows.length)) (refs (List.range' 1 rows.length) (rows.map iL)) = some (refs (List.range' 1 rows.length) (rows.map iL)) := by
    have := renL_refs hφ (List.range' 1 rows.length) (rows.map iL) 1 hl fun j i h => by rw [Nat.add_comm]; exact h
    simpa using this
  have hpick := pickO_refs (H := HP n rows) (List.range' 1 rows.length) (rows.map iL) hl hR
  obtain ⟨d1, d2⟩ := List.nodup_cons.1 hd
  have hnf : idFreeL (List.replicate (n - rows.length) AV.nilS) = true := by
    generalize n - rows.length = z
    induction z with
    | zero => rfl
    | succ z ih => rw [List.replicate_succ]; simp only [idFreeL, AV.idFree, Bool.true_and]; exact ih
  refine gc_of (φ := 0 :: List.range' 1 rows.length) ?_ hφ (vs' := pre ++ .sl 0 1 0 M :: gs) ?_ (Hp := HP n rows) ?_ ?_
  · have b2 : boxCells (HP n rows) 0 = refs (List.range' 1 rows.length) (rows.map iL) ++ List.replicate (n - rows.length) .nilS := rfl
    have e : reach (HP n rows) 400 (rangeL 0 []) (roots (HP n rows) (rangeL 0 []) ++ (pre ++ .sl 0 1 0 M :: gs)) = reach (HP n rows) (399 - pre.length) [0] (refs (List.range' 1 rows.length) (rows.map iL) ++ (List.replicate (n - rows.length) .nilS ++ gs)) := by
      have h1 : rangeL 0 [] = [] := rfl
      have h2 : roots (HP n rows) (rangeL 0 []) = [] := rfl
      rw [h2, List.nil_append, h1, show (400 : Nat) = (400 - pre.length) + pre.length by omega, reach_pre pre hp, show 400 - pre.length = (399 - pre.length) + 1 by omega, reach_new, b2]
      simp
    rw [e, reach_refs' (is := List.range' 1 rows.length) (ll := rows.map iL) (by simp; omega) hl (fun i hi => ?_) d2 (rows_box hl hR), reach_nils (by simp; omega), reach_free _ _ _ _ hg]
    · rfl
    · have h3 : i ≠ 0 := fun e => d1 (e ▸ hi)
      simp [h3]
  · rw [renL_append, renL_free hp]
    simp [renL, AV.ren, q1, renL_free hg]
  · show pickO _ (0 :: List.range' 1 rows.length) = _
    have h0 : (HP n rows)[0]? = some (some (.box (refs (List.range' 1 rows.length) (rows.map iL) ++ List.replicate (n - rows.length) .nilS))) := rfl
    simp only [pickO, h0, Option.bind_some, hpick, Option.map_some]
    rfl
  · show renH _ (some (.box (refs (List.range' 1 rows.length) (rows.map iL) ++ List.replicate (n - rows.length) .nilS)) :: rowsH (rows.map iL)) = _
    simp only [renH, renO, renL_append, pr, renL_free hnf, Option.bind_some, Option.map_some, renH_rows]
    rfl
set_option maxHeartbeats 4000000
theorem f86 {x : AV} {l : List Int} {c : Nat} (hx : IsL x l) (hc : c < l.length) {m : Nat} (hm : 2 ≤ m) : evF tab it m 86 [x, .rp [.int .i64 (c : Int)]] [] = some (.bool (decide (getI l (c : Int) ≠ 0)), []) := by
  obtain ⟨m, rfl⟩ : ∃ j, m = j + 1 := ⟨m - 1, by omega⟩
  have ldc : ∀ H, evP H (.ld false 1) [.rp [.int .i64 (c : Int)]] = some (.int .i64 (c : Int)) := fun H => by simp [evP, ldc, getRow, wholeOf]
  refine f_enter rfl rfl ?_
  generalize evF tab it m = call at *
  repeat' first
 | (apply s_mov; exact aW)
 | (apply c_nil)
 | (apply s_neq; exact rfl; all_goals (intro _; try (exfalso; omega)))
 | (apply s_pn; exact aO; exact ldc _)
 | (apply s_idx; exact aW; exact rfl; exact aI; omega)
 | (apply s_ldI; exact rfl; omega)
 | (apply c_seq)
 | (apply c_reg)
 | (apply c_ret)
 | (with_reducible apply k_c)
  · exact fin_t (by (conv => lhs; whnf)) (by rfl) (by rename_i h; simp [h])
  · exact fin_t (by (conv => lhs; whnf)) (by rfl) (by rename_i h; simp [h])
def fiR (c : Nat) : List (List Int) → Nat → Int
  | [], _ => -1
  | r :: L, k => if getI r (c : Int) ≠ 0 then k else fiR c L (k + 1)
theorem dropLL {L : List (List Int)} {i : Nat} (h : i < L.length) : L.drop i = getLL L (i : Int) :: L.drop (i + 1) := by
  rw [getLL_nat]
  simp [List.getD, h]
theorem f85 {x : AV} {L : List (List Int)} {c n : Nat} (hx : IsLL x L) (hl : L.length ≤ 20) (hr : ∀ i, i < L.length → (getLL L (i : Int)).length = n) (hc : c < n) {m : Nat} (hm : 60 ≤ m) :
    evF tab it m 85 [x, .fn 86 [.rp [.int .i64 (c : Int)]]] [] = some (.int .i64 (fiR c L 0), []) := by
  obtain ⟨m, rfl⟩ : ∃ j, m = j + 1 := ⟨m - 1, by omega⟩
  have fx := hx.free
  have e86 := fun (i : Nat) (hi : i < L.length) => f86 (c := c) (hx.at (i := (i : Int)) ⟨by omega, by omega⟩) (by rw [hr i hi]; exact hc) (m := m) (by omega)
  have hp := fun (i : Nat) (hi : i < L.length) H => callPure_free (H := H) (call := evF tab it m) (f := 86) (args := [llAt x (i : Int), .rp [.int .i64 (c : Int)]]) (by simp [idFreeL, AV.idFree, (hx.at (i := (i : Int)) ⟨by omega, by omega⟩).free]) (by simp) (e86 i hi) rfl
  generalize hR : fiR c L 0 = R
  refine f_enter rfl rfl ?_
  generalize evF tab it m = call at *
  repeat' first
 | (apply s_mov; exact aW)
 | (apply c_nil)
 | (apply s_lenLL; exact aW; assumption)
 | (apply c_seq)
 | (apply c_reg)
 | (apply c_block)
 | (with_reducible apply k_c)
  refine c_loop ?_
  refine loop_gc (σ := Nat) (fun i => [x, .fn 86 [.rp [.int .i64 (c : Int)]], .int .i64 (L.length : Int), .int .i64 (i : Int)]) (fun _ => []) (fun i => i ≤ L.length ∧ fiR c (L.drop i) i = R) (fun i => L.length - i) ?_ _ 0 _ _ ⟨by omega, hR⟩ (by omega) (gc_to rfl (by simp [idFreeL, AV.idFree, fx]))
  intro i ⟨hi, hr⟩ K hK
  by_cases hiF : i < L.length
  · have ecv : evE call [] (.callv true true) [.fn 86 [.rp [.int .i64 (c : Int)]], llAt x (i : Int)] = some (.bool (decide (getI (getLL L (i : Int)) (c : Int) ≠ 0)), []) := by
      simpa [evE] using hp i hiF []
    rw [dropLL hiF] at hr
    simp only [fiR] at hr
    by_cases hq : getI (getLL L (i : Int)) (c : Int) ≠ 0
    · rw [decide_eq_true hq] at ecv
      rw [if_pos hq] at hr
      repeat' first
 | (apply s_mov; exact aW)
 | (apply c_nil)
 | (apply s_lss; exact rfl; all_goals (intro _; try (exfalso; omega)))
 | (apply s_en; exact aO; exact ecv)
 | (apply s_idxLL; exact aW; exact rfl; assumption; omega)
 | (apply s_ldLL; exact rfl; assumption; omega)
 | (apply c_seq)
 | (apply c_reg)
 | (apply c_block)
 | (apply c_skip)
 | (apply c_ret)
 | (apply c_condT; exact rfl)
 | (with_reducible apply k_c)
      all_goals exact fin_t (by (conv => lhs; whnf)) (by rfl) (by rw [hr])
    · rw [decide_eq_false hq] at ecv
      rw [if_neg hq] at hr
      repeat' first
 | (apply s_mov; exact aW)
 | (apply c_nil)
 | (apply s_lss; exact rfl; all_goals (intro _; try (exfalso; omega)))
 | (apply s_add; exact rfl; omega)
 | (apply s_en; exact aO; exact ecv)
 | (apply s_idxLL; exact aW; exact rfl; assumption; omega)
 | (apply s_ldLL; exact rfl; assumption; omega)
 | (apply c_seq)
 | (apply c_reg)
 | (apply c_block)
 | (apply c_skip)
 | (apply c_condT; exact rfl)
 | (apply c_condF; exact rfl)
 | (with_reducible apply k_c)
      all_goals exact hK (i + 1) _ _ ⟨by omega, hr⟩ (by omega) (gc_to rfl (by simp [idFreeL, AV.idFree, fx]))
  · obtain rfl : L.length = i := by omega
    rw [List.drop_length] at hr
    simp only [fiR] at hr
    repeat' first
 | (apply s_mov; exact aW)
 | (apply c_nil)
 | (apply s_lss; exact rfl; all_goals (intro _; try (exfalso; omega)))
 | (apply c_seq)
 | (apply c_reg)
 | (apply c_exitH)
 | (apply c_ret)
 | (apply c_condF; exact rfl)
 | (apply c_preF; exact aK; exact aF)
 | (with_reducible apply k_c)
    exact fin_t (by (conv => lhs; whnf)) (by rfl) (by rw [← hr])
theorem fiR_neg {c : Nat} : ∀ (L : List (List Int)) (k : Nat), fiR c L k < 0 → ∀ i : Nat, i < L.length → getI (getLL L (i : Int)) (c : Int) = 0
  | [], k, _, i, hi => by simp at hi
  | r :: L, k, h, i, hi => by
    simp only [fiR] at h
    split at h
    · omega
    · rename_i h0
      cases i with
      | zero =>
        have e : getLL (r :: L) ((0 : Nat) : Int) = r := by rw [getLL_nat]; rfl
        rw [e]; omega
      | succ i =>
        have e : getLL (r :: L) ((i + 1 : Nat) : Int) = getLL L (i : Int) := by rw [getLL_nat, getLL_nat]; rfl
        rw [e]
        exact fiR_neg L (k + 1) h i (by simpa using hi)
theorem fiR_pos {c : Nat} : ∀ (L : List (List Int)) (k : Nat), 0 ≤ fiR c L k → ∃ i : Nat, i < L.length ∧ fiR c L k = ((k + i : Nat) : Int) ∧ getI (getLL L (i : Int)) (c : Int) ≠ 0
  | [], k, h => by simp [fiR] at h
  | r :: L, k, h => by
    simp only [fiR] at h ⊢
    by_cases h0 : getI r (c : Int) ≠ 0
    · rw [if_pos h0]
      refine ⟨0, by simp, by simp, ?_⟩
      have e : getLL (r :: L) ((0 : Nat) : Int) = r := by rw [getLL_nat]; rfl
      rw [e]; exact h0
    · rw [if_neg h0] at h ⊢
      obtain ⟨i, a, b, d⟩ := fiR_pos L (k + 1) h
      refine ⟨i + 1, by simpa using a, by rw [b]; congr 1; omega, ?_⟩
      have e : getLL (r :: L) ((i + 1 : Nat) : Int) = getLL L (i : Int) := by rw [getLL_nat, getLL_nat]; rfl
      rw [e]; exact d
theorem hc_frz {n c : Nat} {rows : List (List Int)} (h : Rows n rows) (hc : c < n) (hn2 : n ≤ 12) : frzL (HC n rows c) 40 [.sl 0 1 c (n - c), .fn 86 [.ptr (n + 1) 0]] = some [fzLL (rows.drop c), .fn 86 [.rp [.int .i64 (c : Int)]]] := by
  have ra := ra_hb h [some (.data (iL [(c : Int)]))]
  have hl : (List.range' 1 n).length = (rows.map iL).length := by simp [h.len]
  have hR : ∀ (j i : Nat) (l : List AV), (List.range' 1 n)[j]? = some i → (rows.map iL)[j]? = some l → (HC n rows c)[i]? = some (some (.data l)) := fun j i l hj hl => by
    rw [show HC n rows c = HB n rows ++ [some (.data (iL [(c : Int)]))] from rfl, ra.rw j i hj]
    have hjr : j < rows.length := by have := (List.getElem?_eq_some_iff.1 hl).1; simpa using this
    rw [rows_at hjr] at hl
    injection hl with hl
    rw [hl]
  have hz := frzL_refs (H := HC n rows c) (List.range' 1 n) (rows.map iL) 37 hl (by simp; omega) hR
  have hm : ((rows.map iL).map fun l => AV.rd 1 l.length l) = rows.map fzL := by
    rw [List.map_map]
    refine List.map_congr_left fun r hr => ?_
    have := h.each r hr
    rw [fzL_ne this (by omega)]
    simp [iL_len, this]
  rw [hm] at hz
  have hbx : Heap.box? (HC n rows c) 0 = some (refs (List.range' 1 n) (rows.map iL)) := rfl
  have hda : Heap.data? (HC n rows c) 0 = none := rfl
  have e1 : frzV (HC n rows c) 39 (.sl 0 1 c (n - c)) = some (fzLL (rows.drop c)) := by
    rw [frzV_sl, hda, hbx]
    simp only [Option.none_or, Option.bind_some, hz]
    have hlr := h.len
    rw [if_pos (by rw [List.length_map]; omega)]
    have hd : (rows.drop c).length = n - c := by rw [List.length_drop]; omega
    have ht : ((rows.map fzL).drop c).take ((n - c) * 1) = (rows.drop c).map fzL := by
      rw [← List.map_drop]
      exact List.take_of_length_le (by rw [List.length_map]; omega)
    rw [ht]
    cases hq : rows.drop c with
    | nil => rw [hq] at hd; simp at hd; omega
    | cons r rs => rw [hq] at hd; simp only [List.length_cons] at hd; simp only [fzLL, hd]
  have hcell := hc_cell (c := c) h
  have e2 : frzV (HC n rows c) 38 (.fn 86 [.ptr (n + 1) 0]) = some (.fn 86 [.rp [.int .i64 (c : Int)]]) := by
    simp [frzV, idFreeL, AV.idFree, frzL, hcell, iL]
  exact frzL_cons e1 (frzL_cons e2 frzL_nil)
theorem c85 {n c : Nat} {rows : List (List Int)} (h : Rows n rows) (hc : c < n) (hn2 : n ≤ 12) {m : Nat} (hm : 60 ≤ m) : callPure (evF tab it m) true 85 [.sl 0 1 c (n - c), .fn 86 [.ptr (n + 1) 0]] (HC n rows c) = some (.int .i64 (fiR c (rows.drop c) 0), HC n rows c) := by
  have hd : (rows.drop c).length = n - c := by rw [List.length_drop, h.len]
  have f := f85 (c := c) (n := n) (isLL_fz (rows.drop c)) (by omega) (fun i hi => by
    have e : getLL (rows.drop c) (i : Int) = getLL rows ((c + i : Nat) : Int) := by rw [getLL_nat, getLL_nat]; simp [List.getD]
    rw [e]
    exact h.get (by omega)) hc hm
  simp only [callPure, hc_frz h hc hn2, Option.bind_some, f]
  simp [AV.hasRd, frzV_int]
end Go.AM.Ch
