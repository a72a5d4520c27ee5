/- A part of the proof: U27. -/
import Derived.Test.YtmegimhfoedcdaaU26
set_option linter.unusedSectionVars false
set_option linter.unusedVariables false
set_option linter.unusedSimpArgs false
namespace Go.AM.Ch
set_option maxHeartbeats 1000000
/-! ### settling, plain -/
/-- k at one place -/
def unit (v : Nat) (k : Int) (j : Nat) : Int := if j = v then k else 0
theorem net_unit_self {n : Nat} {E : Nat → Nat → Int} (g : Gr n E) {v : Nat} (hv : v < n) {k : Int} (hk : 0 ≤ k) : net n E (unit v k) v ≤ k * deg n E v := by
  unfold net deg
  rw [sumTo_mul]
  refine sumTo_mono fun j hj => ?_
  try dsimp only
  rw [Int.mul_comm]
  refine Int.mul_le_mul_of_nonneg_right ?_ (g.nn v j hv hj)
  unfold unit
  rw [if_pos rfl]
  split <;> omega
theorem net_unit_other {n : Nat} {E : Nat → Nat → Int} (g : Gr n E) {v w : Nat} (hw : w < n) (hne : w ≠ v) {k : Int} (hk : 0 ≤ k) : net n E (unit v k) w ≤ 0 := by
  rw [show (0 : Int) = sumTo (fun _ => 0) n from (sumTo_zero n).symm]
  unfold net
  refine sumTo_mono fun j hj => ?_
  have := Int.mul_nonneg (g.nn w j hw hj) (show 0 ≤ unit v k j by unfold unit; split <;> omega)
  have e : unit v k w = 0 := by unfold unit; rw [if_neg hne]
  rw [e, Int.zero_sub, Int.mul_neg]
  omega
/-- a legal script, none of it too much -/
structure SetOk (n : Nat) (E : Nat → Nat → Int) (q : Nat) (c t : Nat → Int) : Prop where
  nn : ∀ v, v < n → 0 ≤ t v
  q0 : t q = 0
  pos : ∀ v, v < n → v ≠ q → 0 ≤ ap n E c t v
  lst : ∀ T : Nat → Int, (∀ v, v < n → 0 ≤ T v) → T q = 0 → (∀ v, v < n → v ≠ q → ap n E c T v < deg n E v) → ∀ v, v < n → t v ≤ T v
theorem ap_congr {n : Nat} {E : Nat → Nat → Int} {c c' t t' : Nat → Int} {v : Nat} (hv : v < n) (h : ∀ j, j < n → t j = t' j) (hc : c v = c' v) : ap n E c t v = ap n E c' t' v := by
  unfold ap
  rw [hc, net_congr hv h]
theorem SetOk.congr {n : Nat} {E : Nat → Nat → Int} {q : Nat} (hq : q < n) {c t t' : Nat → Int} (h : SetOk n E q c t) (e : ∀ j, j < n → t j = t' j) : SetOk n E q c t' :=
  ⟨fun v hv => by rw [← e v hv]; exact h.nn v hv, by rw [← e q hq]; exact h.q0, fun v hv hvq => by rw [← ap_congr hv e rfl]; exact h.pos v hv hvq, fun T a b d v hv => by rw [← e v hv]; exact h.lst T a b d v hv⟩
theorem SetOk.init {n : Nat} {E : Nat → Nat → Int} {q : Nat} {c : Nat → Int} (h : ∀ v, v < n → v ≠ q → 0 ≤ c v) : SetOk n E q c (fun _ => 0) :=
  ⟨fun _ _ => Int.le_refl _, rfl, fun v hv hvq => by unfold ap; rw [net_const]; have := h v hv hvq; omega, fun T hT _ _ v hv => hT v hv⟩
theorem SetOk.step {n : Nat} {E : Nat → Nat → Int} (g : Gr n E) {q : Nat} {c t : Nat → Int} (h : SetOk n E q c t) {v : Nat} (hv : v < n) (hvq : v ≠ q) {k : Int} (hk : 1 ≤ k) (hl : k * deg n E v ≤ ap n E c t v) : SetOk n E q c (fun j => t j + unit v k j) := by
  refine ⟨fun w hw => ?_, ?_, fun w hw hwq => ?_, fun T a b d w hw => ?_⟩
  · have := h.nn w hw
    unfold unit
    split <;> omega
  · have := h.q0
    unfold unit
    rw [if_neg (fun e => hvq e.symm)]
    omega
  · have e : ap n E c (fun j => t j + unit v k j) w = ap n E c t w - net n E (unit v k) w := by unfold ap; rw [net_add]; omega
    rw [e]
    by_cases hwv : w = v
    · subst hwv
      have := net_unit_self g hv (k := k) (by omega)
      omega
    · have := net_unit_other g hw hwv (k := k) (by omega)
      have := h.pos w hw hwq
      omega
  · have hle := h.lst T a b d
    by_cases hwv : w = v
    · subst hwv
      have := least g hle hv (d w hw hvq) hk hl
      unfold unit
      rw [if_pos rfl]
      exact this
    · have := hle w hw
      unfold unit
      rw [if_neg hwv]
      omega
/-- stable but at q -/
def Stab (n : Nat) (E : Nat → Nat → Int) (q : Nat) (c t : Nat → Int) : Prop := ∀ v, v < n → v ≠ q → ap n E c t v < deg n E v
theorem set_uniq {n : Nat} {E : Nat → Nat → Int} {q : Nat} {c t t' : Nat → Int} (h : SetOk n E q c t) (s : Stab n E q c t) (h' : SetOk n E q c t') (s' : Stab n E q c t') : ∀ v, v < n → t v = t' v := fun v hv => by
  have a := h.lst t' h'.nn h'.q0 s' v hv
  have b := h'.lst t h.nn h.q0 s v hv
  omega
/-- the chips of the other places -/
def oth (n : Nat) (q : Int) (f : Nat → Int) : Int := sumTo (fun i => if (i : Int) = q then 0 else f i) n
theorem oth_term {n q : Nat} {f : Nat → Int} (h : ∀ v, v < n → v ≠ q → 0 ≤ f v) {v : Nat} (hv : v < n) (hvq : v ≠ q) : f v ≤ oth n q f := by
  have := sumTo_term (f := fun i => if (i : Int) = (q : Int) then 0 else f i) (n := n) (k := v) (fun j hj => by
    try dsimp only
    split
    · exact Int.le_refl _
    · rename_i e; exact h j hj (fun e2 => e (by rw [e2]))) hv
  try dsimp only at this
  rw [if_neg (fun e => hvq (by omega))] at this
  exact this
theorem sumTo_unit (q : Nat) (a : Int) : ∀ n, sumTo (fun i => if (i : Int) = (q : Int) then a else 0) n = if q < n then a else 0
  | 0 => rfl
  | n + 1 => by
    simp only [sumTo]
    rw [sumTo_unit q a n]
    by_cases h : n = q
    · subst h; rw [if_neg (by omega), if_pos rfl, if_pos (by omega)]; omega
    · rw [if_neg (show ¬ ((n : Nat) : Int) = (q : Int) by omega)]
      by_cases h2 : q < n
      · rw [if_pos h2, if_pos (by omega)]; omega
      · rw [if_neg h2, if_neg (by omega)]; omega
theorem oth_eq {n q : Nat} (hq : q < n) (f : Nat → Int) : oth n q f = sumTo f n - f q := by
  have h : sumTo f n = oth n q f + sumTo (fun i => if (i : Int) = (q : Int) then f q else 0) n := by
    unfold oth
    rw [← sumTo_add]
    refine sumTo_congr fun i _ => ?_
    by_cases e : (i : Int) = (q : Int)
    · rw [if_pos e, if_pos e]; have : i = q := by omega
      rw [this]; omega
    · rw [if_neg e, if_neg e]; omega
  rw [sumTo_unit, if_pos hq] at h
  omega
theorem oth_nn {n q : Nat} {f : Nat → Int} (h : ∀ v, v < n → v ≠ q → 0 ≤ f v) : 0 ≤ oth n q f := sumTo_nn fun j hj => by
  try dsimp only
  split
  · exact Int.le_refl _
  · rename_i e; exact h j hj (fun e2 => e (by rw [e2]))
theorem SetOk.le {n : Nat} {E : Nat → Nat → Int} (g : Gr n E) {q : Nat} (hq : q < n) {D : Nat → Int} (d : Dst n E q D) {c t : Nat → Int} (hc : ∀ v, v < n → v ≠ q → 0 ≤ c v) {M : Int} (hM : oth n q c ≤ M) (h : SetOk n E q c t) :
    (∀ v, v < n → v ≠ q → ap n E c t v ≤ M) ∧ (c q ≤ ap n E c t q ∧ ap n E c t q ≤ c q + M) ∧ (∀ v, v < n → 0 ≤ t v ∧ t v ≤ n * (n * M)) ∧ oth n q (ap n E c t) ≤ M := by
  have hn := g.sz
  have hsum := ap_sum g c t
  have e1 := oth_eq hq c
  have e2 := oth_eq hq (ap n E c t)
  have o1 := oth_nn hc
  have o2 := oth_nn h.pos
  have hnq : net n E t q ≤ 0 := by
    rw [show (0 : Int) = sumTo (fun _ => 0) n from (sumTo_zero n).symm]
    unfold net
    refine sumTo_mono fun j hj => ?_
    have := Int.mul_nonneg (g.nn q j hq hj) (h.nn j hj)
    rw [h.q0, Int.zero_sub, Int.mul_neg]
    omega
  have hcq : c q ≤ ap n E c t q := by unfold ap; omega
  have hle : ∀ v, v < n → v ≠ q → ap n E c t v ≤ M := fun v hv hvq => by
    have := oth_term h.pos hv hvq
    omega
  refine ⟨hle, ⟨hcq, by omega⟩, fun v hv => ⟨h.nn v hv, ?_⟩, by omega⟩
  have hs := script_le g d (t := t) (B := M) (by omega) h.q0 (fun w hw hwq => by
    have a := hle w hw hwq
    have b := h.pos w hw hwq
    have c1 := hc w hw hwq
    have c2 := oth_term hc hw hwq
    unfold ap at a b
    omega) n v hv (d.le v hv)
  exact hs.2
/-- firing costs weight -/
theorem pot_step {n : Nat} {E : Nat → Nat → Int} (g : Gr n E) {q : Nat} {D : Nat → Int} (d : Dst n E q D) {c t : Nat → Int} {v : Nat} (hv : v < n) (hvq : v ≠ q) {k : Int} (hk : 1 ≤ k) : pot n D (ap n E c (fun j => t j + unit v k j)) < pot n D (ap n E c t) := by
  have e : pot n D (ap n E c (fun j => t j + unit v k j)) = pot n D (ap n E (ap n E c t) (unit v k)) := sumTo_congr fun i _ => by rw [ap_ap]
  have a := pot_ap g d (ap n E c t) (unit v k) (fun w _ => by unfold unit; split <;> omega) (by unfold unit; rw [if_neg (fun e => hvq e.symm)])
  have b := sumTo_term (f := unit v k) (n := n) (k := v) (fun w _ => by unfold unit; split <;> omega) hv
  have f : unit v k v = k := by unfold unit; rw [if_pos rfl]
  omega
/-- the script of settling -/
noncomputable def setT (b : List (List Int)) (s : List Int) (q : Nat) : List Int :=
  open Classical in if h : ∃ t : List Int, t.length = b.length ∧ SetOk b.length (ed b) q (gf s) (gf t) ∧ Stab b.length (ed b) q (gf s) (gf t) then Classical.choose h else []
theorem setT_eq {b : List (List Int)} {s : List Int} {q : Nat} {t : List Int} (hl : t.length = b.length) (h : SetOk b.length (ed b) q (gf s) (gf t)) (hs : Stab b.length (ed b) q (gf s) (gf t)) : t = setT b s q := by
  have hex : ∃ t : List Int, t.length = b.length ∧ SetOk b.length (ed b) q (gf s) (gf t) ∧ Stab b.length (ed b) q (gf s) (gf t) := ⟨t, hl, h, hs⟩
  unfold setT
  rw [dif_pos hex]
  obtain ⟨a, c, e⟩ := Classical.choose_spec hex
  exact ext_getI (by omega) fun i hi => set_uniq h hs c e i (by omega)
theorem apl_zero {b : List (List Int)} (h : IsB b) {s : List Int} (hs : s.length = b.length) : apl b s (List.replicate b.length 0) = s := by
  refine ext_getI (by rw [apl_len, hs]) fun i hi => ?_
  rw [apl_len] at hi
  rw [apl_ap h s _ hi]
  have : ap b.length (ed b) (gf s) (gf (List.replicate b.length 0)) i = ap b.length (ed b) (gf s) (fun _ => 0) i := ap_congr hi (fun j hj => by unfold gf; rw [getI_nat]; simp [List.getD, hj]) rfl
  rw [this]
  unfold ap
  rw [net_const]
  show gf s i - 0 = _
  unfold gf
  omega
theorem apl_pl {b : List (List Int)} (h : IsB b) {s t u : List Int} (ht : t.length = b.length) : apl b (apl b s t) u = apl b s (pl t u) := by
  refine ext_getI (by rw [apl_len, apl_len]) fun i hi => ?_
  rw [apl_len] at hi
  rw [apl_ap h _ _ hi, apl_ap h _ _ hi]
  have e1 : ap b.length (ed b) (gf (apl b s t)) (gf u) i = ap b.length (ed b) (ap b.length (ed b) (gf s) (gf t)) (gf u) i := ap_congr hi (fun _ _ => rfl) (apl_ap h s t hi)
  rw [e1, ap_ap]
  exact ap_congr hi (fun j hj => (pl_get (by omega)).symm) rfl
end Go.AM.Ch
