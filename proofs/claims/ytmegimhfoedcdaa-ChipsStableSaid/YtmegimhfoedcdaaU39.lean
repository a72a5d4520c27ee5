/- A part of the proof: U39. -/
import Derived.Test.YtmegimhfoedcdaaU38
set_option linter.unusedSectionVars false
set_option linter.unusedVariables false
set_option linter.unusedSimpArgs false
namespace Go.AM.Ch
set_option maxHeartbeats 8000000
theorem c81 {x y : AV} {b : List (List Int)} {l : List Int} {q : Nat} (hx : IsLL x b) (hy : IsL y l) (hB : IsB b) (hq : q < b.length) (hl : Near b.length q l) {m : Nat} (hm : smK ≤ m) (H : Heap) :
    callPure (evF tab it m) true 81 [x, y, .int .i64 (q : Int)] H = some (.rd 1 b.length (iL (redT b l q)), H) :=
  callPure_frz (by simp [idFreeL, AV.idFree, hx.free, hy.free]) (by simp) (f81 hx hy hB hq hl hm) (frz_sl rfl (redT_ok hB l hq).1)
/-- what the reduced numbers are below -/
theorem red_lt {n : Nat} {E : Nat → Nat → Int} (g : Gr n E) {q : Nat} {c : Nat → Int} (h : Red n E q c) {v : Nat} (hv : v < n) (hvq : v ≠ q) : 0 ≤ c v ∧ c v < n * 3 := by
  refine ⟨h.1 v hv hvq, ?_⟩
  obtain ⟨w, hw, hs, hlt⟩ := h.2 (fun u => u == v) (by simp; omega) ⟨v, hv, by simp⟩
  have : w = v := by simpa using hs
  subst this
  have h1 : outE n E (fun u => u == w) w ≤ deg n E w := sumTo_mono fun j hj => by
    have := g.nn w j hw hj
    split <;> omega
  have := deg_le g hw
  omega
/-- the script that reduces is small -/
theorem redT_le {b : List (List Int)} (hB : IsB b) {l : List Int} {q : Nat} (hq : q < b.length) {M : Int} (hM : 0 ≤ M) (hl : ∀ v : Nat, v < b.length → v ≠ q → -M ≤ getI l (v : Int) ∧ getI l (v : Int) ≤ M) : ∀ v : Nat, v < b.length → -(100 * (M + 30)) ≤ getI (redT b l q) (v : Int) ∧ getI (redT b l q) (v : Int) ≤ 100 * (M + 30) := by
  have g := gr_of hB
  have hd := dist_dst hB hq
  have hn1 := hB.n1; have hn2 := hB.n2
  obtain ⟨h1, h2, h3⟩ := redT_ok hB l hq
  intro v hv
  have hs := script_le g hd (t := gf (redT b l q)) (B := M + 30) (by omega) h2 (fun w hw hwq => by
    have a := red_lt g h3 hw hwq
    have c := hl w hw hwq
    have e : gf l w = getI l (w : Int) := rfl
    unfold ap at a
    omega) b.length v hv (hd.le v hv)
  have e : (b.length : Int) * (b.length * (M + 30)) ≤ 10 * (10 * (M + 30)) := Int.mul_le_mul (by omega) (Int.mul_le_mul_of_nonneg_right (by omega) (by omega)) (Int.mul_nonneg (by omega) (by omega)) (by omega)
  have h4 : gf (redT b l q) v = getI (redT b l q) (v : Int) := rfl
  omega
/-- the sum bounds what is at q -/
theorem at_q {n : Nat} {E : Nat → Nat → Int} (g : Gr n E) {q : Nat} (hq : q < n) (hn : n ≤ 10) {l t : Nat → Int} {M : Int} (hM : 0 ≤ M) (hl : ∀ v, v < n → -M ≤ l v ∧ l v ≤ M) {P : Int} (hP : 0 ≤ P) (h : ∀ v, v < n → v ≠ q → -P ≤ ap n E l t v ∧ ap n E l t v ≤ P) : -(10 * M + 10 * P) ≤ ap n E l t q ∧ ap n E l t q ≤ 10 * M + 10 * P := by
  have hs := ap_sum g l t
  have ho := oth_eq hq (ap n E l t)
  have h1 := sumTo_le (f := fun i => if (i : Int) = (q : Int) then 0 else ap n E l t i) (M := P) (n := n) fun j hj => by
    try dsimp only
    split
    · omega
    · rename_i e; exact h j hj (fun e2 => e (by rw [e2]))
  have h2 := sumTo_le (f := l) (M := M) (n := n) hl
  have h3 : (n : Int) * P ≤ 10 * P := Int.mul_le_mul_of_nonneg_right (by omega) hP
  have h4 : (n : Int) * M ≤ 10 * M := Int.mul_le_mul_of_nonneg_right (by omega) hM
  have h5 : oth n q (ap n E l t) = sumTo (fun i => if (i : Int) = (q : Int) then 0 else ap n E l t i) n := rfl
  omega
def halfL (l : List Int) : List Int := l.map fun a => a.tdiv 2
theorem halfL_len (l : List Int) : (halfL l).length = l.length := by simp [halfL]
theorem halfL_get {l : List Int} {v : Nat} (h : v < l.length) : getI (halfL l) (v : Int) = (getI l (v : Int)).tdiv 2 := by
  rw [getI_nat, getI_nat]
  simp [halfL, List.getD, h]
theorem tdiv2 (a : Int) : (0 ≤ a ∧ 0 ≤ a.tdiv 2 ∧ 2 * a.tdiv 2 ≤ a ∧ a ≤ 2 * a.tdiv 2 + 1) ∨ (a ≤ 0 ∧ a.tdiv 2 ≤ 0 ∧ a ≤ 2 * a.tdiv 2 ∧ 2 * a.tdiv 2 - 1 ≤ a) := by
  rcases Int.le_total 0 a with h | h
  · left
    rw [Int.tdiv_eq_ediv_of_nonneg h]
    omega
  · right
    have : a.tdiv 2 = -((-a).tdiv 2) := by rw [Int.neg_tdiv]; omega
    rw [this, Int.tdiv_eq_ediv_of_nonneg (by omega)]
    omega
theorem p_quo2 {H : Heap} {a : Int} (h : -4611686018427387904 ≤ a ∧ a ≤ 4611686018427387904) : evP H (.bin .quo) [.int .i64 a, .int .i64 2] = some (.int .i64 (a.tdiv 2)) := by
  have h2 := tdiv2 a
  simp only [evP, binV, isShift, binInt]
  rw [if_neg (show ¬ (2 : Int) = 0 by decide), show IntKind.i64.wrap (a.tdiv 2) = a.tdiv 2 from wrapI (by omega)]
  rfl
theorem list_zero {l : List Int} {n : Nat} (hl : l.length = n) (h : ∀ v : Nat, v < n → getI l (v : Int) = 0) : l = List.replicate n 0 := ext_getI (by simpa using hl) fun i hi => by
  rw [h i (by omega), getI_nat]; simp [List.getD, show i < n by omega]
/-- what is behind the doubled script of the half -/
theorem near_half {b : List (List Int)} (hB : IsB b) {l s Z : List Int} {q : Nat} (hq : q < b.length) (hln : l.length = b.length) (hb : ∀ v : Nat, v < b.length → -1099511627776 ≤ getI l (v : Int) ∧ getI l (v : Int) ≤ 1099511627776) (hs : s = redT b (halfL l) q) (hZl : Z.length = b.length) (hZ : ∀ v : Nat, v < b.length → getI Z (v : Int) = 2 * getI s (v : Int)) : Near b.length q (apl b l Z) := by
  have g := gr_of hB
  have hn1 := hB.n1; have hn2 := hB.n2
  obtain ⟨h1, h2, h3⟩ := redT_ok hB (halfL l) hq
  rw [← hs] at h1 h2 h3
  have hap : ∀ v : Nat, v < b.length → getI (apl b l Z) (v : Int) = getI l (v : Int) - 2 * (getI l (v : Int)).tdiv 2 + 2 * ap b.length (ed b) (gf (halfL l)) (gf s) v := fun v hv => by
    rw [apl_ap hB l Z hv]
    have e : net b.length (ed b) (gf Z) v = 2 * net b.length (ed b) (gf s) v := by
      rw [← net_mul]
      exact net_congr hv fun j hj => hZ j hj
    have e2 : gf (halfL l) v = (getI l (v : Int)).tdiv 2 := halfL_get (by omega)
    have e3 : gf l v = getI l (v : Int) := rfl
    unfold ap
    rw [e, e2, e3]
    omega
  have hoth : ∀ v : Nat, v < b.length → v ≠ q → -1 ≤ getI (apl b l Z) (v : Int) ∧ getI (apl b l Z) (v : Int) ≤ 60 := fun v hv hvq => by
    have a := red_lt g h3 hv hvq
    have c := tdiv2 (getI l (v : Int))
    rw [hap v hv]
    omega
  refine ⟨apl_len b l Z, fun v hv hvq => by have := hoth v hv hvq; omega, ?_⟩
  have := at_q g hq hn2 (l := gf l) (t := gf Z) (M := 1099511627776) (by omega) (fun v hv => hb v hv) (P := 60) (by omega) fun v hv hvq => by
    rw [← apl_ap hB l Z hv]
    have := hoth v hv hvq
    omega
  rw [apl_ap hB l Z hq]
  omega
theorem redT_pl {b : List (List Int)} (hB : IsB b) {l Z : List Int} {q : Nat} (hq : q < b.length) (hZl : Z.length = b.length) (hZq : getI Z (q : Int) = 0) : pl Z (redT b (apl b l Z) q) = redT b l q := by
  obtain ⟨h1, h2, h3⟩ := redT_ok hB (apl b l Z) hq
  refine redT_eq hB hq (by rw [pl_len]; exact hZl) ?_ ?_
  · have := pl_get (a := Z) (c := redT b (apl b l Z) q) (i := q) (by omega)
    unfold gf at h2 ⊢
    omega
  · refine h3.congr fun v hv => ?_
    rw [← apl_ap hB _ _ hv, apl_pl hB hZl, apl_ap hB _ _ hv]
end Go.AM.Ch
