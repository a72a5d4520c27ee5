/- A part of the proof: U58. -/
import Derived.Test.YtmegimhfoedcdaaU53
import Derived.Test.YtmegimhfoedcdaaU31b
import Derived.Test.YtmegimhfoedcdaaU56
set_option linter.unusedSectionVars false
set_option linter.unusedVariables false
set_option linter.unusedSimpArgs false
namespace Go.AM.Ch
set_option maxHeartbeats 8000000
theorem c34s {x : AV} {b : List (List Int)} {w : Nat} (hx : IsLL x b) (hb : b.length < 9223372036854775808) (hw : 1 ≤ w ∧ w ≤ 10) {m : Nat} (hm : 100 ≤ m) (H : Heap) :
    callPure (evF tab it m) true 34 [x, .int .i64 (w : Int)] H = some (fzLL (growL b w), H) :=
  callPure_frz (by simp [idFreeL, AV.idFree, hx.free]) (by simp) (f34 hx hb hw hm) (hb_frz (growL_rows b w) (grN_le b hw.1).1 (by have := (grN_le b hw.1).2; omega))
theorem c37s {args : List AV} {x y z : AV} {b : List (List Int)} {s t : List Int} (hx : IsLL x b) (hy : IsL y s) (hz : IsL z t) (hl : b.length < 100) (hs : s.length ≤ 1000) (ht : t.length ≤ 1000) (h : ApOk b s t) {m : Nat} (hm : 2130 ≤ m) (H : Heap) (ha : frzL H 40 args = some [x, y, z]) :
    callPure (evF tab it m) true 37 args H = some (.tup [.rd 1 b.length (iL (apl b s t)), .int .i64 0], H) := by
  have f := f37 hx hy hz hl hs ht hm
  rw [if_pos h, if_pos h] at f
  refine callPure_own ha f rfl (by simp [HO.hasRd, iL_noRd]) ?_
  exact frzV_tup rfl (frzL_cons (frz_sl rfl (apl_len b s t)) (frzL_cons rfl frzL_nil))
/-- what Settle is given here -/
structure SetG (b : List (List Int)) (s : List Int) (q : Nat) : Prop where
  inr : InR b.length 1048576 s
  nn : ∀ v : Nat, v < b.length → v ≠ q → 0 ≤ getI s (v : Int)
  oth : oth b.length q (gf s) ≤ 500
theorem c47p {args : List AV} {x y : AV} {b : List (List Int)} {s : List Int} {q : Nat} (hx : IsLL x b) (hy : IsL y s) (hB : IsB b) (hq : q < b.length) (h : SetG b s q) {m : Nat} (hm : 2200 + 2 * (pot b.length (gf (dist b q).1) (gf s)).toNat ≤ m) (H : Heap) (ha : frzL H 40 args = some [x, y, .int .i64 (q : Int)]) :
    callPure (evF tab it m) true 47 args H = some (.tup [.rd 1 b.length (iL (apl b s (setT b s q))), .rd 1 b.length (iL (setT b s q)), .int .i64 0], H) := by
  have f := f47 hx hy hB h.inr hq h.nn hm
  rw [if_pos h.oth] at f
  exact callPure_own ha f rfl (by simp [HO.hasRd, iL_noRd]) (frz_set (apl_len _ _ _) (setT_ok hB hq h.nn).1)
theorem c47o {args : List AV} {x y : AV} {b : List (List Int)} {s : List Int} {q : Nat} (hx : IsLL x b) (hy : IsL y s) (hB : IsB b) (hq : q < b.length) (h : SetG b s q) {m : Nat} (hm : 2200 + 2 * (pot b.length (gf (dist b q).1) (gf s)).toNat ≤ m) (H : Heap) (ha : frzL H 40 args = some [x, y, .int .i64 (q : Int)]) :
    callPure (evF tab it m) false 47 args H = some (.tup [.sl H.length 1 0 b.length, .sl (H.length + 1) 1 0 b.length, .int .i64 0], H ++ [some (.data (iL (apl b s (setT b s q)))), some (.data (iL (setT b s q)))]) := by
  have f := f47 hx hy hB h.inr hq h.nn hm
  rw [if_pos h.oth] at f
  unfold callPure
  rw [ha, Option.bind_some, f, Option.bind_some]
  simp [AV.hasRd, hasRdL, HO.hasRd, iL_noRd, shiftH, AV.ren, renL, idFreeL, idf_sl, AV.idFree, renH, renO]
/-- in two portions -/
theorem settle_two {b : List (List Int)} (hB : IsB b) {s h : List Int} {q : Nat} (hq : q < b.length) (hs : ∀ v : Nat, v < b.length → v ≠ q → 0 ≤ getI s (v : Int)) (hh : ∀ v : Nat, v < b.length → v ≠ q → 0 ≤ getI h (v : Int) ∧ getI h (v : Int) ≤ getI s (v : Int)) :
    (∀ v : Nat, v < b.length → v ≠ q → 0 ≤ getI (apl b s (setT b h q)) (v : Int)) ∧ apl b (apl b s (setT b h q)) (setT b (apl b s (setT b h q)) q) = apl b s (setT b s q) := by
  obtain ⟨d1, d2, d3⟩ := setT_ok hB hq (s := h) fun v hv hvq => (hh v hv hvq).1
  have hy : ∀ v : Nat, v < b.length → v ≠ q → 0 ≤ getI (apl b s (setT b h q)) (v : Int) := fun v hv hvq => by
    rw [apl_ap hB _ _ hv]
    have a := d2.pos v hv hvq
    have c := hh v hv hvq
    have e1 : gf h v = getI h (v : Int) := rfl
    have e2 : gf s v = getI s (v : Int) := rfl
    unfold ap at a ⊢
    omega
  refine ⟨hy, ?_⟩
  obtain ⟨e1, e2, e3⟩ := setT_ok hB hq (s := apl b s (setT b h q)) hy
  rw [apl_pl hB d1]
  generalize hD : setT b h q = D at *
  generalize hE : setT b (apl b s D) q = E at *
  have hap : ∀ (T : Nat → Int) (v : Nat), v < b.length → ap b.length (ed b) (gf (apl b s D)) T v = ap b.length (ed b) (gf s) (fun j => gf D j + T j) v := fun T v hv => by
    rw [← ap_ap]
    unfold ap
    have : gf (apl b s D) v = ap b.length (ed b) (gf s) (gf D) v := apl_ap hB s D hv
    unfold ap at this
    omega
  have hpl : ∀ j, j < b.length → gf D j + gf E j = gf (pl D E) j := fun j hj => (pl_get (by omega)).symm
  congr 1
  refine setT_eq (by rw [pl_len]; exact d1) (SetOk.congr hq (t := fun j => gf D j + gf E j) ?_ hpl) fun v hv hvq => ?_
  · refine ⟨fun v hv => ?_, ?_, fun v hv hvq => ?_, fun T hT hTq hTs v hv => ?_⟩
    · have := d2.nn v hv; have := e2.nn v hv; omega
    · have := d2.q0; have := e2.q0; omega
    · rw [← hap (gf E) v hv]; exact e2.pos v hv hvq
    · have hDT := d2.lst T hT hTq fun w hw hwq => by
        have a := hTs w hw hwq
        have c := hh w hw hwq
        have e1 : gf h w = getI h (w : Int) := rfl
        have e2 : gf s w = getI s (w : Int) := rfl
        unfold ap at a ⊢
        omega
      have hET := e2.lst (fun j => T j - gf D j) (fun w hw => by have := hDT w hw; omega) (by have := d2.q0; omega) fun w hw hwq => by
        rw [hap _ w hw]
        have := hTs w hw hwq
        have e : ap b.length (ed b) (gf s) (fun j => gf D j + (T j - gf D j)) w = ap b.length (ed b) (gf s) T w := ap_congr hw (fun j _ => by omega) rfl
        rw [e]
        exact this
      have := hET v hv
      try dsimp only at this
      omega
  · rw [← ap_congr hv hpl rfl, ← hap (gf E) v hv]
    exact e3 v hv hvq
def abL (s : List Int) : List Int := s.map fun a => if a < 0 then -a else a
theorem abL_get {s : List Int} {v : Nat} (h : v < s.length) : getI (abL s) (v : Int) = if getI s (v : Int) < 0 then -getI s (v : Int) else getI s (v : Int) := by
  rw [getI_nat, getI_nat]; simp [abL, List.getD, h]
theorem oth_le {n q : Nat} {f : Nat → Int} {M : Int} (hM : 0 ≤ M) (h : ∀ v, v < n → v ≠ q → 0 ≤ f v ∧ f v ≤ M) (hn : n ≤ 8) : oth n q f ≤ 8 * M := by
  have := sumTo_le (f := fun i => if (i : Int) = (q : Int) then 0 else f i) (M := M) (n := n) fun j hj => by
    try dsimp only
    split
    · omega
    · rename_i e; have := h j hj (fun e2 => e (by rw [e2])); omega
  have h3 : (n : Int) * M ≤ 8 * M := Int.mul_le_mul_of_nonneg_right (by omega) hM
  unfold oth
  omega
theorem oth_mono {n q : Nat} {f g : Nat → Int} (h : ∀ v, v < n → v ≠ q → f v ≤ g v) : oth n q f ≤ oth n q g := sumTo_mono fun j hj => by
  try dsimp only
  split
  · exact Int.le_refl _
  · rename_i e; exact h j hj (fun e2 => e (by rw [e2]))
end Go.AM.Ch
