/- A part of the proof: U29. -/
import Derived.Test.YtmegimhfoedcdaaU28
import Derived.Test.YtmegimhfoedcdaaU19
set_option linter.unusedSectionVars false
set_option linter.unusedVariables false
set_option linter.unusedSimpArgs false
namespace Go.AM.Ch
attribute [local go_sem] gc subHeap reach_skip ren_free reach_new reach_newp reach_end rangeL roots boxCells nodupB posOf renL AV.ren pickO renH renO looks look bindEnv envOf reach_int reach_bool reach_nilS reach_rd putRow cells_sl cells_int cells_bool cells_nilS cells_rd cells_agg reach_agg reach_tup idFreeL idf_sl idf_ptr idf_int idf_bool idf_nilS idf_rd reach_fn reach_mp cells_fn cells_ptr cells_mp idf_mp idf_fn idf_agg idf_tup
set_option maxHeartbeats 8000000
theorem own_noRd (l : List Int) : (ownV 0 (iL l)).hasRd = false := by cases l <;> rfl
theorem owH_noRd (l : List Int) : ((owH (iL l)).all fun o => !HO.hasRd o) = true := by
  rcases l with _ | ⟨a, r⟩
  · rfl
  · have := iL_noRd (a :: r)
    simp only [iL, List.map_cons] at this
    simp [owH, iL, HO.hasRd, this]
theorem c26p {args : List AV} {x y z : AV} {b : List (List Int)} {s t : List Int} (hx : IsLL x b) (hy : IsL y s) (hz : IsL z t) (hb : Bd b) (hsy : Sym b) (hn : 1 ≤ b.length) (hsn : s.length = b.length) (htn : t.length = b.length)
    (ht : ∀ v : Nat, v < b.length → -4503599627370496 ≤ getI t (v : Int) ∧ getI t (v : Int) ≤ 4503599627370496) (hs : ∀ v : Nat, v < b.length → -288230376151711744 ≤ getI s (v : Int) ∧ getI s (v : Int) ≤ 288230376151711744)
    {m : Nat} (hm : 1100 ≤ m) (H : Heap) (ha : frzL H 40 args = some [x, y, z]) : callPure (evF tab it m) true 26 args H = some (fzL (apl b s t), H) :=
  callPure_own ha (f26 hx hy hz hb hsy hn hsn htn ht hs hm) (own_noRd _) (owH_noRd _) (frz_own _)
/-- a set of places as a script -/
def bitL (n S : Nat) : List Int := (List.range n).map fun (i : Nat) => ((S / 2 ^ i % 2 : Nat) : Int)
theorem bitL_len (n S : Nat) : (bitL n S).length = n := by simp [bitL]
theorem bitL_get {n S i : Nat} (h : i < n) : getI (bitL n S) (i : Int) = ((S / 2 ^ i % 2 : Nat) : Int) := by
  rw [getI_nat]
  simp [bitL, List.getD, h]
/-- a set of places fires once -/
theorem f78 {x y : AV} {b : List (List Int)} {l : List Int} {S : Nat} (hx : IsLL x b) (hy : IsL y l) (hB : IsB b) (hln : l.length = b.length) (hl : ∀ v : Nat, v < b.length → -288230376151711744 ≤ getI l (v : Int) ∧ getI l (v : Int) ≤ 288230376151711744)
    {m : Nat} (hm : 1200 ≤ m) : evF tab it m 78 [x, y, .int .i64 (S : Int)] [] = some (fzL (apl b l (bitL b.length S)), []) := by
  obtain ⟨m, rfl⟩ : ∃ j, m = j + 1 := ⟨m - 1, by omega⟩
  have fx := hx.free; have fy := hy.free
  have hn1 := hB.n1; have hn2 := hB.n2
  have lx : ∀ H, evP H .len [x] = some (.int .i64 ((b.length : Nat) : Int)) := fun H => by cases hx <;> rfl
  have mk := fun call H => @e_mkI call H b.length (by unfold most; omega)
  have hbl := bitL_len b.length S
  have hbg := fun (i : Nat) (h : i < b.length) => bitL_get (S := S) h
  have e26 := c26p hx hy (rd_isL hbl) hB.bd hB.sym hn1 hln hbl (fun v hv => by rw [hbg v hv]; omega) hl (m := m) (by omega) [some (.data (iL (bitL b.length S)))] (args := [x, y, .sl 0 1 0 b.length]) (frzL_cons (frzV_of fx) (frzL_cons (frzV_of fy) (frzL_cons (frz_sl rfl hbl) frzL_nil)))
  refine f_enter rfl rfl ?_
  generalize evF tab it m = call at *
  repeat' first
 | (apply s_mov; (focus ((conv => lhs; whnf); done)))
 | (apply c_nil)
 | (apply s_pn; (focus (repeat (first | apply opds_nil | (apply opds_cons; (first | (focus ((conv => lhs; whnf); done)) | exact rfl))))); exact lx _)
 | (apply s_en; (focus (repeat (first | apply opds_nil | (apply opds_cons; (first | (focus ((conv => lhs; whnf); done)) | exact rfl))))); exact mk _ _)
 | (apply c_seq)
 | (apply c_reg)
 | (apply c_block)
 | (with_reducible apply k_c)
  have gcO : ∀ (k : Nat) (C : List AV), gc 0 [x, y, .int .i64 (S : Int), .sl 0 1 0 b.length, .int .i64 (k : Int)] [some (.data C)] = some ([x, y, .int .i64 (S : Int), .sl 0 1 0 b.length, .int .i64 (k : Int)], [some (.data C)]) := fun k C => by simp [go_sem, fx, fy]
  refine c_loop ?_
  refine loop_gc (σ := Nat × List Int) (fun p => [x, y, .int .i64 (S : Int), .sl 0 1 0 b.length, .int .i64 (p.1 : Int)]) (fun p => [some (.data (iL p.2))]) (fun p => p.1 ≤ b.length ∧ p.2.length = b.length ∧ ∀ i : Nat, i < p.1 → getI p.2 (i : Int) = ((S / 2 ^ i % 2 : Nat) : Int)) (fun p => b.length - p.1) ?_ _ (0, List.replicate b.length 0) _ _ ⟨by omega, by simp, fun i hi => by omega⟩ (by show b.length - 0 < _; omega) (gcO 0 _)
  intro ⟨k, o⟩ ⟨hk, hol, ho⟩ K hK
  dsimp only at hk hol ho hK ⊢
  by_cases hkn : k < b.length
  · have shr := fun H => p_shr (H := H) (a := S) (b := k) (by omega)
    have st := fun (vv : Int) call H h => e_stO (call := call) (H := H) (id := 0) (l := o) (i := k) (v := vv) h (by omega)
    generalize hD : S / 2 ^ k = D at *
    have hrem : ∀ H, evP H (.bin .rem) [.int .i64 (D : Int), .int .i64 2] = some (.int .i64 ((D % 2 : Nat) : Int)) := fun H => rfl
    repeat' first
 | (apply s_mov; (focus ((conv => lhs; whnf); done)))
 | (apply c_nil)
 | ((first | apply s_lss | apply s_leq | apply s_gtr | apply s_geq | apply s_eql | apply s_neq); exact rfl; all_goals (intro _; try (exfalso; omega)))
 | ((first | apply s_add | apply s_sub); exact rfl; omega)
 | (apply s_pn; (focus (repeat (first | apply opds_nil | (apply opds_cons; (first | (focus ((conv => lhs; whnf); done)) | exact rfl))))); exact lx _)
 | (apply s_pn; (focus (repeat (first | apply opds_nil | (apply opds_cons; (first | (focus ((conv => lhs; whnf); done)) | exact rfl))))); exact shr _)
 | (apply s_pn; (focus (repeat (first | apply opds_nil | (apply opds_cons; (first | (focus ((conv => lhs; whnf); done)) | exact rfl))))); exact hrem _)
 | (apply s_pn; (focus (repeat (first | apply opds_nil | (apply opds_cons; (first | (focus ((conv => lhs; whnf); done)) | exact rfl))))); exact p_ixO hkn)
 | (apply s_st; (focus (repeat (first | apply opds_nil | (apply opds_cons; (first | (focus ((conv => lhs; whnf); done)) | exact rfl))))); exact st _ _ _ rfl)
 | (apply c_seq)
 | (apply c_reg)
 | (apply c_block)
 | (apply c_skip)
 | (apply c_condT; exact rfl)
 | (with_reducible apply k_c)
    all_goals first
      | (exfalso; omega)
      | skip
    refine hK (k + 1, _) _ _ ⟨by omega, by simpa using hol, fun i hi => ?_⟩ (by show b.length - (k + 1) < _; omega) (gcO (k + 1) _)
    dsimp only
    rw [getI_set (by omega)]
    by_cases e : i = k
    · subst e; rw [if_pos rfl, hD]
    · rw [if_neg e]; exact ho i (by omega)
  · obtain rfl : k = b.length := by omega
    obtain rfl : o = bitL b.length S := ext_getI (by rw [hbl, hol]) fun i hi => by rw [hbg i (by omega)]; exact ho i (by omega)
    have fz := (isL_fz (apl b l (bitL b.length S))).free
    generalize fzL (apl b l (bitL b.length S)) = vz at *
    repeat' first
 | (apply s_mov; (focus ((conv => lhs; whnf); done)))
 | (apply c_nil)
 | ((first | apply s_lss | apply s_leq | apply s_gtr | apply s_geq | apply s_eql | apply s_neq); exact rfl; all_goals (intro _; try (exfalso; omega)))
 | (apply s_pn; (focus (repeat (first | apply opds_nil | (apply opds_cons; (first | (focus ((conv => lhs; whnf); done)) | exact rfl))))); exact lx _)
 | (apply c_seq)
 | (apply c_reg)
 | (apply c_exitH)
 | (apply c_condF; exact rfl)
 | (with_reducible apply k_c)
    apply c_pre (vs := [x, y, .sl 0 1 0 b.length]) (H' := [some (.data (iL (bitL b.length S)))])
    · simp [go_sem, fx, fy]
    repeat' first
 | (apply s_mov; (focus ((conv => lhs; whnf); done)))
 | (apply c_nil)
 | (apply s_cn; (focus (repeat (first | apply opds_nil | (apply opds_cons; (first | (focus ((conv => lhs; whnf); done)) | exact rfl))))); exact e26)
 | (apply c_seq)
 | (apply c_reg)
 | (apply c_ret)
 | (with_reducible apply k_c)
    exact fin_t (by (conv => lhs; whnf)) (by first | assumption | rfl) rfl
theorem c78 {x y : AV} {b : List (List Int)} {l : List Int} {S : Nat} (hx : IsLL x b) (hy : IsL y l) (hB : IsB b) (hln : l.length = b.length) (hl : ∀ v : Nat, v < b.length → -288230376151711744 ≤ getI l (v : Int) ∧ getI l (v : Int) ≤ 288230376151711744)
    {m : Nat} (hm : 1200 ≤ m) (H : Heap) : callPure (evF tab it m) true 78 [x, y, .int .i64 (S : Int)] H = some (fzL (apl b l (bitL b.length S)), H) :=
  callPure_free (by simp [idFreeL, AV.idFree, hx.free, hy.free]) (by simp) (f78 hx hy hB hln hl hm) (isL_fz _).free
end Go.AM.Ch
