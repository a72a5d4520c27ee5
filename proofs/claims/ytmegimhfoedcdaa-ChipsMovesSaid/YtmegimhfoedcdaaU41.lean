/- A part of the proof: U41. -/
import Derived.Test.YtmegimhfoedcdaaU40
set_option linter.unusedSectionVars false
set_option linter.unusedVariables false
set_option linter.unusedSimpArgs false
namespace Go.AM.Ch
attribute [local go_sem] gc subHeap reach_skip ren_free reach_new reach_newp reach_end rangeL roots boxCells nodupB posOf renL AV.ren pickO renH renO looks look bindEnv envOf reach_int reach_bool reach_nilS reach_rd putRow cells_sl cells_int cells_bool cells_nilS cells_rd cells_agg reach_agg reach_tup idFreeL idf_sl idf_ptr idf_int idf_bool idf_nilS idf_rd reach_fn reach_mp cells_fn cells_ptr cells_mp idf_mp idf_fn idf_agg idf_tup
set_option maxHeartbeats 8000000
/-- what Reduce asks for -/
def RedIn (b : List (List Int)) (s : List Int) (q : Int) : Prop := (IsB b ∧ InR b.length 1048576 s) ∧ (0 ≤ q ∧ q < b.length)
noncomputable instance (b : List (List Int)) (s : List Int) (q : Int) : Decidable (RedIn b s q) := Classical.propDecidable _
theorem c54o {x y : AV} {b : List (List Int)} {s : List Int} {q : Nat} (hx : IsLL x b) (hy : IsL y s) (hB : IsB b) (hs : InR b.length 1048576 s) (hq : q < b.length) {m : Nat} (hm : smK + 22 ≤ m) (H : Heap) :
    callPure (evF tab it m) false 54 [x, y, .int .i64 (q : Int)] H = some (.sl H.length 1 0 b.length, H ++ [some (.data (iL (redT b s q)))]) := by
  have ff : idFreeL [x, y, .int .i64 (q : Int)] = true := by simp [idFreeL, AV.idFree, hx.free, hy.free]
  have f := f54 hB hq 21 hx hy hs.1 (fun v hv => by have := inR_get hs v hv; omega) (fun v hv => by
    have := inR_get hs v hv
    have e : (2 : Nat) ^ 21 = 2097152 := by decide
    omega) (m := m) hm
  simp [callPure, frzL_free H 40 [x, y, .int .i64 (q : Int)] (by simp) ff, f, ff, shiftH, AV.ren, renH, renO]
theorem c54 {x y : AV} {b : List (List Int)} {s : List Int} {q : Nat} (hx : IsLL x b) (hy : IsL y s) (hB : IsB b) (hs : InR b.length 1048576 s) (hq : q < b.length) {m : Nat} (hm : smK + 22 ≤ m) (H : Heap) :
    callPure (evF tab it m) true 54 [x, y, .int .i64 (q : Int)] H = some (.rd 1 b.length (iL (redT b s q)), H) := by
  have f := f54 hB hq 21 hx hy hs.1 (fun v hv => by have := inR_get hs v hv; omega) (fun v hv => by
    have := inR_get hs v hv
    have e : (2 : Nat) ^ 21 = 2097152 := by decide
    omega) (m := m) hm
  exact callPure_frz (by simp [idFreeL, AV.idFree, hx.free, hy.free]) (by simp) f (frz_sl rfl (redT_ok hB s hq).1)
/-- the scripts of states are small -/
theorem redT_st {b : List (List Int)} (hB : IsB b) {s : List Int} (hs : InR b.length 1048576 s) {q : Nat} (hq : q < b.length) : ∀ v : Nat, v < b.length → -104860600 ≤ getI (redT b s q) (v : Int) ∧ getI (redT b s q) (v : Int) ≤ 104860600 := fun v hv => by
  have := redT_le hB (l := s) hq (M := 1048576) (by decide) (fun w hw _ => inR_get hs w hw) v hv
  omega
/-- Reduce -/
theorem f20 {x y : AV} {b : List (List Int)} {s : List Int} {q : Nat} (hx : IsLL x b) (hy : IsL y s) (hB : IsB b) (hs : InR b.length 1048576 s) (hq : q < b.length) {m : Nat} (hm : smK + 23 ≤ m) :
    evF tab it m 20 [x, y, .int .i64 (q : Int)] [] = some (.tup [.sl 0 1 0 b.length, .sl 1 1 0 b.length, .int .i64 0], [some (.data (iL (apl b s (redT b s q)))), some (.data (iL (redT b s q)))]) := by
  have hm1 : 100000 ≤ m := by have := smK_big; omega
  obtain ⟨m, rfl⟩ : ∃ j, m = j + 1 := ⟨m - 1, by omega⟩
  have fx := hx.free; have fy := hy.free
  have hn1 := hB.n1; have hn2 := hB.n2
  have hsl := hs.1
  have e52 := fun H => c52 hx hy (by omega) (by omega) (m := m) (by omega) H
  rw [if_pos ⟨hB, hs⟩] at e52
  have e53 := fun (a lo hi : Int) H => c53 (m := m) (by omega) a lo hi H
  have lx : ∀ H, evP H .len [x] = some (.int .i64 ((b.length : Nat) : Int)) := fun H => by cases hx <;> rfl
  have e54 := fun H => c54o hx hy hB hs hq (m := m) (by omega) H
  have hRl := (redT_ok hB s hq).1
  have hRb := redT_st hB hs hq
  have e55 := c55q hx hy (rd_isL hRl) hB.bd hsl hRl (fun v hv => by have := hRb v hv; omega) (fun v hv => by have := inR_get hs v hv; omega) (m := m) (by omega) [some (.data (iL (redT b s q)))] (args := [x, y, .sl 0 1 0 b.length]) (frzL_cons (frzV_of fx) (frzL_cons (frzV_of fy) (frzL_cons (frz_sl rfl hRl) frzL_nil)))
  clear hm
  refine f_enter rfl rfl ?_
  generalize evF tab it m = call at *
  repeat' first
 | (apply s_mov; (focus ((conv => lhs; whnf); done)))
 | (apply s_gT; exact rfl)
 | (apply c_nil)
 | (apply s_pickF; exact rfl; (focus ((conv => lhs; whnf); done)))
 | (apply s_notT; exact rfl)
 | (apply s_notF; exact rfl)
 | ((first | apply s_lss | apply s_leq | apply s_gtr | apply s_geq | apply s_eql | apply s_neq); exact rfl; all_goals (intro _; try (exfalso; omega)))
 | ((first | apply s_add | apply s_sub); exact rfl; omega)
 | (apply s_cn; (focus (repeat (first | apply opds_nil | (apply opds_cons; (first | (focus ((conv => lhs; whnf); done)) | exact rfl))))); exact e52 _)
 | (apply isE; refine s_cB (by (focus (repeat (first | apply opds_nil | (apply opds_cons; (first | (focus ((conv => lhs; whnf); done)) | exact rfl)))))) (e53 _ _ _ _) (fun _ => ?_) (fun _ => ?_))
 | (apply s_pn; (focus (repeat (first | apply opds_nil | (apply opds_cons; (first | (focus ((conv => lhs; whnf); done)) | exact rfl))))); exact lx _)
 | (apply s_en; (focus (repeat (first | apply opds_nil | (apply opds_cons; (first | (focus ((conv => lhs; whnf); done)) | exact rfl))))); exact e54 _)
 | (apply s_en; (focus (repeat (first | apply opds_nil | (apply opds_cons; (first | (focus ((conv => lhs; whnf); done)) | exact rfl))))); exact e55)
 | (apply c_seq)
 | (apply c_reg)
 | (apply c_skip)
 | (apply c_ret)
 | (apply c_condT; exact rfl)
 | (apply c_condF; exact rfl)
 | (with_reducible apply k_c)
  all_goals first
    | (exfalso; omega)
    | (simp [finish, ress, resOf, look, tupOf, go_sem]; done)
theorem f20e {x y : AV} {b : List (List Int)} {s : List Int} {q : Int} (hx : IsLL x b) (hy : IsL y s) (hl : b.length < 100) (hsl : s.length ≤ 1000) (h : ¬ RedIn b s q) {m : Nat} (hm : 3000 ≤ m) :
    evF tab it m 20 [x, y, .int .i64 q] [] = some (.tup [.nilS, .nilS, .int .i64 2], []) := by
  obtain ⟨m, rfl⟩ : ∃ j, m = j + 1 := ⟨m - 1, by omega⟩
  have fx := hx.free; have fy := hy.free
  have e52 := fun H => c52 hx hy hl hsl (m := m) (by omega) H
  have e53 := fun (a lo hi : Int) H => c53 (m := m) (by omega) a lo hi H
  have lx : ∀ H, evP H .len [x] = some (.int .i64 ((b.length : Nat) : Int)) := fun H => by cases hx <;> rfl
  refine f_enter rfl rfl ?_
  generalize evF tab it m = call at *
  by_cases h1 : IsB b ∧ InR b.length 1048576 s
  · rw [if_pos h1] at e52
    have h2 : ¬ (0 ≤ q ∧ q < b.length) := fun h2 => h ⟨h1, h2⟩
    repeat' first
 | (apply s_mov; (focus ((conv => lhs; whnf); done)))
 | (apply s_gT; exact rfl)
 | (apply c_nil)
 | (apply s_pickF; exact rfl; (focus ((conv => lhs; whnf); done)))
 | (apply s_notT; exact rfl)
 | (apply s_notF; exact rfl)
 | ((first | apply s_lss | apply s_leq | apply s_gtr | apply s_geq | apply s_eql | apply s_neq); exact rfl; all_goals (intro _; try (exfalso; omega)))
 | ((first | apply s_add | apply s_sub); exact rfl; omega)
 | (apply s_cn; (focus (repeat (first | apply opds_nil | (apply opds_cons; (first | (focus ((conv => lhs; whnf); done)) | exact rfl))))); exact e52 _)
 | (apply isE; refine s_cB (by (focus (repeat (first | apply opds_nil | (apply opds_cons; (first | (focus ((conv => lhs; whnf); done)) | exact rfl)))))) (e53 _ _ _ _) (fun _ => ?_) (fun _ => ?_))
 | (apply s_pn; (focus (repeat (first | apply opds_nil | (apply opds_cons; (first | (focus ((conv => lhs; whnf); done)) | exact rfl))))); exact lx _)
 | (apply c_seq)
 | (apply c_reg)
 | (apply c_skip)
 | (apply c_ret)
 | (apply c_condT; exact rfl)
 | (apply c_condF; exact rfl)
 | (with_reducible apply k_c)
    all_goals first
      | (exfalso; omega)
      | (simp [finish, ress, resOf, look, tupOf, go_sem]; done)
  · rw [if_neg h1] at e52
    repeat' first
 | (apply s_mov; (focus ((conv => lhs; whnf); done)))
 | (apply s_gF; exact rfl)
 | (apply s_gFD; exact rfl)
 | (apply c_nil)
 | (apply s_pickT; exact rfl; (focus ((conv => lhs; whnf); done)))
 | ((first | apply s_lss | apply s_leq | apply s_gtr | apply s_geq | apply s_eql | apply s_neq); exact rfl; all_goals (intro _; try (exfalso; omega)))
 | (apply s_cn; (focus (repeat (first | apply opds_nil | (apply opds_cons; (first | (focus ((conv => lhs; whnf); done)) | exact rfl))))); exact e52 _)
 | (apply c_seq)
 | (apply c_reg)
 | (apply c_ret)
 | (apply c_condT; exact rfl)
 | (with_reducible apply k_c)
    all_goals first
      | (exfalso; omega)
      | (simp [finish, ress, resOf, look, tupOf, go_sem]; done)
theorem frz_setA {A T : List Int} {n : Nat} (hA : A.length = n) (hT : T.length = n) {e : Int} : frzV [some (.data (iL A)), some (.data (iL T))] 40 (.tup [.sl 0 1 0 n, .sl 1 1 0 n, .int .i64 e]) = some (.tup [.rd 1 n (iL A), .rd 1 n (iL T), .int .i64 e]) :=
  frzV_tup rfl (frzL_cons (frz_sl rfl hA) (frzL_cons (frz_sl rfl hT) (frzL_cons rfl frzL_nil)))
theorem c20 {x y : AV} {b : List (List Int)} {s : List Int} {q : Nat} (hx : IsLL x b) (hy : IsL y s) (hB : IsB b) (hs : InR b.length 1048576 s) (hq : q < b.length) {m : Nat} (hm : smK + 23 ≤ m) (H : Heap) :
    callPure (evF tab it m) true 20 [x, y, .int .i64 (q : Int)] H = some (.tup [.rd 1 b.length (iL (apl b s (redT b s q))), .rd 1 b.length (iL (redT b s q)), .int .i64 0], H) :=
  callPure_frz (by simp [idFreeL, AV.idFree, hx.free, hy.free]) (by simp) (f20 hx hy hB hs hq hm) (frz_setA (apl_len _ _ _) (redT_ok hB s hq).1)
end Go.AM.Ch
