/- A part of the proof: U15. -/
import Derived.Test.YtmegimhfoedcdaaU14
set_option linter.unusedSectionVars false
set_option linter.unusedVariables false
set_option linter.unusedSimpArgs false
namespace Go.AM.Ch
attribute [local go_sem] gc subHeap reach_skip ren_free reach_new reach_newp reach_end rangeL roots boxCells nodupB posOf renL AV.ren pickO renH renO looks look bindEnv envOf reach_int reach_bool reach_nilS reach_rd putRow cells_sl cells_int cells_bool cells_nilS cells_rd cells_agg reach_agg reach_tup idFreeL idf_sl idf_ptr idf_int idf_bool idf_nilS idf_rd reach_fn reach_mp cells_fn cells_ptr cells_mp idf_mp idf_fn idf_agg idf_tup
set_option maxHeartbeats 4000000
/-- check -/
theorem c52 {x y : AV} {b : List (List Int)} {s : List Int} (hx : IsLL x b) (hy : IsL y s) (hl : b.length < 100) (hs : s.length ≤ 1000) {m : Nat} (hm : 2110 ≤ m) (H : Heap) : callPure (evF tab it m) true 52 [x, y] H = some (.int .i64 (if IsB b ∧ InR b.length 1048576 s then 0 else 2), H) := by
  have f52 : evF tab it m 52 [x, y] [] = some (.int .i64 (if IsB b ∧ InR b.length 1048576 s then 0 else 2), []) := by
    obtain ⟨m, rfl⟩ : ∃ j, m = j + 1 := ⟨m - 1, by omega⟩
    have fx := hx.free; have fy := hy.free
    have e60 := fun H => c60 hx hl (m := m) (by omega) H
    have e80 := fun H => c80 hx hy hs (m := m) (by omega) H
    refine f_enter rfl rfl ?_
    generalize evF tab it m = call at *
    by_cases h1 : IsB b <;> by_cases h2 : InR b.length 1048576 s <;> simp only [h1, h2, decide_true, decide_false, and_self, and_true, and_false, true_and, false_and, if_true, if_false] at e60 e80 ⊢
    all_goals
      repeat' first
 | (apply s_mov; (focus ((conv => lhs; whnf); done)))
 | (apply s_gT; exact rfl)
 | (apply s_gF; exact rfl)
 | (apply s_gFD; exact rfl)
 | (apply c_nil)
 | (apply s_pickT; exact rfl; (focus ((conv => lhs; whnf); done)))
 | (apply s_pickF; exact rfl; (focus ((conv => lhs; whnf); done)))
 | (apply s_notT; exact rfl)
 | (apply s_notF; exact rfl)
 | (apply s_cn; (focus (repeat (first | apply opds_nil | (apply opds_cons; (first | (focus ((conv => lhs; whnf); done)) | exact rfl))))); exact e60 _)
 | (apply s_cn; (focus (repeat (first | apply opds_nil | (apply opds_cons; (first | (focus ((conv => lhs; whnf); done)) | exact rfl))))); exact e80 _)
 | (apply c_seq)
 | (apply c_reg)
 | (apply c_skip)
 | (apply c_ret)
 | (apply c_condT; exact rfl)
 | (apply c_condF; exact rfl)
 | (with_reducible apply k_c)
    all_goals exact fin_t (by (conv => lhs; whnf)) (by rfl) rfl
  exact callPure_free (by simp [idFreeL, hx.free, hy.free]) (by simp) f52 rfl
theorem inR_get {n : Nat} {M : Int} {l : List Int} (h : InR n M l) : ∀ v : Nat, v < n → -M ≤ getI l (v : Int) ∧ getI l (v : Int) ≤ M := fun v hv => h.2 _ (by rw [getI_nat]; simp [List.getD, show v < l.length by rw [h.1]; exact hv])
/-- what Apply asks -/
def ApOk (b : List (List Int)) (s t : List Int) : Prop := IsB b ∧ InR b.length 1048576 s ∧ InR b.length 1099511627776 t
noncomputable instance (b : List (List Int)) (s t : List Int) : Decidable (ApOk b s t) := Classical.propDecidable _
theorem c55o {x y z : AV} {b : List (List Int)} {s t : List Int} (hx : IsLL x b) (hy : IsL y s) (hz : IsL z t) (hb : Bd b) (hsn : s.length = b.length) (htn : t.length = b.length)
    (ht : ∀ v : Nat, v < b.length → -4503599627370496 ≤ getI t (v : Int) ∧ getI t (v : Int) ≤ 4503599627370496) (hs : ∀ v : Nat, v < b.length → -288230376151711744 ≤ getI s (v : Int) ∧ getI s (v : Int) ≤ 288230376151711744)
    {m : Nat} (hm : 100 ≤ m) (H : Heap) : callPure (evF tab it m) false 55 [x, y, z] H = some (.sl H.length 1 0 b.length, H ++ [some (.data (iL (apl b s t)))]) := by
  have ff : idFreeL [x, y, z] = true := by simp [idFreeL, hx.free, hy.free, hz.free]
  simp [callPure, frzL_free H 40 [x, y, z] (by simp) ff, f55 hx hy hz hb hsn htn ht hs hm, ff, shiftH, AV.ren, renH, renO]
theorem callPure_own {call : CallF} {f : Nat} {args args' : List AV} {H H1 : Heap} {r v : AV} (ha : frzL H 40 args = some args') (hc : call f args' [] = some (r, H1)) (hr : r.hasRd = false) (hh : (H1.all fun o => !HO.hasRd o) = true) (hf : frzV H1 40 r = some v) :
    callPure call true f args H = some (v, H) := by
  unfold callPure
  rw [ha, Option.bind_some, hc, Option.bind_some]
  dsimp only
  rw [hr, hh, hf]
  simp
/-- Apply -/
theorem f37 {x y z : AV} {b : List (List Int)} {s t : List Int} (hx : IsLL x b) (hy : IsL y s) (hz : IsL z t) (hl : b.length < 100) (hs : s.length ≤ 1000) (ht : t.length ≤ 1000) {m : Nat} (hm : 2130 ≤ m) :
    evF tab it m 37 [x, y, z] [] = some (if ApOk b s t then .tup [.sl 0 1 0 b.length, .int .i64 0] else .tup [.nilS, .int .i64 2], if ApOk b s t then [some (.data (iL (apl b s t)))] else []) := by
  obtain ⟨m, rfl⟩ : ∃ j, m = j + 3 := ⟨m - 3, by omega⟩
  have fx := hx.free; have fy := hy.free; have fz := hz.free
  have e52 := fun H => c52 hx hy hl hs (m := m + 2) (by omega) H
  have e69 := fun H => callPure_free (H := H) (by simp [idFreeL, AV.idFree, fz]) (by simp) (f69 (g := 70) hz ht (m := m) (by omega) (fun v H => c70 (by omega) v H)) rfl
  have e55 := fun (h : ApOk b s t) H => c55o hx hy hz h.1.bd h.2.1.1 h.2.2.1 (fun v hv => by have := inR_get h.2.2 v hv; omega) (fun v hv => by have := inR_get h.2.1 v hv; omega) (m := m + 2) (by omega) H
  have key := inR_of b.length 1099511627776 t
  have lx : ∀ H, evP H .len [x] = some (.int .i64 ((b.length : Nat) : Int)) := fun H => by cases hx <;> rfl
  have lz : ∀ H, evP H .len [z] = some (.int .i64 ((t.length : Nat) : Int)) := fun H => p_lenI hz
  refine f_enter rfl rfl ?_
  generalize evF tab it (m + 2) = call at *
  by_cases h1 : IsB b ∧ InR b.length 1048576 s
  · simp only [h1, and_self, if_true] at e52
    by_cases h2 : ApOk b s t
    · have e55' := e55 h2
      have k2 := key.2 h2.2.2
      simp only [k2.2, decide_false] at e69
      rw [if_pos h2, if_pos h2]
      repeat' first
 | (apply s_mov; (focus ((conv => lhs; whnf); done)))
 | (apply s_gT; exact rfl)
 | (apply c_nil)
 | (apply s_pickF; exact rfl; (focus ((conv => lhs; whnf); done)))
 | ((first | apply s_lss | apply s_leq | apply s_gtr | apply s_geq | apply s_eql | apply s_neq); exact rfl; all_goals (intro _; try (exfalso; omega)))
 | (apply s_pn; (focus (repeat (first | apply opds_nil | (apply opds_cons; (first | (focus ((conv => lhs; whnf); done)) | exact rfl))))); exact lx _)
 | (apply s_pn; (focus (repeat (first | apply opds_nil | (apply opds_cons; (first | (focus ((conv => lhs; whnf); done)) | exact rfl))))); exact lz _)
 | (apply s_cn; (focus (repeat (first | apply opds_nil | (apply opds_cons; (first | (focus ((conv => lhs; whnf); done)) | exact rfl))))); exact e52 _)
 | (apply s_cn; (focus (repeat (first | apply opds_nil | (apply opds_cons; (first | (focus ((conv => lhs; whnf); done)) | exact rfl))))); exact e69 _)
 | (apply s_cn; (focus (repeat (first | apply opds_nil | (apply opds_cons; (first | (focus ((conv => lhs; whnf); done)) | exact rfl))))); exact e55' _)
 | (apply c_seq)
 | (apply c_reg)
 | (apply c_skip)
 | (apply c_ret)
 | (apply c_condF; exact rfl)
 | (with_reducible apply k_c)
      all_goals first | (exfalso; have := k2.1; omega) | (simp [finish, ress, resOf, look, tupOf, go_sem]; done)
    · have k2 : ¬ InR b.length 1099511627776 t := fun h => h2 ⟨h1.1, h1.2, h⟩
      rw [if_neg h2, if_neg h2]
      repeat' first
 | (apply s_mov; (focus ((conv => lhs; whnf); done)))
 | (apply s_gT; exact rfl)
 | (apply s_gF; exact rfl)
 | (apply s_gFD; exact rfl)
 | (apply c_nil)
 | (apply s_pickT; exact rfl; (focus ((conv => lhs; whnf); done)))
 | (apply s_pickF; exact rfl; (focus ((conv => lhs; whnf); done)))
 | ((first | apply s_lss | apply s_leq | apply s_gtr | apply s_geq | apply s_eql | apply s_neq); exact rfl; all_goals (intro _; try (exfalso; omega)))
 | (apply s_pn; (focus (repeat (first | apply opds_nil | (apply opds_cons; (first | (focus ((conv => lhs; whnf); done)) | exact rfl))))); exact lx _)
 | (apply s_pn; (focus (repeat (first | apply opds_nil | (apply opds_cons; (first | (focus ((conv => lhs; whnf); done)) | exact rfl))))); exact lz _)
 | (apply s_cn; (focus (repeat (first | apply opds_nil | (apply opds_cons; (first | (focus ((conv => lhs; whnf); done)) | exact rfl))))); exact e52 _)
 | (apply isE; refine s_cB (by (focus (repeat (first | apply opds_nil | (apply opds_cons; (first | (focus ((conv => lhs; whnf); done)) | exact rfl)))))) (e69 _) (fun _ => ?_) (fun _ => ?_))
 | (apply c_seq)
 | (apply c_reg)
 | (apply c_skip)
 | (apply c_ret)
 | (apply c_condT; exact rfl)
 | (apply c_condF; exact rfl)
 | (with_reducible apply k_c)
      all_goals first | (exfalso; exact k2 (key.1 ⟨by omega, by assumption⟩)) | exact fin_tt (by (conv => lhs; whnf)) (by (conv => lhs; whnf)) (by rfl) (by rfl) rfl
  · simp only [h1, if_false] at e52
    rw [if_neg (fun h => h1 ⟨h.1, h.2.1⟩), if_neg (fun h => h1 ⟨h.1, h.2.1⟩)]
    repeat' first
 | (apply s_mov; (focus ((conv => lhs; whnf); done)))
 | (apply c_nil)
 | ((first | apply s_lss | apply s_leq | apply s_gtr | apply s_geq | apply s_eql | apply s_neq); exact rfl; all_goals (intro _; try (exfalso; omega)))
 | (apply s_cn; (focus (repeat (first | apply opds_nil | (apply opds_cons; (first | (focus ((conv => lhs; whnf); done)) | exact rfl))))); exact e52 _)
 | (apply c_seq)
 | (apply c_reg)
 | (apply c_ret)
 | (apply c_condT; exact rfl)
 | (with_reducible apply k_c)
    all_goals exact fin_tt (by (conv => lhs; whnf)) (by (conv => lhs; whnf)) (by rfl) (by rfl) rfl
theorem c37 {x y z : AV} {b : List (List Int)} {s t : List Int} (hx : IsLL x b) (hy : IsL y s) (hz : IsL z t) (hl : b.length < 100) (hs : s.length ≤ 1000) (ht : t.length ≤ 1000) {m : Nat} (hm : 2130 ≤ m) (H : Heap) :
    callPure (evF tab it m) true 37 [x, y, z] H = some (if ApOk b s t then .tup [.rd 1 (apl b s t).length (iL (apl b s t)), .int .i64 0] else .tup [.nilS, .int .i64 2], H) := by
  refine callPure_frz (by simp [idFreeL, hx.free, hy.free, hz.free]) (by simp) (f37 hx hy hz hl hs ht hm) ?_
  split
  · have h1 := iL_len (apl b s t)
    have h2 := apl_len b s t
    rw [h2] at h1 ⊢
    simp [frzV, frzL, idFreeL, AV.idFree, Heap.data?, h1, List.take_of_length_le]
  · rfl
end Go.AM.Ch
