/- A part of the proof: Q2. -/
import Derived.Test.YtmeajfgjbebkiaaQ1
import Derived.Test.YtmeajfgjbebkiaaM3
set_option linter.unusedSectionVars false
set_option linter.unusedVariables false
set_option linter.unusedSimpArgs false
namespace Go.AM.Pa
attribute [local go_sem] gc subHeap reach_skip ren_free reach_new reach_newp reach_end rangeL roots boxCells nodupB posOf renL AV.ren pickO renH renO looks look bindEnv envOf reach_int reach_bool reach_nilS reach_rd putRow cells_sl cells_int cells_bool cells_nilS cells_rd cells_agg reach_agg reach_tup idFreeL idf_sl idf_ptr idf_int idf_bool idf_nilS idf_rd
/-- list -/
theorem f17 {x : AV} {l : List Int} (hx : IsL x l) (m : Nat) (hm : 1 ≤ m) : evF tab it m 17 [x] [] = some (ownV 0 (iL (l.take 30)), owH (iL (l.take 30))) := by
  obtain ⟨m, rfl⟩ : ∃ j, m = j + 1 := ⟨m - 1, by omega⟩
  have fx := hx.free
  refine f_enter rfl rfl ?_
  repeat' first
 | (apply s_mov; (focus ((conv => lhs; whnf); done)))
 | (apply c_nil)
 | (apply s_pn; (focus (repeat (first | apply opds_nil | (apply opds_cons; (first | (focus ((conv => lhs; whnf); done)) | exact rfl))))); exact p_slc0 (by assumption) (by omega))
 | (apply s_len; (focus ((conv => lhs; whnf); done)); (first | assumption | (apply IsLL.at; assumption; omega)))
 | (apply s_pd; (focus ((conv => lhs; whnf); done)))
 | (apply c_seq)
 | (apply c_reg)
 | (with_reducible apply k_c)
  generalize hk : (if (30 : Int) < ↑l.length then (30 : Int) else ↑l.length) = k
  have ht : l.take 30 = l.take k.toNat := by
    subst hk
    split
    · rfl
    · rw [Int.toNat_natCast, List.take_length, List.take_of_length_le (by omega)]
  have hkl : 0 ≤ k ∧ k ≤ l.length ∧ k ≤ 30 := by subst hk; split <;> omega
  rw [ht]
  rcases Int.lt_or_le 0 k with h | h
  · rw [tkL_rd hx ⟨h, hkl.2.1⟩]
    refine s_en (by (focus (repeat (first | apply opds_nil | (apply opds_cons; (first | (focus ((conv => lhs; whnf); done)) | exact rfl)))))) (e_app_nil rfl (by omega) (by unfold most; omega)) ?_
    repeat' first
 | (apply s_mov; (focus ((conv => lhs; whnf); done)))
 | (apply c_nil)
 | (apply c_ret)
 | (with_reducible apply k_c)
    have hll : (l.take k.toNat).length = k.toNat := by rw [List.length_take]; omega
    rcases hc : l.take k.toNat with _ | ⟨a, r⟩
    · rw [hc] at hll; simp at hll; omega
    · rw [hc] at hll
      simp only [List.length_cons] at hll
      simp [finish, ress, resOf, look, tupOf, iL, ownV, owH, ← hll, gc, subHeap, reach_new, reach_end, rangeL, roots, boxCells, nodupB, posOf, renL, AV.ren, pickO, renH, renO]
  · have : k = 0 := by omega
    subst this
    obtain ⟨g1, g2⟩ := tkL_len hx
    refine s_en (by (focus (repeat (first | apply opds_nil | (apply opds_cons; (first | (focus ((conv => lhs; whnf); done)) | exact rfl)))))) (e_app_none g1 g2) ?_
    repeat' first
 | (apply s_mov; (focus ((conv => lhs; whnf); done)))
 | (apply c_nil)
 | (apply c_ret)
 | (with_reducible apply k_c)
    refine fin_t (by (conv => lhs; whnf)) (by rfl) (by simp [iL, ownV, owH])
theorem c17 {x : AV} {l : List Int} (hx : IsL x l) {m : Nat} (hm : 1 ≤ m) (H : Heap) : callPure (evF tab it m) true 17 [x] H = some (fzL (l.take 30), H) := by
  refine callPure_frz (by simp [idFreeL, hx.free]) (by simp) (f17 hx m hm) (frz_own _)
/-- equal -/
theorem f19 {x y : AV} {a b : Gm} (hx : IsG x a) (hy : IsG y b) (ha : a.owner.length < 100 ∧ a.rank.length < 100 ∧ a.next.length < 100 ∧ ∀ l ∈ a.next, l.length < 100) (m : Nat) (hm : 103 ≤ m) : evF tab it m 19 [x, y] [] = some (.bool (decide (a.owner = b.owner ∧ a.rank = b.rank ∧ a.next = b.next)), []) := by
  obtain ⟨m, rfl⟩ : ∃ j, m = j + 1 := ⟨m - 1, by omega⟩
  obtain ⟨xo, xr, xn, rfl, ho, hr, hn⟩ := hx
  obtain ⟨yo, yr, yn, rfl, ko, kr, kn⟩ := hy
  have fo := ho.free; have fr := hr.free; have fn := hn.free
  have go := ko.free; have gr := kr.free; have gn := kn.free
  have ob : ∀ call, evE call [] (.box false) [.agg [xo, xr, xn]] = some (.ptr 0 0, [some (.box [xo, xr, xn])]) := fun call => by simp [evE, AV.cells, oneL, ho.one, hr.one, hn.one, mkHO]
  have ob2 : ∀ call, evE call [some (.box [xo, xr, xn])] (.box false) [.agg [yo, yr, yn]] = some (.ptr 1 0, [some (.box [xo, xr, xn]), some (.box [yo, yr, yn])]) := fun call => by simp [evE, AV.cells, oneL, ko.one, kr.one, kn.one, mkHO]
  refine f_enter rfl rfl ?_
  refine c_seq (c_reg ?_)
  refine s_en (by (focus (repeat (first | apply opds_nil | (apply opds_cons; (first | (focus ((conv => lhs; whnf); done)) | exact rfl)))))) (ob _) (s_en (by (focus (repeat (first | apply opds_nil | (apply opds_cons; (first | (focus ((conv => lhs; whnf); done)) | exact rfl)))))) (ob2 _) ?_)
  repeat' first
 | (apply s_mov; (focus ((conv => lhs; whnf); done)))
 | (apply s_gT; exact rfl)
 | (apply s_gF; exact rfl)
 | (apply s_gFD; exact rfl)
 | (apply c_nil)
 | (apply s_pickT; exact rfl; (focus ((conv => lhs; whnf); done)))
 | (apply s_pickF; exact rfl; (focus ((conv => lhs; whnf); done)))
 | (apply s_notT; exact rfl)
 | (apply s_notF; exact rfl)
 | ((first | apply s_lss | apply s_leq | apply s_gtr | apply s_geq | apply s_eql | apply s_neq); exact rfl; all_goals (intro _; try (exfalso; omega)))
 | (apply isE; refine s_cB (by (focus (repeat (first | apply opds_nil | (apply opds_cons; (first | (focus ((conv => lhs; whnf); done)) | exact rfl)))))) (c20 (by assumption) (by assumption) (by omega) (by omega) _) (fun _ => ?_) (fun _ => ?_))
 | (apply s_lenLL; (focus ((conv => lhs; whnf); done)); assumption)
 | (apply s_pd; (focus ((conv => lhs; whnf); done)))
 | (apply c_seq)
 | (apply c_reg)
 | (apply c_block)
 | (apply c_skip)
 | (apply c_ret)
 | (apply c_condT; exact rfl)
 | (apply c_condF; exact rfl)
 | (with_reducible apply k_c)
  · refine c_loop ?_
    have hrow := getLL_lt ha.2.2.2 (by omega)
    refine loop_gc (σ := Nat) (fun i => [.ptr 0 0, .ptr 1 0, .int .i64 i]) (fun _ => [some (.box [xo, xr, xn]), some (.box [yo, yr, yn])]) (fun i => i ≤ a.next.length ∧ ∀ j : Nat, j < i → getLL a.next j = getLL b.next j) (fun i => a.next.length - i) ?_ _ 0 _ _ ⟨by omega, by omega⟩ (by omega) (by simp [go_sem, fo, fr, fn, go, gr, gn]; done)
    intro i ⟨hi, hb⟩ K hK
    repeat' first
 | (apply s_mov; (focus ((conv => lhs; whnf); done)))
 | (apply c_nil)
 | (apply s_notT; exact rfl)
 | (apply s_notF; exact rfl)
 | ((first | apply s_lss | apply s_leq | apply s_gtr | apply s_geq | apply s_eql | apply s_neq); exact rfl; all_goals (intro _; try (exfalso; omega)))
 | ((first | apply s_add | apply s_sub); exact rfl; omega)
 | (apply isE; refine s_cB (by (focus (repeat (first | apply opds_nil | (apply opds_cons; (first | (focus ((conv => lhs; whnf); done)) | exact rfl)))))) (c20 (by first | assumption | exact IsLL.at (by assumption) (by omega)) (by first | assumption | exact IsLL.at (by assumption) (by omega)) (hrow _) (by omega) _) (fun _ => ?_) (fun _ => ?_))
 | (apply s_lenLL; (focus ((conv => lhs; whnf); done)); assumption)
 | (apply s_idxLL; (focus ((conv => lhs; whnf); done)); exact rfl; assumption; omega)
 | (apply s_ldLL; exact rfl; assumption; omega)
 | (apply s_pd; (focus ((conv => lhs; whnf); done)))
 | (apply c_seq)
 | (apply c_reg)
 | (apply c_block)
 | (apply c_exitH)
 | (apply c_skip)
 | (apply c_ret)
 | (apply c_condT; exact rfl)
 | (apply c_condF; exact rfl)
 | (apply c_preF; (focus (repeat (first | apply looks_nil | (apply looks_cons; (focus ((conv => lhs; whnf); done)))))); (focus (simp [idFreeL, AV.idFree, *]; done)))
 | (with_reducible apply k_c)
    · refine hK (i + 1) _ _ ⟨by omega, fun j hj => ?_⟩ (by omega) (by simp [go_sem, fo, fr, fn, go, gr, gn]; done)
      rcases (by omega : j < i ∨ j = i) with h | rfl
      · exact hb j h
      · assumption
    · refine fin_t (by (conv => lhs; whnf)) (by rfl) (leafF fun h => ?_)
      obtain ⟨-, -, h⟩ := h
      have h' : getLL a.next i = getLL b.next i := by rw [h]
      contradiction
    · refine fin_t (by (conv => lhs; whnf)) (by rfl) (leafT ⟨by assumption, by assumption, ?_⟩)
      refine List.ext_getElem (by omega) fun j h1 h2 => ?_
      have := hb j (by omega)
      simpa [getLL, h1, h2] using this
  · refine fin_t (by (conv => lhs; whnf)) (by rfl) (leafF fun h => ?_)
    obtain ⟨-, -, h⟩ := h
    have h' := congrArg List.length h
    omega
  · refine fin_t (by (conv => lhs; whnf)) (by rfl) (leafF fun h => ?_)
    obtain ⟨-, h, -⟩ := h
    contradiction
  · refine fin_t (by (conv => lhs; whnf)) (by rfl) (leafF fun h => ?_)
    obtain ⟨h, -, -⟩ := h
    contradiction
theorem c19 {x y : AV} {a b : Gm} (hx : IsG x a) (hy : IsG y b) (ha : a.owner.length < 100 ∧ a.rank.length < 100 ∧ a.next.length < 100 ∧ ∀ l ∈ a.next, l.length < 100) {m : Nat} (hm : 103 ≤ m) (H : Heap) : callPure (evF tab it m) true 19 [x, y] H = some (.bool (decide (a.owner = b.owner ∧ a.rank = b.rank ∧ a.next = b.next)), H) :=
  callPure_free (by simp [idFreeL, hx.free, hy.free]) (by simp) (f19 hx hy ha m hm) rfl
end Go.AM.Pa
