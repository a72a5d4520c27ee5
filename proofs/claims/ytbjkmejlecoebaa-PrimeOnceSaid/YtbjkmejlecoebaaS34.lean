/- A part of the proof: S34. -/
import Derived.Test.YtbjkmejlecoebaaS33
set_option linter.unusedSectionVars false
set_option linter.unusedVariables false
set_option linter.unusedSimpArgs false
namespace Go.AM.Pr
attribute [local go_sem] gc subHeap reach_skip ren_free reach_new reach_newp reach_end rangeL roots boxCells nodupB posOf renL AV.ren pickO renH renO looks look bindEnv envOf reach_int reach_bool reach_nilS reach_rd putRow cells_sl cells_int cells_bool cells_nilS cells_rd cells_agg reach_agg reach_tup idFreeL idf_sl idf_ptr idf_int idf_bool idf_nilS idf_rd reach_fn reach_mp cells_fn cells_ptr cells_mp idf_mp idf_fn idf_agg idf_tup
open Go.AM.Num
set_option maxHeartbeats 8000000
theorem f70 {q : Int} {v : AV} {l : List En} (hv : IsP v l) (hl : l.length ≤ 1000) {m : Nat} (hm : 2000 ≤ m) : evF tab it m 70 [v, .int .i64 q] [] = some (.bool (decide (q ∈ l.map (·.p))), []) := by
  obtain ⟨m, rfl⟩ : ∃ j, m = j + 1 := ⟨m - 1, by omega⟩
  have fv := hv.free
  have le := fun H => p_lenE (H := H) hv
  have ie := fun H i h => p_idxE (H := H) hv (i := i) h
  refine f_enter rfl rfl ?_
  generalize evF tab it m = call at *
  repeat' first
 | (apply s_mov; (focus ((conv => lhs; whnf); done)))
 | (apply c_nil)
 | (apply c_seq)
 | (apply c_reg)
 | (apply c_block)
 | (with_reducible apply k_c)
  refine c_loop ?_
  refine loop_gc (σ := Nat) (fun i => [v, .int .i64 q, .int .i64 (i : Int)]) (fun _ => []) (fun i => i ≤ l.length ∧ ∀ j, j < i → (ge l j).p ≠ q) (fun i => l.length - i) ?_ _ 0 _ _ ⟨by omega, by omega⟩ (by omega) (gc_to rfl (by simp [idFreeL, AV.idFree, fv]))
  intro i ⟨hi, hb⟩ K hK
  by_cases hil : i < l.length
  · have i1 := ie [] i hil
    have i2 := p_ldE0 (H := []) hil
    have hmem := ge_mem hil
    generalize hp : (ge l i).p = p at *
    repeat' first
 | (apply s_mov; (focus ((conv => lhs; whnf); done)))
 | (apply c_nil)
 | ((first | apply s_lss | apply s_leq | apply s_gtr | apply s_geq | apply s_eql | apply s_neq); exact rfl; all_goals (intro _; try (exfalso; omega)))
 | ((first | apply s_add | apply s_sub); exact rfl; omega)
 | (apply s_pn; (focus (repeat (first | apply opds_nil | (apply opds_cons; (first | (focus ((conv => lhs; whnf); done)) | exact rfl))))); exact le _)
 | (apply s_pn; (focus (repeat (first | apply opds_nil | (apply opds_cons; (first | (focus ((conv => lhs; whnf); done)) | exact rfl))))); exact i1)
 | (apply s_pn; (focus (repeat (first | apply opds_nil | (apply opds_cons; (first | (focus ((conv => lhs; whnf); done)) | exact rfl))))); exact p_fldE0)
 | (apply s_pn; (focus (repeat (first | apply opds_nil | (apply opds_cons; (first | (focus ((conv => lhs; whnf); done)) | exact rfl))))); exact i2)
 | (apply c_seq)
 | (apply c_reg)
 | (apply c_block)
 | (apply c_skip)
 | (apply c_ret)
 | (apply c_condT; exact rfl)
 | (apply c_condF; exact rfl)
 | (with_reducible apply k_c)
    · exact fin_t (by (conv => lhs; whnf)) (by rfl) (leafT (List.mem_map.2 ⟨_, hmem, by omega⟩))
    · refine hK (i + 1) _ _ ⟨by omega, fun j hj => ?_⟩ (by omega) (gc_to rfl (by simp [idFreeL, AV.idFree, fv]))
      rcases (by omega : j < i ∨ j = i) with h | rfl
      · exact hb j h
      · omega
  · obtain rfl : l.length = i := by omega
    repeat' first
 | (apply s_mov; (focus ((conv => lhs; whnf); done)))
 | (apply c_nil)
 | ((first | apply s_lss | apply s_leq | apply s_gtr | apply s_geq | apply s_eql | apply s_neq); exact rfl; all_goals (intro _; try (exfalso; omega)))
 | (apply s_pn; (focus (repeat (first | apply opds_nil | (apply opds_cons; (first | (focus ((conv => lhs; whnf); done)) | exact rfl))))); exact le _)
 | (apply c_seq)
 | (apply c_reg)
 | (apply c_exitH)
 | (apply c_ret)
 | (apply c_condF; exact rfl)
 | (apply c_preF; (focus (repeat (first | apply looks_nil | (apply looks_cons; (focus ((conv => lhs; whnf); done)))))); (focus (simp [idFreeL, AV.idFree, *]; done)))
 | (with_reducible apply k_c)
    refine fin_t (by (conv => lhs; whnf)) (by rfl) (leafF (fun h => ?_))
    obtain ⟨e, he, e2⟩ := List.mem_map.1 h
    obtain ⟨j, hj, rfl⟩ := List.getElem_of_mem he
    exact hb j hj (by rw [ge_lt hj]; exact e2)
theorem pcE_take : ∀ (l : List En) (i : Nat), pcE (l.take i) = (pcE l).take (i * 3)
  | [], i => by simp [pcE]
  | x :: l, 0 => by simp [pcE]
  | x :: l, i + 1 => by
    have h1 : pcE (x :: l) = .int .i64 x.p :: .int .i64 x.w :: x.fv :: pcE l := rfl
    have h2 : pcE (x :: l.take i) = .int .i64 x.p :: .int .i64 x.w :: x.fv :: pcE (l.take i) := rfl
    rw [List.take_succ_cons, h1, h2, pcE_take l i, show (i + 1) * 3 = i * 3 + 1 + 1 + 1 by omega]
    rfl
theorem p_slcE {H : Heap} {v : AV} {l : List En} (hv : IsP v l) {i : Nat} (hi : i < l.length) : ∃ v', IsP v' (l.take i) ∧ evP H (.slc 3 false true) [v, .int .i64 (i : Int)] = some v' := by
  obtain ⟨hg, ⟨rfl, rfl⟩ | rfl⟩ := hv
  · simp at hi
  · refine ⟨.rd 3 i ((pcE l).take (i * 3)), ⟨fun e he => hg e (List.mem_of_mem_take he), .inr ?_⟩, ?_⟩
    · rw [pcE_take]
      simp
      omega
    · have : i ≤ l.length := by omega
      simp [evP, natOf, slcOf, this]
theorem GP.le {l : List En} {n : Int} (h : GP l n) : ∀ i, i < l.length → (ge l i).p ≤ n := by
  obtain ⟨h1, h2, h3⟩ := h
  have key : ∀ d i, l.length - 1 - i = d → i < l.length → (ge l i).p ≤ n := by
    intro d
    induction d with
    | zero => intro i e hi; obtain rfl : i = l.length - 1 := by omega
              omega
    | succ d ih =>
      intro i e hi
      have h4 := ih (i + 1) (by omega) (by omega)
      have h5 := (h3 (i + 1) (by omega)).2 (by omega)
      simp only [Nat.add_sub_cancel] at h5
      omega
  exact fun i => key _ i rfl
theorem f57 {n : Int} {v : AV} {l : List En} (hn : IsNum n) (hv : IsP v l) (hl : l.length ≤ 1000) (hfl : ∀ e ∈ l, e.f.length ≤ 1000) {m : Nat} (hm : 4000 ≤ m) :
    evF tab it m 57 [.int .i64 n, v] [] = some (.bool (decide (GP l n)), []) := by
  obtain ⟨m, rfl⟩ : ∃ j, m = j + 1 := ⟨m - 1, by omega⟩
  have hn' := hn
  unfold IsNum at hn'
  have fv := hv.free
  have hg := hv.1
  have h70 := fun {q : Int} {v : AV} {l : List En} (hv : IsP v l) (hl : l.length ≤ 1000) H => (callPure_free (by simp [idFreeL, AV.idFree, hv.free]) (by simp) (f70 (q := q) hv hl (m := m) (by omega)) rfl : callPure (evF tab it m) true 70 [v, .int .i64 q] H = some (.bool (decide (q ∈ l.map (·.p))), H))
  have h22 := fun {A E N : Nat} (hN : 0 < N) (hN2 : N ≤ 2147483647) (hE : E ≤ 2147483647) H => c22 (A := A) (E := E) (n := N) hN hN2 (by omega) (m := m) (by omega) H
  have le := fun H => p_lenE (H := H) hv
  have ie := fun H i h => p_idxE (H := H) hv (i := i) h
  refine f_enter rfl rfl ?_
  have hm3 : 2000 ≤ m := by omega
  generalize evF tab it m = call at *
  repeat' first
 | (apply s_mov; (focus ((conv => lhs; whnf); done)))
 | (apply c_nil)
 | (apply c_seq)
 | (apply c_reg)
 | (apply c_block)
 | (with_reducible apply k_c)
  refine c_loop ?_
  refine loop_gc (σ := Nat) (fun i => [.int .i64 n, v, .int .i64 (i : Int)]) (fun _ => []) (fun i => i ≤ l.length ∧ ∀ j, j < i → EntOk l j) (fun i => l.length - i) ?_ _ 0 _ _ ⟨by omega, by omega⟩ (by omega) (gc_to rfl (by simp [idFreeL, AV.idFree, fv]))
  intro i ⟨hi, hok⟩ K hK
  by_cases hil : i < l.length
  · have i1 := ie [] i hil
    have i2 := p_ldE (H := []) hil
    have hmem := ge_mem hil
    have hfe := hg _ hmem
    have hfl' := hfl _ hmem
    have hpr := Bk_pr hi hok
    have ff := hfe.free
    have fo := hfe.one
    have o1 : ∀ x : Int, (AV.int .i64 x).one = true := fun _ => rfl
    have hEnt : EntOk l i ↔ EOk (ge l i).p (ge l i).w (ge l i).f (Bk l i) ∧ (0 < i → (ge l (i - 1)).p < (ge l i).p) := Iff.rfl
    have hGle := fun h : GP l n => h.le i hil
    obtain ⟨vs, hvs, hsl⟩ := p_slcE (H := [some (.box [.int .i64 (ge l i).p, .int .i64 (ge l i).w, (ge l i).fv])]) hv hil
    have hbk : Bk l i = (l.take i).map (·.p) := rfl
    have e70 := fun q H => h70 (q := q) hvs (by simp; omega) H
    rw [← hbk] at e70
    have i3 : 0 < i → evP [some (.box [.int .i64 (ge l i).p, .int .i64 (ge l i).w, (ge l i).fv])] (.idxA 3) [v, .int .i64 ((i - 1 : Nat) : Int)] = some (.rp ((pcE l).drop ((i - 1) * 3))) := fun h => ie _ (i - 1) (by omega)
    have i4 : 0 < i → evP [some (.box [.int .i64 (ge l i).p, .int .i64 (ge l i).w, (ge l i).fv])] (.ld false 1) [.rp ((pcE l).drop ((i - 1) * 3))] = some (.int .i64 (ge l (i - 1)).p) := fun h => p_ldE0 (by omega)
    have hnext : EntOk l i → ∀ j, j < i + 1 → EntOk l j := fun h j hj => by
      rcases (by omega : j < i ∨ j = i) with h' | rfl
      · exact hok j h'
      · exact h
    generalize (ge l (i - 1)).p = pp at *
    generalize ge l i = e at *
    obtain ⟨ep, ew, efv, ef⟩ := e
    simp only at *
    have al : evE call [] (.alloc false [.int .i64 0, .int .i64 0, .nilS]) [] = some (.ptr 0 0, [some (.box [.int .i64 0, .int .i64 0, .nilS])]) := rfl
    have st : evE call [some (.box [.int .i64 0, .int .i64 0, .nilS])] (.st 3) [.ptr 0 0, .agg [.int .i64 ep, .int .i64 ew, efv]] = some (.undef, [some (.box [.int .i64 ep, .int .i64 ew, efv])]) := by
      simp [evE, stAt, cells_agg, oneL, o1, fo, putRow]
    have d0 : ∀ H, evP H (.fldA 0) [.ptr 0 0] = some (.ptr 0 0) := fun _ => rfl
    have d1 : ∀ H, evP H (.fldA 1) [.ptr 0 0] = some (.ptr 0 1) := fun _ => rfl
    have d2 : ∀ H, evP H (.fldA 2) [.ptr 0 0] = some (.ptr 0 2) := fun _ => rfl
    have lf : ∀ H, evP H .len [efv] = some (.int .i64 (ef.length : Int)) := fun H => by cases hfe <;> simp [evP, lenOf]
    by_cases hasc : 0 < i → pp < ep
    · by_cases hpn : ep ≤ n
      · by_cases hp2 : ep = 2
        · subst hp2
          have hE : EOk 2 ew ef (Bk l i) ↔ ew = 1 ∧ ef.length = 0 := by
            rw [List.length_eq_zero_iff]
            unfold EOk
            constructor
            · rintro (⟨_, h⟩ | ⟨h, _⟩)
              · exact h
              · exact absurd rfl h
            · rintro ⟨h1, h2⟩; exact .inl ⟨rfl, h1, h2⟩
          have l0 : evP [some (.box [.int .i64 2, .int .i64 ew, efv])] (.ld false 1) [.ptr 0 0] = some (.int .i64 2) := rfl
          have l1 : evP [some (.box [.int .i64 2, .int .i64 ew, efv])] (.ld false 1) [.ptr 0 1] = some (.int .i64 ew) := rfl
          have l2 : evP [some (.box [.int .i64 2, .int .i64 ew, efv])] (.ld false 1) [.ptr 0 2] = some efv := rfl
          by_cases hw : ew = 1 ∧ ef.length = 0
          · have hEn := hnext (hEnt.2 ⟨hE.2 hw, hasc⟩)
            obtain ⟨hw1, hw2⟩ := hw
            repeat' first
 | (apply s_mov; (focus ((conv => lhs; whnf); done)))
 | (apply s_gT; exact rfl)
 | (apply s_gF; exact rfl)
 | (apply c_nil)
 | (apply s_pickT; exact rfl; (focus ((conv => lhs; whnf); done)))
 | (apply s_pickF; exact rfl; (focus ((conv => lhs; whnf); done)))
 | ((first | apply s_lss | apply s_leq | apply s_gtr | apply s_geq | apply s_eql | apply s_neq); exact rfl; all_goals (intro _; try (exfalso; omega)))
 | (apply s_pn; (focus (repeat (first | apply opds_nil | (apply opds_cons; (first | (focus ((conv => lhs; whnf); done)) | exact rfl))))); exact le _)
 | (apply s_pn; (focus (repeat (first | apply opds_nil | (apply opds_cons; (first | (focus ((conv => lhs; whnf); done)) | exact rfl))))); exact i1)
 | (apply s_pn; (focus (repeat (first | apply opds_nil | (apply opds_cons; (first | (focus ((conv => lhs; whnf); done)) | exact rfl))))); exact i2)
 | (apply s_en; (focus (repeat (first | apply opds_nil | (apply opds_cons; (first | (focus ((conv => lhs; whnf); done)) | exact rfl))))); exact al)
 | (apply s_st; (focus (repeat (first | apply opds_nil | (apply opds_cons; (first | (focus ((conv => lhs; whnf); done)) | exact rfl))))); exact st)
 | (apply s_pn; (focus (repeat (first | apply opds_nil | (apply opds_cons; (first | (focus ((conv => lhs; whnf); done)) | exact rfl))))); exact d0 _)
 | (apply s_pn; (focus (repeat (first | apply opds_nil | (apply opds_cons; (first | (focus ((conv => lhs; whnf); done)) | exact rfl))))); exact d1 _)
 | (apply s_pn; (focus (repeat (first | apply opds_nil | (apply opds_cons; (first | (focus ((conv => lhs; whnf); done)) | exact rfl))))); exact d2 _)
 | (apply s_pn; (focus (repeat (first | apply opds_nil | (apply opds_cons; (first | (focus ((conv => lhs; whnf); done)) | exact rfl))))); exact l0)
 | (apply s_pn; (focus (repeat (first | apply opds_nil | (apply opds_cons; (first | (focus ((conv => lhs; whnf); done)) | exact rfl))))); exact l1)
 | (apply s_pn; (focus (repeat (first | apply opds_nil | (apply opds_cons; (first | (focus ((conv => lhs; whnf); done)) | exact rfl))))); exact l2)
 | (apply s_pn; (focus (repeat (first | apply opds_nil | (apply opds_cons; (first | (focus ((conv => lhs; whnf); done)) | exact rfl))))); exact lf _)
 | (apply s_subN (b := 1); exact rfl; omega; omega)
 | (apply s_pn; (focus (repeat (first | apply opds_nil | (apply opds_cons; (first | (focus ((conv => lhs; whnf); done)) | exact rfl))))); exact i3 (by omega))
 | (apply s_pn; (focus (repeat (first | apply opds_nil | (apply opds_cons; (first | (focus ((conv => lhs; whnf); done)) | exact rfl))))); exact p_fldE0)
 | (apply s_pn; (focus (repeat (first | apply opds_nil | (apply opds_cons; (first | (focus ((conv => lhs; whnf); done)) | exact rfl))))); exact i4 (by omega))
 | ((first | apply s_add | apply s_sub); exact rfl; omega)
 | (apply c_seq)
 | (apply c_reg)
 | (apply c_block)
 | (apply c_exitH)
 | (apply c_skip)
 | (apply c_condT; exact rfl)
 | (apply c_condF; exact rfl)
 | (apply c_preF; (focus (repeat (first | apply looks_nil | (apply looks_cons; (focus ((conv => lhs; whnf); done)))))); (focus (simp [idFreeL, AV.idFree, *]; done)))
 | (with_reducible apply k_c)
            all_goals exact hK (i + 1) _ _ ⟨by omega, hEn⟩ (by omega) (gc_to rfl (by simp [idFreeL, AV.idFree, fv]))
          · rw [decide_eq_false (fun h : GP l n => hw (hE.1 (hEnt.1 (h.2.2 i hil)).1))]
            repeat' first
 | (apply s_mov; (focus ((conv => lhs; whnf); done)))
 | (apply s_gT; exact rfl)
 | (apply s_gF; exact rfl)
 | (apply c_nil)
 | (apply s_pickT; exact rfl; (focus ((conv => lhs; whnf); done)))
 | (apply s_pickF; exact rfl; (focus ((conv => lhs; whnf); done)))
 | ((first | apply s_lss | apply s_leq | apply s_gtr | apply s_geq | apply s_eql | apply s_neq); exact rfl; all_goals (intro _; try (exfalso; omega)))
 | (apply s_pn; (focus (repeat (first | apply opds_nil | (apply opds_cons; (first | (focus ((conv => lhs; whnf); done)) | exact rfl))))); exact le _)
 | (apply s_pn; (focus (repeat (first | apply opds_nil | (apply opds_cons; (first | (focus ((conv => lhs; whnf); done)) | exact rfl))))); exact i1)
 | (apply s_pn; (focus (repeat (first | apply opds_nil | (apply opds_cons; (first | (focus ((conv => lhs; whnf); done)) | exact rfl))))); exact i2)
 | (apply s_en; (focus (repeat (first | apply opds_nil | (apply opds_cons; (first | (focus ((conv => lhs; whnf); done)) | exact rfl))))); exact al)
 | (apply s_st; (focus (repeat (first | apply opds_nil | (apply opds_cons; (first | (focus ((conv => lhs; whnf); done)) | exact rfl))))); exact st)
 | (apply s_pn; (focus (repeat (first | apply opds_nil | (apply opds_cons; (first | (focus ((conv => lhs; whnf); done)) | exact rfl))))); exact d0 _)
 | (apply s_pn; (focus (repeat (first | apply opds_nil | (apply opds_cons; (first | (focus ((conv => lhs; whnf); done)) | exact rfl))))); exact d1 _)
 | (apply s_pn; (focus (repeat (first | apply opds_nil | (apply opds_cons; (first | (focus ((conv => lhs; whnf); done)) | exact rfl))))); exact d2 _)
 | (apply s_pn; (focus (repeat (first | apply opds_nil | (apply opds_cons; (first | (focus ((conv => lhs; whnf); done)) | exact rfl))))); exact l0)
 | (apply s_pn; (focus (repeat (first | apply opds_nil | (apply opds_cons; (first | (focus ((conv => lhs; whnf); done)) | exact rfl))))); exact l1)
 | (apply s_pn; (focus (repeat (first | apply opds_nil | (apply opds_cons; (first | (focus ((conv => lhs; whnf); done)) | exact rfl))))); exact l2)
 | (apply s_pn; (focus (repeat (first | apply opds_nil | (apply opds_cons; (first | (focus ((conv => lhs; whnf); done)) | exact rfl))))); exact lf _)
 | (apply s_subN (b := 1); exact rfl; omega; omega)
 | (apply s_pn; (focus (repeat (first | apply opds_nil | (apply opds_cons; (first | (focus ((conv => lhs; whnf); done)) | exact rfl))))); exact i3 (by omega))
 | (apply s_pn; (focus (repeat (first | apply opds_nil | (apply opds_cons; (first | (focus ((conv => lhs; whnf); done)) | exact rfl))))); exact p_fldE0)
 | (apply s_pn; (focus (repeat (first | apply opds_nil | (apply opds_cons; (first | (focus ((conv => lhs; whnf); done)) | exact rfl))))); exact i4 (by omega))
 | (apply c_seq)
 | (apply c_reg)
 | (apply c_block)
 | (apply c_skip)
 | (apply c_ret)
 | (apply c_condT; exact rfl)
 | (apply c_condF; exact rfl)
 | (with_reducible apply k_c)
            all_goals first | exact absurd ⟨by omega, by omega⟩ hw | exact fin_t (by (conv => lhs; whnf)) (by rfl) rfl
        · by_cases hc : 3 ≤ ep ∧ ep.tmod 2 ≠ 0 ∧ 2 ≤ ew ∧ ew < ep
          · obtain ⟨c1, c2, c4, c5⟩ := hc
            obtain ⟨P, rfl⟩ : ∃ P : Nat, ep = P := ⟨ep.toNat, by omega⟩
            obtain ⟨W, rfl⟩ : ∃ P : Nat, ew = P := ⟨ew.toNat, by omega⟩
            have c3 : IsNum (P : Int) := ⟨by omega, by omega⟩
            have hN1 : ((P : Int) - 1).toNat = P - 1 := by omega
            have hE : EOk (P : Int) (W : Int) ef (Bk l i) ↔ (∀ k : Nat, k < ef.length → getI ef k ∈ Bk l i ∧ (0 < k → getI ef ((k : Int) - 1) < getI ef k) ∧ (getI ef k).toNat ∣ P - 1) ∧ (∀ q, IsPr q → q ∣ P - 1 → ((q : Nat) : Int) ∈ ef) ∧ Wit W P ef := by
              unfold EOk
              rw [hN1, Int.toNat_natCast, Int.toNat_natCast]
              constructor
              · rintro (⟨h, _⟩ | ⟨_, _, _, _, _, _, h8, h9, h10⟩)
                · exact absurd h hp2
                · exact ⟨h8, h9, h10⟩
              · rintro ⟨h8, h9, h10⟩
                exact .inr ⟨hp2, c1, c2, c3, c4, c5, h8, h9, h10⟩
            have l0 : evP [some (.box [.int .i64 (P : Int), .int .i64 (W : Int), efv])] (.ld false 1) [.ptr 0 0] = some (.int .i64 (P : Int)) := rfl
            have l1 : evP [some (.box [.int .i64 (P : Int), .int .i64 (W : Int), efv])] (.ld false 1) [.ptr 0 1] = some (.int .i64 (W : Int)) := rfl
            have l2 : evP [some (.box [.int .i64 (P : Int), .int .i64 (W : Int), efv])] (.ld false 1) [.ptr 0 2] = some efv := rfl
            have e22 := h22 (A := W) (E := P - 1) (N := P) (by omega) (by omega) (by omega) [some (.box [.int .i64 (P : Int), .int .i64 (W : Int), efv])]
            have gcX : ∀ a b c d : Int, gc 0 [.int .i64 a, v, .int .i64 b, .ptr 0 0, .int .i64 c, .int .i64 d] [some (.box [.int .i64 (P : Int), .int .i64 (W : Int), efv])] = some ([.int .i64 a, v, .int .i64 b, .ptr 0 0, .int .i64 c, .int .i64 d], [some (.box [.int .i64 (P : Int), .int .i64 (W : Int), efv])]) := fun a b c d => by simp [go_sem, ff, fv]
            have gcY : ∀ a b c d e : Int, gc 0 [.int .i64 a, v, .int .i64 b, .ptr 0 0, .int .i64 c, .int .i64 d, .int .i64 e] [some (.box [.int .i64 (P : Int), .int .i64 (W : Int), efv])] = some ([.int .i64 a, v, .int .i64 b, .ptr 0 0, .int .i64 c, .int .i64 d, .int .i64 e], [some (.box [.int .i64 (P : Int), .int .i64 (W : Int), efv])]) := fun a b c d e => by simp [go_sem, ff, fv]
            by_cases hw1 : W ^ (P - 1) % P = 1
            · rw [hw1] at e22
              repeat' first
 | (apply s_mov; (focus ((conv => lhs; whnf); done)))
 | (apply s_gT; exact rfl)
 | (apply s_gF; exact rfl)
 | (apply c_nil)
 | (apply s_pickT; exact rfl; (focus ((conv => lhs; whnf); done)))
 | (apply s_pickF; exact rfl; (focus ((conv => lhs; whnf); done)))
 | ((first | apply s_lss | apply s_leq | apply s_gtr | apply s_geq | apply s_eql | apply s_neq); exact rfl; all_goals (intro _; try (exfalso; omega)))
 | (apply s_pn; (focus (repeat (first | apply opds_nil | (apply opds_cons; (first | (focus ((conv => lhs; whnf); done)) | exact rfl))))); exact le _)
 | (apply s_pn; (focus (repeat (first | apply opds_nil | (apply opds_cons; (first | (focus ((conv => lhs; whnf); done)) | exact rfl))))); exact i1)
 | (apply s_pn; (focus (repeat (first | apply opds_nil | (apply opds_cons; (first | (focus ((conv => lhs; whnf); done)) | exact rfl))))); exact i2)
 | (apply s_en; (focus (repeat (first | apply opds_nil | (apply opds_cons; (first | (focus ((conv => lhs; whnf); done)) | exact rfl))))); exact al)
 | (apply s_st; (focus (repeat (first | apply opds_nil | (apply opds_cons; (first | (focus ((conv => lhs; whnf); done)) | exact rfl))))); exact st)
 | (apply s_pn; (focus (repeat (first | apply opds_nil | (apply opds_cons; (first | (focus ((conv => lhs; whnf); done)) | exact rfl))))); exact d0 _)
 | (apply s_pn; (focus (repeat (first | apply opds_nil | (apply opds_cons; (first | (focus ((conv => lhs; whnf); done)) | exact rfl))))); exact d1 _)
 | (apply s_pn; (focus (repeat (first | apply opds_nil | (apply opds_cons; (first | (focus ((conv => lhs; whnf); done)) | exact rfl))))); exact l0)
 | (apply s_pn; (focus (repeat (first | apply opds_nil | (apply opds_cons; (first | (focus ((conv => lhs; whnf); done)) | exact rfl))))); exact l1)
 | (apply s_subN (b := 1); exact rfl; omega; omega)
 | (apply s_pn; (focus (repeat (first | apply opds_nil | (apply opds_cons; (first | (focus ((conv => lhs; whnf); done)) | exact rfl))))); exact i3 (by omega))
 | (apply s_pn; (focus (repeat (first | apply opds_nil | (apply opds_cons; (first | (focus ((conv => lhs; whnf); done)) | exact rfl))))); exact p_fldE0)
 | (apply s_pn; (focus (repeat (first | apply opds_nil | (apply opds_cons; (first | (focus ((conv => lhs; whnf); done)) | exact rfl))))); exact i4 (by omega))
 | (apply s_cn; (focus (repeat (first | apply opds_nil | (apply opds_cons; (first | (focus ((conv => lhs; whnf); done)) | exact rfl))))); exact e22)
 | (apply s_rem (b := 2); exact rfl; omega)
 | (apply c_seq)
 | (apply c_reg)
 | (apply c_block)
 | (apply c_skip)
 | (apply c_condT; exact rfl)
 | (apply c_condF; exact rfl)
 | (with_reducible apply k_c)
              all_goals
                refine c_loop ?_
                refine loop_gc (σ := Nat × Nat) (fun s => [.int .i64 n, v, .int .i64 (i : Int), .ptr 0 0, .int .i64 (s.2 : Int), .int .i64 (s.1 : Int)]) (fun _ => [some (.box [.int .i64 (P : Int), .int .i64 (W : Int), efv])]) (fun s => s.1 ≤ ef.length ∧ Left ef s.1 (P - 1) s.2 ∧ (∀ k : Nat, k < s.1 → getI ef k ∈ Bk l i ∧ (0 < k → getI ef ((k : Int) - 1) < getI ef k) ∧ (getI ef k).toNat ∣ P - 1) ∧ ∀ k : Nat, k < s.1 → ¬ hit W P (getI ef k).toNat) (fun s => ef.length - s.1) ?_ _ (0, P - 1) _ _ ⟨by show 0 ≤ _; omega, Left.init ef (P - 1), fun k hk => by simp at hk, fun k hk => by simp at hk⟩ (by show ef.length - 0 < _; omega) (gcX _ _ _ _)
                intro ⟨k, rest⟩ ⟨hki, hL, hk, hh⟩ K2 hK2
                dsimp only at hki hL hk hh hK2 ⊢
                obtain ⟨r1, r2⟩ := hL.pos (by omega)
                by_cases hkl : k < ef.length
                · have hno := fun (x : ¬ (getI ef k ∈ Bk l i ∧ (0 < k → getI ef ((k : Int) - 1) < getI ef k) ∧ (getI ef k).toNat ∣ P - 1)) => (fun h : GP l n => x ((hE.1 (hEnt.1 (h.2.2 i hil)).1).1 k hkl))
                  by_cases hasc2 : 0 < k → getI ef ((k : Int) - 1) < getI ef k
                  · by_cases hqB : getI ef k ∈ Bk l i
                    · obtain ⟨q1, q2⟩ := hpr _ hqB
                      obtain ⟨Q, hQ⟩ : ∃ Q : Nat, getI ef k = (Q : Int) := ⟨(getI ef k).toNat, by omega⟩
                      rw [hQ, Int.toNat_natCast] at q2
                      have hq2 := q2.1
                      have hasc3 : 0 < k → getI ef ((k - 1 : Nat) : Int) < (Q : Int) := fun h => by
                        have := hasc2 h
                        rw [show ((k - 1 : Nat) : Int) = (k : Int) - 1 by omega]
                        omega
                      have e70q := e70 (getI ef k) [some (.box [.int .i64 (P : Int), .int .i64 (W : Int), efv])]
                      simp only [hqB, decide_true] at e70q
                      rw [hQ] at e70q
                      have ldq : ∀ H, evP H (.ld false 1) [.rp (iL (ef.drop ((k : Int).toNat)))] = some (.int .i64 (Q : Int)) := fun H => by
                        rw [p_ld ⟨by omega, by omega⟩, hQ]
                      have hdl := Nat.div_le_self (P - 1) Q
                      have e22q := h22 (A := W) (E := (P - 1) / Q) (N := P) (by omega) (by omega) (by omega) [some (.box [.int .i64 (P : Int), .int .i64 (W : Int), efv])]
                      have hhq : hit W P Q ↔ W ^ ((P - 1) / Q) % P = 1 := Iff.rfl
                      generalize W ^ ((P - 1) / Q) % P = wq at *
                      by_cases hqd : Q ∣ P - 1
                      · have hqm : (P - 1) % Q = 0 := Nat.mod_eq_zero_of_dvd hqd
                        by_cases hhit : wq = 1
                        · subst hhit
                          rw [decide_eq_false (fun h : GP l n => (hE.1 (hEnt.1 (h.2.2 i hil)).1).2.2.2 ⟨_, getI_mem hkl, by rw [hQ, Int.toNat_natCast]; exact hhq.2 rfl⟩)]
                          repeat' first
 | (apply s_mov; (focus ((conv => lhs; whnf); done)))
 | (apply s_gT; exact rfl)
 | (apply s_gF; exact rfl)
 | (apply c_nil)
 | (apply s_pickT; exact rfl; (focus ((conv => lhs; whnf); done)))
 | (apply s_pickF; exact rfl; (focus ((conv => lhs; whnf); done)))
 | (apply s_notT; exact rfl)
 | ((first | apply s_lss | apply s_leq | apply s_gtr | apply s_geq | apply s_eql | apply s_neq); exact rfl; all_goals (intro _; try (exfalso; omega)))
 | (apply s_pn; (focus (repeat (first | apply opds_nil | (apply opds_cons; (first | (focus ((conv => lhs; whnf); done)) | exact rfl))))); exact ldq _)
 | (apply s_pn; (focus (repeat (first | apply opds_nil | (apply opds_cons; (first | (focus ((conv => lhs; whnf); done)) | exact rfl))))); exact d0 _)
 | (apply s_pn; (focus (repeat (first | apply opds_nil | (apply opds_cons; (first | (focus ((conv => lhs; whnf); done)) | exact rfl))))); exact d1 _)
 | (apply s_pn; (focus (repeat (first | apply opds_nil | (apply opds_cons; (first | (focus ((conv => lhs; whnf); done)) | exact rfl))))); exact d2 _)
 | (apply s_pn; (focus (repeat (first | apply opds_nil | (apply opds_cons; (first | (focus ((conv => lhs; whnf); done)) | exact rfl))))); exact l0)
 | (apply s_pn; (focus (repeat (first | apply opds_nil | (apply opds_cons; (first | (focus ((conv => lhs; whnf); done)) | exact rfl))))); exact l1)
 | (apply s_pn; (focus (repeat (first | apply opds_nil | (apply opds_cons; (first | (focus ((conv => lhs; whnf); done)) | exact rfl))))); exact l2)
 | (apply s_pn; (focus (repeat (first | apply opds_nil | (apply opds_cons; (first | (focus ((conv => lhs; whnf); done)) | exact rfl))))); exact lf _)
 | (apply s_pn; (focus (repeat (first | apply opds_nil | (apply opds_cons; (first | (focus ((conv => lhs; whnf); done)) | exact rfl))))); exact hsl)
 | (apply s_cn; (focus (repeat (first | apply opds_nil | (apply opds_cons; (first | (focus ((conv => lhs; whnf); done)) | exact rfl))))); exact e70q)
 | (apply s_cn; (focus (repeat (first | apply opds_nil | (apply opds_cons; (first | (focus ((conv => lhs; whnf); done)) | exact rfl))))); exact e22q)
 | (apply s_subN (b := 1); exact rfl; omega; omega)
 | (apply s_quoN; exact rfl; omega; omega)
 | (apply s_remN; exact rfl; omega)
 | (apply s_idx; (focus ((conv => lhs; whnf); done)); exact rfl; (first | assumption | (apply IsLL.at; assumption; omega)); omega)
 | (apply s_ldI; exact rfl; omega)
 | (apply c_seq)
 | (apply c_reg)
 | (apply c_block)
 | (apply c_skip)
 | (apply c_ret)
 | (apply c_condT; exact rfl)
 | (with_reducible apply k_c)
                          all_goals exact fin_t (by (conv => lhs; whnf)) (by rfl) rfl
                        · have hpre : ∀ j : Nat, j < k → getI ef j ≠ (Q : Int) := fun j hj => by
                            have := asc_chain (f := ef) (k + 1) (fun m hk0 h0 => by
                              rcases (by omega : m < k ∨ m = k) with h' | rfl
                              · exact (hk m h').2.1 h0
                              · exact hasc2 h0) j k hj (by omega)
                            omega
                          have hqr := (hL.dvd q2 hpre).2 hqd
                          obtain ⟨e, r, he, hr⟩ := take_out hq2 r1
                          have hLs : Left ef (k + 1) (P - 1) r := Left.step (he ▸ hL) q2 hQ hr
                          obtain ⟨rr1, rr2⟩ := hLs.pos (by omega)
                          have he31 : e < 100 := by
                            rcases Nat.lt_or_ge e 100 with h | h
                            · exact h
                            · have a1 := Nat.pow_le_pow_right (show 0 < 2 by omega) h
                              have a2 := Nat.pow_le_pow_left hq2 e
                              have a3 := Nat.le_mul_of_pos_right (Q ^ e) rr1
                              have a4 : 2 ^ 100 ≤ rest := by rw [he]; omega
                              have : 2 ^ 100 ≤ 2147483647 := by omega
                              exact absurd this (by decide)
                          have hle : ∀ j, j ≤ e → Q ^ (e - j) * r ≤ rest := fun j hj => by
                            rw [he]
                            exact Nat.mul_le_mul_right _ (Nat.pow_le_pow_right (by omega) (by omega))
                          have hz : ∀ j, j < e → Q ^ (e - j) * r % Q = 0 ∧ Q ^ (e - j) * r / Q = Q ^ (e - (j + 1)) * r := fun j hj => by
                            have : Q ^ (e - j) * r = Q * (Q ^ (e - (j + 1)) * r) := by
                              rw [show e - j = (e - (j + 1)) + 1 by omega, Nat.pow_succ]
                              simp only [Nat.mul_comm, Nat.mul_left_comm, Nat.mul_assoc]
                            rw [this]
                            exact ⟨Nat.mul_mod_right _ _, Nat.mul_div_cancel_left _ (by omega)⟩
                          have hnz : r % Q ≠ 0 := fun h => hr (Nat.dvd_of_mod_eq_zero h)
                          have e0 : Q ^ (e - e) * r = r := by rw [Nat.sub_self, Nat.pow_zero, Nat.one_mul]
                          have hk' : ∀ j : Nat, j < k + 1 → getI ef j ∈ Bk l i ∧ (0 < j → getI ef ((j : Int) - 1) < getI ef j) ∧ (getI ef j).toNat ∣ P - 1 := fun j hk0 => by
                            rcases (by omega : j < k ∨ j = k) with h' | rfl
                            · exact hk j h'
                            · exact ⟨hqB, hasc2, by rw [hQ, Int.toNat_natCast]; exact hqd⟩
                          have hh' : ∀ j : Nat, j < k + 1 → ¬ hit W P (getI ef j).toNat := fun j hk0 => by
                            rcases (by omega : j < k ∨ j = k) with h' | rfl
                            · exact hh j h'
                            · rw [hQ, Int.toNat_natCast]; exact fun h => hhit (hhq.1 h)
                          repeat' first
 | (apply s_mov; (focus ((conv => lhs; whnf); done)))
 | (apply s_gT; exact rfl)
 | (apply s_gF; exact rfl)
 | (apply c_nil)
 | (apply s_pickT; exact rfl; (focus ((conv => lhs; whnf); done)))
 | (apply s_pickF; exact rfl; (focus ((conv => lhs; whnf); done)))
 | (apply s_notT; exact rfl)
 | ((first | apply s_lss | apply s_leq | apply s_gtr | apply s_geq | apply s_eql | apply s_neq); exact rfl; all_goals (intro _; try (exfalso; omega)))
 | (apply s_pn; (focus (repeat (first | apply opds_nil | (apply opds_cons; (first | (focus ((conv => lhs; whnf); done)) | exact rfl))))); exact ldq _)
 | (apply s_pn; (focus (repeat (first | apply opds_nil | (apply opds_cons; (first | (focus ((conv => lhs; whnf); done)) | exact rfl))))); exact d0 _)
 | (apply s_pn; (focus (repeat (first | apply opds_nil | (apply opds_cons; (first | (focus ((conv => lhs; whnf); done)) | exact rfl))))); exact d1 _)
 | (apply s_pn; (focus (repeat (first | apply opds_nil | (apply opds_cons; (first | (focus ((conv => lhs; whnf); done)) | exact rfl))))); exact d2 _)
 | (apply s_pn; (focus (repeat (first | apply opds_nil | (apply opds_cons; (first | (focus ((conv => lhs; whnf); done)) | exact rfl))))); exact l0)
 | (apply s_pn; (focus (repeat (first | apply opds_nil | (apply opds_cons; (first | (focus ((conv => lhs; whnf); done)) | exact rfl))))); exact l1)
 | (apply s_pn; (focus (repeat (first | apply opds_nil | (apply opds_cons; (first | (focus ((conv => lhs; whnf); done)) | exact rfl))))); exact l2)
 | (apply s_pn; (focus (repeat (first | apply opds_nil | (apply opds_cons; (first | (focus ((conv => lhs; whnf); done)) | exact rfl))))); exact lf _)
 | (apply s_pn; (focus (repeat (first | apply opds_nil | (apply opds_cons; (first | (focus ((conv => lhs; whnf); done)) | exact rfl))))); exact hsl)
 | (apply s_cn; (focus (repeat (first | apply opds_nil | (apply opds_cons; (first | (focus ((conv => lhs; whnf); done)) | exact rfl))))); exact e70q)
 | (apply s_cn; (focus (repeat (first | apply opds_nil | (apply opds_cons; (first | (focus ((conv => lhs; whnf); done)) | exact rfl))))); exact e22q)
 | (apply s_subN (b := 1); exact rfl; omega; omega)
 | (apply s_quoN; exact rfl; omega; omega)
 | (apply s_remN; exact rfl; omega)
 | (apply s_idx; (focus ((conv => lhs; whnf); done)); exact rfl; (first | assumption | (apply IsLL.at; assumption; omega)); omega)
 | (apply s_ldI; exact rfl; omega)
 | (apply c_seq)
 | (apply c_reg)
 | (apply c_block)
 | (apply c_skip)
 | (apply c_condT; exact rfl)
 | (apply c_condF; exact rfl)
 | (with_reducible apply k_c)
                          all_goals
                            refine c_loop ?_
                            refine loop_gc (σ := Nat) (fun j => [.int .i64 n, v, .int .i64 (i : Int), .ptr 0 0, .int .i64 ((Q ^ (e - j) * r : Nat) : Int), .int .i64 (k : Int), .int .i64 (Q : Int)]) (fun _ => [some (.box [.int .i64 (P : Int), .int .i64 (W : Int), efv])]) (fun j => j ≤ e) (fun j => e - j) ?_ _ 0 _ _ (by omega) (by omega) (by
                              rw [Nat.sub_zero, ← he]
                              exact gcY _ _ _ _ _)
                            intro j hj K' hK'
                            have hj2 := hle j hj
                            have hj3 := hz j
                            by_cases hje : j < e
                            · obtain ⟨z1, z2⟩ := hj3 hje
                              repeat' first
 | (apply s_mov; (focus ((conv => lhs; whnf); done)))
 | (apply c_nil)
 | ((first | apply s_lss | apply s_leq | apply s_gtr | apply s_geq | apply s_eql | apply s_neq); exact rfl; all_goals (intro _; try (exfalso; omega)))
 | (apply s_quoN; exact rfl; omega; omega)
 | (apply s_remN; exact rfl; omega)
 | (apply c_seq)
 | (apply c_reg)
 | (apply c_block)
 | (apply c_skip)
 | (apply c_condT; exact rfl)
 | (with_reducible apply k_c)
                              rw [z2]
                              exact hK' (j + 1) _ _ (by omega) (by omega) (gcY _ _ _ _ _)
                            · obtain rfl : e = j := by omega
                              rw [e0] at *
                              repeat' first
 | (apply s_mov; (focus ((conv => lhs; whnf); done)))
 | (apply c_nil)
 | ((first | apply s_lss | apply s_leq | apply s_gtr | apply s_geq | apply s_eql | apply s_neq); exact rfl; all_goals (intro _; try (exfalso; omega)))
 | (apply s_remN; exact rfl; omega)
 | (apply c_seq)
 | (apply c_reg)
 | (apply c_exitH)
 | (apply c_condF; exact rfl)
 | (with_reducible apply k_c)
                              try apply k_c
                              apply c_pre
                              · exact gcX _ _ _ _
                              repeat' first
 | (apply s_mov; (focus ((conv => lhs; whnf); done)))
 | (apply c_nil)
 | ((first | apply s_add | apply s_sub); exact rfl; omega)
 | (apply c_reg)
                              exact hK2 (k + 1, r) _ _ ⟨by show k + 1 ≤ _; omega, hLs, hk', hh'⟩ (by show ef.length - (k + 1) < ef.length - k; omega) (gcX _ _ _ _)
                      · have hqm : (P - 1) % Q ≠ 0 := fun h => hqd (Nat.dvd_of_mod_eq_zero h)
                        rw [decide_eq_false (hno (fun h => hqd (by have := h.2.2; rw [hQ, Int.toNat_natCast] at this; exact this)))]
                        repeat' first
 | (apply s_mov; (focus ((conv => lhs; whnf); done)))
 | (apply s_gT; exact rfl)
 | (apply s_gF; exact rfl)
 | (apply s_gFD; exact rfl)
 | (apply c_nil)
 | (apply s_pickT; exact rfl; (focus ((conv => lhs; whnf); done)))
 | (apply s_pickF; exact rfl; (focus ((conv => lhs; whnf); done)))
 | (apply s_notT; exact rfl)
 | ((first | apply s_lss | apply s_leq | apply s_gtr | apply s_geq | apply s_eql | apply s_neq); exact rfl; all_goals (intro _; try (exfalso; omega)))
 | (apply s_pn; (focus (repeat (first | apply opds_nil | (apply opds_cons; (first | (focus ((conv => lhs; whnf); done)) | exact rfl))))); exact ldq _)
 | (apply s_pn; (focus (repeat (first | apply opds_nil | (apply opds_cons; (first | (focus ((conv => lhs; whnf); done)) | exact rfl))))); exact d0 _)
 | (apply s_pn; (focus (repeat (first | apply opds_nil | (apply opds_cons; (first | (focus ((conv => lhs; whnf); done)) | exact rfl))))); exact d2 _)
 | (apply s_pn; (focus (repeat (first | apply opds_nil | (apply opds_cons; (first | (focus ((conv => lhs; whnf); done)) | exact rfl))))); exact l0)
 | (apply s_pn; (focus (repeat (first | apply opds_nil | (apply opds_cons; (first | (focus ((conv => lhs; whnf); done)) | exact rfl))))); exact l2)
 | (apply s_pn; (focus (repeat (first | apply opds_nil | (apply opds_cons; (first | (focus ((conv => lhs; whnf); done)) | exact rfl))))); exact lf _)
 | (apply s_pn; (focus (repeat (first | apply opds_nil | (apply opds_cons; (first | (focus ((conv => lhs; whnf); done)) | exact rfl))))); exact hsl)
 | (apply s_cn; (focus (repeat (first | apply opds_nil | (apply opds_cons; (first | (focus ((conv => lhs; whnf); done)) | exact rfl))))); exact e70q)
 | (apply s_subN (b := 1); exact rfl; omega; omega)
 | (apply s_remN; exact rfl; omega)
 | (apply s_idx; (focus ((conv => lhs; whnf); done)); exact rfl; (first | assumption | (apply IsLL.at; assumption; omega)); omega)
 | (apply s_ldI; exact rfl; omega)
 | (apply c_seq)
 | (apply c_reg)
 | (apply c_block)
 | (apply c_skip)
 | (apply c_ret)
 | (apply c_condT; exact rfl)
 | (with_reducible apply k_c)
                        all_goals exact fin_t (by (conv => lhs; whnf)) (by rfl) rfl
                    · rw [decide_eq_false (hno (fun h => hqB h.1))]
                      have e70q := e70 (getI ef k) [some (.box [.int .i64 (P : Int), .int .i64 (W : Int), efv])]
                      simp only [hqB, decide_false] at e70q
                      repeat' first
 | (apply s_mov; (focus ((conv => lhs; whnf); done)))
 | (apply s_gT; exact rfl)
 | (apply s_gF; exact rfl)
 | (apply s_gFD; exact rfl)
 | (apply c_nil)
 | (apply s_pickT; exact rfl; (focus ((conv => lhs; whnf); done)))
 | (apply s_pickF; exact rfl; (focus ((conv => lhs; whnf); done)))
 | (apply s_notF; exact rfl)
 | ((first | apply s_lss | apply s_leq | apply s_gtr | apply s_geq | apply s_eql | apply s_neq); exact rfl; all_goals (intro _; try (exfalso; omega)))
 | (apply s_pn; (focus (repeat (first | apply opds_nil | (apply opds_cons; (first | (focus ((conv => lhs; whnf); done)) | exact rfl))))); exact d2 _)
 | (apply s_pn; (focus (repeat (first | apply opds_nil | (apply opds_cons; (first | (focus ((conv => lhs; whnf); done)) | exact rfl))))); exact l2)
 | (apply s_pn; (focus (repeat (first | apply opds_nil | (apply opds_cons; (first | (focus ((conv => lhs; whnf); done)) | exact rfl))))); exact lf _)
 | (apply s_pn; (focus (repeat (first | apply opds_nil | (apply opds_cons; (first | (focus ((conv => lhs; whnf); done)) | exact rfl))))); exact hsl)
 | (apply s_cn; (focus (repeat (first | apply opds_nil | (apply opds_cons; (first | (focus ((conv => lhs; whnf); done)) | exact rfl))))); exact e70q)
 | ((first | apply s_add | apply s_sub); exact rfl; omega)
 | (apply s_idx; (focus ((conv => lhs; whnf); done)); exact rfl; (first | assumption | (apply IsLL.at; assumption; omega)); omega)
 | (apply s_ldI; exact rfl; omega)
 | (apply c_seq)
 | (apply c_reg)
 | (apply c_block)
 | (apply c_skip)
 | (apply c_ret)
 | (apply c_condT; exact rfl)
 | (with_reducible apply k_c)
                      all_goals exact fin_t (by (conv => lhs; whnf)) (by rfl) rfl
                  · rw [decide_eq_false (hno (fun h => hasc2 h.2.1))]
                    have hk0 : 0 < k := Classical.byContradiction fun h => hasc2 fun h' => absurd h' h
                    have hge : ¬ getI ef ((k : Int) - 1) < getI ef k := fun h => hasc2 fun _ => h
                    repeat' first
 | (apply s_mov; (focus ((conv => lhs; whnf); done)))
 | (apply s_gT; exact rfl)
 | (apply s_gF; exact rfl)
 | (apply s_gFD; exact rfl)
 | (apply c_nil)
 | (apply s_pickT; exact rfl; (focus ((conv => lhs; whnf); done)))
 | ((first | apply s_lss | apply s_leq | apply s_gtr | apply s_geq | apply s_eql | apply s_neq); exact rfl; all_goals (intro _; try (exfalso; omega)))
 | (apply s_pn; (focus (repeat (first | apply opds_nil | (apply opds_cons; (first | (focus ((conv => lhs; whnf); done)) | exact rfl))))); exact d2 _)
 | (apply s_pn; (focus (repeat (first | apply opds_nil | (apply opds_cons; (first | (focus ((conv => lhs; whnf); done)) | exact rfl))))); exact l2)
 | (apply s_pn; (focus (repeat (first | apply opds_nil | (apply opds_cons; (first | (focus ((conv => lhs; whnf); done)) | exact rfl))))); exact lf _)
 | ((first | apply s_add | apply s_sub); exact rfl; omega)
 | (apply s_idx; (focus ((conv => lhs; whnf); done)); exact rfl; (first | assumption | (apply IsLL.at; assumption; omega)); omega)
 | (apply s_ldI; exact rfl; omega)
 | (apply c_seq)
 | (apply c_reg)
 | (apply c_block)
 | (apply c_skip)
 | (apply c_ret)
 | (apply c_condT; exact rfl)
 | (with_reducible apply k_c)
                    all_goals exact fin_t (by (conv => lhs; whnf)) (by rfl) rfl
                · obtain rfl : k = ef.length := by omega
                  have hdone := hL.done (by omega)
                  by_cases hr1 : rest = 1
                  · have hEn := hnext (hEnt.2 ⟨hE.2 ⟨hk, hdone.1 hr1, hw1, fun ⟨x, hx, hxh⟩ => by
                      obtain ⟨j, j1, rfl⟩ := mem_getI hx
                      exact hh j j1 hxh⟩, hasc⟩)
                    repeat' first
 | (apply s_mov; (focus ((conv => lhs; whnf); done)))
 | (apply c_nil)
 | ((first | apply s_lss | apply s_leq | apply s_gtr | apply s_geq | apply s_eql | apply s_neq); exact rfl; all_goals (intro _; try (exfalso; omega)))
 | (apply s_pn; (focus (repeat (first | apply opds_nil | (apply opds_cons; (first | (focus ((conv => lhs; whnf); done)) | exact rfl))))); exact d2 _)
 | (apply s_pn; (focus (repeat (first | apply opds_nil | (apply opds_cons; (first | (focus ((conv => lhs; whnf); done)) | exact rfl))))); exact l2)
 | (apply s_pn; (focus (repeat (first | apply opds_nil | (apply opds_cons; (first | (focus ((conv => lhs; whnf); done)) | exact rfl))))); exact lf _)
 | ((first | apply s_add | apply s_sub); exact rfl; omega)
 | (apply c_seq)
 | (apply c_reg)
 | (apply c_exitH)
 | (apply c_skip)
 | (apply c_condF; exact rfl)
 | (apply c_preF; (focus (repeat (first | apply looks_nil | (apply looks_cons; (focus ((conv => lhs; whnf); done)))))); (focus (simp [idFreeL, AV.idFree, *]; done)))
 | (with_reducible apply k_c)
                    all_goals exact hK (i + 1) _ _ ⟨by omega, hEn⟩ (by omega) (gc_to rfl (by simp [idFreeL, AV.idFree, fv]))
                  · rw [decide_eq_false (fun h : GP l n => hr1 (hdone.2 (hE.1 (hEnt.1 (h.2.2 i hil)).1).2.1))]
                    repeat' first
 | (apply s_mov; (focus ((conv => lhs; whnf); done)))
 | (apply c_nil)
 | ((first | apply s_lss | apply s_leq | apply s_gtr | apply s_geq | apply s_eql | apply s_neq); exact rfl; all_goals (intro _; try (exfalso; omega)))
 | (apply s_pn; (focus (repeat (first | apply opds_nil | (apply opds_cons; (first | (focus ((conv => lhs; whnf); done)) | exact rfl))))); exact d2 _)
 | (apply s_pn; (focus (repeat (first | apply opds_nil | (apply opds_cons; (first | (focus ((conv => lhs; whnf); done)) | exact rfl))))); exact l2)
 | (apply s_pn; (focus (repeat (first | apply opds_nil | (apply opds_cons; (first | (focus ((conv => lhs; whnf); done)) | exact rfl))))); exact lf _)
 | (apply c_seq)
 | (apply c_reg)
 | (apply c_exitH)
 | (apply c_ret)
 | (apply c_condT; exact rfl)
 | (apply c_condF; exact rfl)
 | (apply c_preF; (focus (repeat (first | apply looks_nil | (apply looks_cons; (focus ((conv => lhs; whnf); done)))))); (focus (simp [idFreeL, AV.idFree, *]; done)))
 | (with_reducible apply k_c)
                    all_goals exact fin_t (by (conv => lhs; whnf)) (by rfl) rfl
            · rw [decide_eq_false (fun h : GP l n => hw1 (hE.1 (hEnt.1 (h.2.2 i hil)).1).2.2.1)]
              repeat' first
 | (apply s_mov; (focus ((conv => lhs; whnf); done)))
 | (apply s_gT; exact rfl)
 | (apply s_gF; exact rfl)
 | (apply c_nil)
 | (apply s_pickT; exact rfl; (focus ((conv => lhs; whnf); done)))
 | (apply s_pickF; exact rfl; (focus ((conv => lhs; whnf); done)))
 | ((first | apply s_lss | apply s_leq | apply s_gtr | apply s_geq | apply s_eql | apply s_neq); exact rfl; all_goals (intro _; try (exfalso; omega)))
 | (apply s_pn; (focus (repeat (first | apply opds_nil | (apply opds_cons; (first | (focus ((conv => lhs; whnf); done)) | exact rfl))))); exact le _)
 | (apply s_pn; (focus (repeat (first | apply opds_nil | (apply opds_cons; (first | (focus ((conv => lhs; whnf); done)) | exact rfl))))); exact i1)
 | (apply s_pn; (focus (repeat (first | apply opds_nil | (apply opds_cons; (first | (focus ((conv => lhs; whnf); done)) | exact rfl))))); exact i2)
 | (apply s_en; (focus (repeat (first | apply opds_nil | (apply opds_cons; (first | (focus ((conv => lhs; whnf); done)) | exact rfl))))); exact al)
 | (apply s_st; (focus (repeat (first | apply opds_nil | (apply opds_cons; (first | (focus ((conv => lhs; whnf); done)) | exact rfl))))); exact st)
 | (apply s_pn; (focus (repeat (first | apply opds_nil | (apply opds_cons; (first | (focus ((conv => lhs; whnf); done)) | exact rfl))))); exact d0 _)
 | (apply s_pn; (focus (repeat (first | apply opds_nil | (apply opds_cons; (first | (focus ((conv => lhs; whnf); done)) | exact rfl))))); exact d1 _)
 | (apply s_pn; (focus (repeat (first | apply opds_nil | (apply opds_cons; (first | (focus ((conv => lhs; whnf); done)) | exact rfl))))); exact l0)
 | (apply s_pn; (focus (repeat (first | apply opds_nil | (apply opds_cons; (first | (focus ((conv => lhs; whnf); done)) | exact rfl))))); exact l1)
 | (apply s_subN (b := 1); exact rfl; omega; omega)
 | (apply s_pn; (focus (repeat (first | apply opds_nil | (apply opds_cons; (first | (focus ((conv => lhs; whnf); done)) | exact rfl))))); exact i3 (by omega))
 | (apply s_pn; (focus (repeat (first | apply opds_nil | (apply opds_cons; (first | (focus ((conv => lhs; whnf); done)) | exact rfl))))); exact p_fldE0)
 | (apply s_pn; (focus (repeat (first | apply opds_nil | (apply opds_cons; (first | (focus ((conv => lhs; whnf); done)) | exact rfl))))); exact i4 (by omega))
 | (apply s_cn; (focus (repeat (first | apply opds_nil | (apply opds_cons; (first | (focus ((conv => lhs; whnf); done)) | exact rfl))))); exact e22)
 | (apply s_rem (b := 2); exact rfl; omega)
 | (apply c_seq)
 | (apply c_reg)
 | (apply c_block)
 | (apply c_skip)
 | (apply c_ret)
 | (apply c_condT; exact rfl)
 | (apply c_condF; exact rfl)
 | (with_reducible apply k_c)
              all_goals exact fin_t (by (conv => lhs; whnf)) (by rfl) rfl
          · have hno : ¬ EOk ep ew ef (Bk l i) := by
              rintro (⟨h, _⟩ | ⟨_, h3, h4, h5, h6, h7, _⟩)
              · exact hp2 h
              · exact hc ⟨h3, h4, h6, h7⟩
            have l0 : evP [some (.box [.int .i64 ep, .int .i64 ew, efv])] (.ld false 1) [.ptr 0 0] = some (.int .i64 ep) := rfl
            have l1 : evP [some (.box [.int .i64 ep, .int .i64 ew, efv])] (.ld false 1) [.ptr 0 1] = some (.int .i64 ew) := rfl
            rw [decide_eq_false (fun h : GP l n => hno (hEnt.1 (h.2.2 i hil)).1)]
            repeat' first
 | (apply s_mov; (focus ((conv => lhs; whnf); done)))
 | (apply s_gT; exact rfl)
 | (apply s_gF; exact rfl)
 | (apply s_gFD; exact rfl)
 | (apply c_nil)
 | (apply s_pickT; exact rfl; (focus ((conv => lhs; whnf); done)))
 | (apply s_pickF; exact rfl; (focus ((conv => lhs; whnf); done)))
 | ((first | apply s_lss | apply s_leq | apply s_gtr | apply s_geq | apply s_eql | apply s_neq); exact rfl; all_goals (intro _; try (exfalso; omega)))
 | (apply s_pn; (focus (repeat (first | apply opds_nil | (apply opds_cons; (first | (focus ((conv => lhs; whnf); done)) | exact rfl))))); exact le _)
 | (apply s_pn; (focus (repeat (first | apply opds_nil | (apply opds_cons; (first | (focus ((conv => lhs; whnf); done)) | exact rfl))))); exact i1)
 | (apply s_pn; (focus (repeat (first | apply opds_nil | (apply opds_cons; (first | (focus ((conv => lhs; whnf); done)) | exact rfl))))); exact i2)
 | (apply s_en; (focus (repeat (first | apply opds_nil | (apply opds_cons; (first | (focus ((conv => lhs; whnf); done)) | exact rfl))))); exact al)
 | (apply s_st; (focus (repeat (first | apply opds_nil | (apply opds_cons; (first | (focus ((conv => lhs; whnf); done)) | exact rfl))))); exact st)
 | (apply s_pn; (focus (repeat (first | apply opds_nil | (apply opds_cons; (first | (focus ((conv => lhs; whnf); done)) | exact rfl))))); exact d0 _)
 | (apply s_pn; (focus (repeat (first | apply opds_nil | (apply opds_cons; (first | (focus ((conv => lhs; whnf); done)) | exact rfl))))); exact d1 _)
 | (apply s_pn; (focus (repeat (first | apply opds_nil | (apply opds_cons; (first | (focus ((conv => lhs; whnf); done)) | exact rfl))))); exact l0)
 | (apply s_pn; (focus (repeat (first | apply opds_nil | (apply opds_cons; (first | (focus ((conv => lhs; whnf); done)) | exact rfl))))); exact l1)
 | (apply s_subN (b := 1); exact rfl; omega; omega)
 | (apply s_pn; (focus (repeat (first | apply opds_nil | (apply opds_cons; (first | (focus ((conv => lhs; whnf); done)) | exact rfl))))); exact i3 (by omega))
 | (apply s_pn; (focus (repeat (first | apply opds_nil | (apply opds_cons; (first | (focus ((conv => lhs; whnf); done)) | exact rfl))))); exact p_fldE0)
 | (apply s_pn; (focus (repeat (first | apply opds_nil | (apply opds_cons; (first | (focus ((conv => lhs; whnf); done)) | exact rfl))))); exact i4 (by omega))
 | (apply s_rem (b := 2); exact rfl; omega)
 | (apply c_seq)
 | (apply c_reg)
 | (apply c_block)
 | (apply c_skip)
 | (apply c_ret)
 | (apply c_condT; exact rfl)
 | (apply c_condF; exact rfl)
 | (with_reducible apply k_c)
            all_goals first | exact fin_t (by (conv => lhs; whnf)) (by rfl) rfl | exact absurd ⟨by omega, by omega, by omega, by omega⟩ hc
      · have l0 : evP [some (.box [.int .i64 ep, .int .i64 ew, efv])] (.ld false 1) [.ptr 0 0] = some (.int .i64 ep) := rfl
        rw [decide_eq_false (fun h : GP l n => hpn (hGle h))]
        repeat' first
 | (apply s_mov; (focus ((conv => lhs; whnf); done)))
 | (apply s_gT; exact rfl)
 | (apply s_gF; exact rfl)
 | (apply c_nil)
 | (apply s_pickT; exact rfl; (focus ((conv => lhs; whnf); done)))
 | (apply s_pickF; exact rfl; (focus ((conv => lhs; whnf); done)))
 | ((first | apply s_lss | apply s_leq | apply s_gtr | apply s_geq | apply s_eql | apply s_neq); exact rfl; all_goals (intro _; try (exfalso; omega)))
 | (apply s_pn; (focus (repeat (first | apply opds_nil | (apply opds_cons; (first | (focus ((conv => lhs; whnf); done)) | exact rfl))))); exact le _)
 | (apply s_pn; (focus (repeat (first | apply opds_nil | (apply opds_cons; (first | (focus ((conv => lhs; whnf); done)) | exact rfl))))); exact i1)
 | (apply s_pn; (focus (repeat (first | apply opds_nil | (apply opds_cons; (first | (focus ((conv => lhs; whnf); done)) | exact rfl))))); exact i2)
 | (apply s_en; (focus (repeat (first | apply opds_nil | (apply opds_cons; (first | (focus ((conv => lhs; whnf); done)) | exact rfl))))); exact al)
 | (apply s_st; (focus (repeat (first | apply opds_nil | (apply opds_cons; (first | (focus ((conv => lhs; whnf); done)) | exact rfl))))); exact st)
 | (apply s_pn; (focus (repeat (first | apply opds_nil | (apply opds_cons; (first | (focus ((conv => lhs; whnf); done)) | exact rfl))))); exact d0 _)
 | (apply s_pn; (focus (repeat (first | apply opds_nil | (apply opds_cons; (first | (focus ((conv => lhs; whnf); done)) | exact rfl))))); exact l0)
 | (apply s_subN (b := 1); exact rfl; omega; omega)
 | (apply s_pn; (focus (repeat (first | apply opds_nil | (apply opds_cons; (first | (focus ((conv => lhs; whnf); done)) | exact rfl))))); exact i3 (by omega))
 | (apply s_pn; (focus (repeat (first | apply opds_nil | (apply opds_cons; (first | (focus ((conv => lhs; whnf); done)) | exact rfl))))); exact p_fldE0)
 | (apply s_pn; (focus (repeat (first | apply opds_nil | (apply opds_cons; (first | (focus ((conv => lhs; whnf); done)) | exact rfl))))); exact i4 (by omega))
 | (apply c_seq)
 | (apply c_reg)
 | (apply c_block)
 | (apply c_skip)
 | (apply c_ret)
 | (apply c_condT; exact rfl)
 | (with_reducible apply k_c)
        all_goals exact fin_t (by (conv => lhs; whnf)) (by rfl) rfl
    · have l0 : evP [some (.box [.int .i64 ep, .int .i64 ew, efv])] (.ld false 1) [.ptr 0 0] = some (.int .i64 ep) := rfl
      rw [decide_eq_false (fun h : GP l n => hasc (hEnt.1 (h.2.2 i hil)).2)]
      have hi0 : 0 < i := Classical.byContradiction fun h => hasc fun h' => absurd h' h
      have hge : ¬ pp < ep := fun h => hasc fun _ => h
      repeat' first
 | (apply s_mov; (focus ((conv => lhs; whnf); done)))
 | (apply s_gT; exact rfl)
 | (apply s_gF; exact rfl)
 | (apply c_nil)
 | (apply s_pickT; exact rfl; (focus ((conv => lhs; whnf); done)))
 | ((first | apply s_lss | apply s_leq | apply s_gtr | apply s_geq | apply s_eql | apply s_neq); exact rfl; all_goals (intro _; try (exfalso; omega)))
 | (apply s_pn; (focus (repeat (first | apply opds_nil | (apply opds_cons; (first | (focus ((conv => lhs; whnf); done)) | exact rfl))))); exact le _)
 | (apply s_pn; (focus (repeat (first | apply opds_nil | (apply opds_cons; (first | (focus ((conv => lhs; whnf); done)) | exact rfl))))); exact i1)
 | (apply s_pn; (focus (repeat (first | apply opds_nil | (apply opds_cons; (first | (focus ((conv => lhs; whnf); done)) | exact rfl))))); exact i2)
 | (apply s_en; (focus (repeat (first | apply opds_nil | (apply opds_cons; (first | (focus ((conv => lhs; whnf); done)) | exact rfl))))); exact al)
 | (apply s_st; (focus (repeat (first | apply opds_nil | (apply opds_cons; (first | (focus ((conv => lhs; whnf); done)) | exact rfl))))); exact st)
 | (apply s_pn; (focus (repeat (first | apply opds_nil | (apply opds_cons; (first | (focus ((conv => lhs; whnf); done)) | exact rfl))))); exact d0 _)
 | (apply s_pn; (focus (repeat (first | apply opds_nil | (apply opds_cons; (first | (focus ((conv => lhs; whnf); done)) | exact rfl))))); exact l0)
 | (apply s_subN (b := 1); exact rfl; omega; omega)
 | (apply s_pn; (focus (repeat (first | apply opds_nil | (apply opds_cons; (first | (focus ((conv => lhs; whnf); done)) | exact rfl))))); exact i3 (by omega))
 | (apply s_pn; (focus (repeat (first | apply opds_nil | (apply opds_cons; (first | (focus ((conv => lhs; whnf); done)) | exact rfl))))); exact p_fldE0)
 | (apply s_pn; (focus (repeat (first | apply opds_nil | (apply opds_cons; (first | (focus ((conv => lhs; whnf); done)) | exact rfl))))); exact i4 (by omega))
 | (apply c_seq)
 | (apply c_reg)
 | (apply c_block)
 | (apply c_skip)
 | (apply c_ret)
 | (apply c_condT; exact rfl)
 | (with_reducible apply k_c)
      all_goals exact fin_t (by (conv => lhs; whnf)) (by rfl) rfl
  · obtain rfl : l.length = i := by omega
    have hGP : GP l n ↔ 0 < l.length ∧ (ge l (l.length - 1)).p = n := ⟨fun h => ⟨h.1, h.2.1⟩, fun h => ⟨h.1, h.2, hok⟩⟩
    have i3 : 0 < l.length → evP [] (.idxA 3) [v, .int .i64 ((l.length - 1 : Nat) : Int)] = some (.rp ((pcE l).drop ((l.length - 1) * 3))) := fun h => ie _ (l.length - 1) (by omega)
    have i4 : 0 < l.length → evP [] (.ld false 1) [.rp ((pcE l).drop ((l.length - 1) * 3))] = some (.int .i64 (ge l (l.length - 1)).p) := fun h => p_ldE0 (by omega)
    generalize (ge l (l.length - 1)).p = pp at *
    repeat' first
 | (apply s_mov; (focus ((conv => lhs; whnf); done)))
 | (apply s_gT; exact rfl)
 | (apply s_gF; exact rfl)
 | (apply c_nil)
 | (apply s_pickT; exact rfl; (focus ((conv => lhs; whnf); done)))
 | (apply s_pickF; exact rfl; (focus ((conv => lhs; whnf); done)))
 | ((first | apply s_lss | apply s_leq | apply s_gtr | apply s_geq | apply s_eql | apply s_neq); exact rfl; all_goals (intro _; try (exfalso; omega)))
 | (apply s_pn; (focus (repeat (first | apply opds_nil | (apply opds_cons; (first | (focus ((conv => lhs; whnf); done)) | exact rfl))))); exact le _)
 | (apply s_subN (b := 1); exact rfl; omega; omega)
 | (apply s_pn; (focus (repeat (first | apply opds_nil | (apply opds_cons; (first | (focus ((conv => lhs; whnf); done)) | exact rfl))))); exact i3 (by omega))
 | (apply s_pn; (focus (repeat (first | apply opds_nil | (apply opds_cons; (first | (focus ((conv => lhs; whnf); done)) | exact rfl))))); exact p_fldE0)
 | (apply s_pn; (focus (repeat (first | apply opds_nil | (apply opds_cons; (first | (focus ((conv => lhs; whnf); done)) | exact rfl))))); exact i4 (by omega))
 | (apply c_seq)
 | (apply c_reg)
 | (apply c_exitH)
 | (apply c_ret)
 | (apply c_condF; exact rfl)
 | (apply c_preF; (focus (repeat (first | apply looks_nil | (apply looks_cons; (focus ((conv => lhs; whnf); done)))))); (focus (simp [idFreeL, AV.idFree, *]; done)))
 | (with_reducible apply k_c)
    · exact fin_t (by (conv => lhs; whnf)) (by rfl) (leafT (hGP.2 ⟨by omega, by omega⟩))
    · exact fin_t (by (conv => lhs; whnf)) (by rfl) (leafF (fun h => by have := (hGP.1 h).2; omega))
    · exact fin_t (by (conv => lhs; whnf)) (by rfl) (leafF (fun h => by have := (hGP.1 h).1; omega))
end Go.AM.Pr
