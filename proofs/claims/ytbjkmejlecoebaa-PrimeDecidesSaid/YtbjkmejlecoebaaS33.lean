/- A part of the proof: S33. -/
import Derived.Test.YtbjkmejlecoebaaS32
set_option linter.unusedSectionVars false
set_option linter.unusedVariables false
set_option linter.unusedSimpArgs false
namespace Go.AM.Pr
attribute [local go_sem] gc subHeap reach_skip ren_free reach_new reach_newp reach_end rangeL roots boxCells nodupB posOf renL AV.ren pickO renH renO looks look bindEnv envOf reach_int reach_bool reach_nilS reach_rd putRow cells_sl cells_int cells_bool cells_nilS cells_rd cells_agg reach_agg reach_tup idFreeL idf_sl idf_ptr idf_int idf_bool idf_nilS idf_rd reach_fn reach_mp cells_fn cells_ptr cells_mp idf_mp idf_fn idf_agg idf_tup
open Go.AM.Num
set_option maxHeartbeats 4000000
/-- the numbers of the entries before one -/
def Bk (l : List En) (k : Nat) : List Int := (l.take k).map (·.p)
theorem Bk_succ {l : List En} {k : Nat} (h : k < l.length) : Bk l (k + 1) = Bk l k ++ [(ge l k).p] := by
  unfold Bk
  rw [ge_lt h, ← List.take_append_getElem h, List.map_append]
  rfl
def EntOk (l : List En) (i : Nat) : Prop := EOk (ge l i).p (ge l i).w (ge l i).f (Bk l i) ∧ (0 < i → (ge l (i - 1)).p < (ge l i).p)
/-- a right proof -/
def GP (l : List En) (n : Int) : Prop := 0 < l.length ∧ (ge l (l.length - 1)).p = n ∧ ∀ i, i < l.length → EntOk l i
noncomputable instance (l : List En) (n : Int) : Decidable (GP l n) := Classical.propDecidable _
theorem Bk_pr {l : List En} : ∀ {k : Nat}, k ≤ l.length → (∀ i, i < k → EntOk l i) → AllPr (Bk l k)
  | 0, _, _ => fun x hx => by simp [Bk] at hx
  | k + 1, hk, h => fun x hx => by
    have ih := Bk_pr (k := k) (by omega) fun i hi => h i (by omega)
    rw [Bk_succ (by omega)] at hx
    rcases List.mem_append.1 hx with hx | hx
    · exact ih x hx
    · simp only [List.mem_singleton] at hx
      subst hx
      exact (h k (by omega)).1.prime ih
def mBr (l : List En) : Nat → List (Int × AV)
  | 0 => []
  | k + 1 => putL (ge l k).p (.bool true) (mBr l k)
theorem mBr_map {l : List En} : ∀ {k : Nat}, k ≤ l.length → MapB (mBr l k) (Bk l k)
  | 0, _ => fun q => by simp [mBr, findL, Bk]
  | k + 1, hk => fun q => by
    have ih := mBr_map (l := l) (k := k) (by omega)
    simp only [mBr]
    rw [findL_put, Bk_succ (by omega), ih q]
    by_cases h : q = (ge l k).p
    · simp [h]
    · simp [h]
def lastP (l : List En) : Nat → Int
  | 0 => 0
  | k + 1 => (ge l k).p
theorem f61 {n : Int} {v : AV} {l : List En} (hn : 1 ≤ n) (hv : IsP v l) (hl : l.length ≤ 1000) (hfl : ∀ e ∈ l, e.f.length ≤ 1000) {m : Nat} (hm : 4000 ≤ m) :
    evF tab it m 61 [.int .i64 n, v] [] = some (.bool (decide (GP l n)), []) := by
  obtain ⟨m, rfl⟩ : ∃ j, m = j + 1 := ⟨m - 1, by omega⟩
  have fv := hv.free
  have hg := hv.1
  have h73 := fun {p w : Int} {fv : AV} {f B : List Int} {l : List (Int × AV)} (hB : MapB l B) (hpr : AllPr B) (hf : IsL fv f) (hlen : f.length ≤ 1000) => f73 (p := p) (w := w) hB hpr hf hlen (m := m) (by omega)
  have le := fun H => p_lenE (H := H) hv
  have ie := fun H i h => p_idxE (H := H) hv (i := i) h
  refine f_enter rfl rfl ?_
  have hm3 : 2000 ≤ m := by omega
  generalize evF tab it m = call at *
  repeat' first
 | (apply s_mov; (focus ((conv => lhs; whnf); done)))
 | (apply c_nil)
 | (apply s_en; (focus (repeat (first | apply opds_nil | (apply opds_cons; (first | (focus ((conv => lhs; whnf); done)) | exact rfl))))); exact e_mkM0)
 | (apply s_pn; (focus (repeat (first | apply opds_nil | (apply opds_cons; (first | (focus ((conv => lhs; whnf); done)) | exact rfl))))); exact le _)
 | (apply c_seq)
 | (apply c_reg)
 | (apply c_block)
 | (with_reducible apply k_c)
  refine c_loop ?_
  refine loop_gc (σ := Nat) (fun i => [.int .i64 n, .mp 0, .int .i64 (lastP l i), v, .int .i64 (l.length : Int), .int .i64 (i : Int)]) (fun i => [some (.map (mE (mBr l i)))]) (fun i => i ≤ l.length ∧ ∀ j, j < i → EntOk l j) (fun i => l.length - i) ?_ _ 0 _ _ ⟨by omega, by omega⟩ (by omega) (by simp [go_sem, fv, lastP, mBr])
  intro i ⟨hi, hok⟩ K hK
  by_cases hil : i < l.length
  · have i1 := ie [some (.map (mE (mBr l i)))] i hil
    have i2 := p_ldE (H := [some (.map (mE (mBr l i)))]) hil
    have hmem := ge_mem hil
    have hfe := hg _ hmem
    have hfl' := hfl _ hmem
    have hpr := Bk_pr hi hok
    have e73 := h73 (p := (ge l i).p) (w := (ge l i).w) (mBr_map hi) hpr hfe hfl'
    have ff := hfe.free
    have fo := hfe.one
    have o1 : ∀ x : Int, (AV.int .i64 x).one = true := fun _ => rfl
    have hput : mBr l (i + 1) = putL (ge l i).p (.bool true) (mBr l i) := rfl
    have hlast : lastP l (i + 1) = (ge l i).p := rfl
    have hasc : (lastP l i < (ge l i).p) → (0 < i → (ge l (i - 1)).p < (ge l i).p) := fun h h0 => by
      obtain ⟨j, rfl⟩ : ∃ j, i = j + 1 := ⟨i - 1, by omega⟩
      exact h
    have hasc' : EntOk l i → lastP l i < (ge l i).p := fun h => by
      cases i with
      | zero =>
        have := (h.1.prime hpr).1
        show (0 : Int) < _
        omega
      | succ j => exact h.2 (by omega)
    have hEnt : EntOk l i ↔ EOk (ge l i).p (ge l i).w (ge l i).f (Bk l i) ∧ lastP l i < (ge l i).p := ⟨fun h => ⟨h.1, hasc' h⟩, fun h => ⟨h.1, hasc h.2⟩⟩
    have gcK : ∀ a b c d : Int, ∀ x : AV, gc 0 [.int .i64 a, .mp 0, .int .i64 b, v, .int .i64 c, .int .i64 d] [some (.map (mE (mBr l (i + 1)))), some (.box [.int .i64 (ge l i).p, .int .i64 (ge l i).w, x])] = some ([.int .i64 a, .mp 0, .int .i64 b, v, .int .i64 c, .int .i64 d], [some (.map (mE (mBr l (i + 1))))]) := fun a b c d x => by
      simp [go_sem, fv]
    generalize ge l i = e at *
    obtain ⟨ep, ew, efv, ef⟩ := e
    simp only at *
    have al : evE call [some (.map (mE (mBr l i)))] (.alloc false [.int .i64 0, .int .i64 0, .nilS]) [] = some (.ptr 1 0, [some (.map (mE (mBr l i))), some (.box [.int .i64 0, .int .i64 0, .nilS])]) := rfl
    have st : evE call [some (.map (mE (mBr l i))), some (.box [.int .i64 0, .int .i64 0, .nilS])] (.st 3) [.ptr 1 0, .agg [.int .i64 ep, .int .i64 ew, efv]] = some (.undef, [some (.map (mE (mBr l i))), some (.box [.int .i64 ep, .int .i64 ew, efv])]) := by
      simp [evE, stAt, cells_agg, oneL, o1, fo, putRow]
    have d0 : ∀ H, evP H (.fldA 0) [.ptr 1 0] = some (.ptr 1 0) := fun _ => rfl
    have l0 : ∀ es, evP [some (.map es), some (.box [.int .i64 ep, .int .i64 ew, efv])] (.ld false 1) [.ptr 1 0] = some (.int .i64 ep) := fun _ => rfl
    have l3 : ∀ es, evP [some (.map es), some (.box [.int .i64 ep, .int .i64 ew, efv])] (.ld true 3) [.ptr 1 0] = some (.agg [.int .i64 ep, .int .i64 ew, efv]) := fun _ => rfl
    have mt : callMut call 73 [.agg [.int .i64 ep, .int .i64 ew, efv], .mp 0] [some (.map (mE (mBr l i))), some (.box [.int .i64 ep, .int .i64 ew, efv])] = some (.bool (decide (EOk ep ew ef (Bk l i))), [some (.map (mE (mBr l i))), some (.box [.int .i64 ep, .int .i64 ew, efv])]) := by
      simp [callMut, subHeap, backOf, writeBack, e73, go_sem, ff, renL, AV.ren]
    have up : evE call [some (.map (mE (mBr l i))), some (.box [.int .i64 ep, .int .i64 ew, efv])] (.upM [some .i64]) [.mp 0, .int .i64 ep, .bool true] = some (.undef, [some (.map (mE (mBr l (i + 1)))), some (.box [.int .i64 ep, .int .i64 ew, efv])]) := by
      rw [e_upM (l := mBr l i) rfl rfl, hput]; rfl
    by_cases hE : EOk ep ew ef (Bk l i)
    · simp only [hE, decide_true, true_and] at mt hEnt
      by_cases ha : lastP l i < ep
      · have hok' : ∀ j, j < i + 1 → EntOk l j := fun j hj => by
          rcases (by omega : j < i ∨ j = i) with h | rfl
          · exact hok j h
          · exact hEnt.2 ha
        generalize lastP l i = la at *
        repeat' first
 | (apply s_mov; (focus ((conv => lhs; whnf); done)))
 | (apply s_gT; exact rfl)
 | (apply c_nil)
 | (apply s_pickF; exact rfl; (focus ((conv => lhs; whnf); done)))
 | (apply s_notT; exact rfl)
 | ((first | apply s_lss | apply s_leq | apply s_gtr | apply s_geq | apply s_eql | apply s_neq); exact rfl; all_goals (intro _; try (exfalso; omega)))
 | ((first | apply s_add | apply s_sub); exact rfl; omega)
 | (apply s_pn; (focus (repeat (first | apply opds_nil | (apply opds_cons; (first | (focus ((conv => lhs; whnf); done)) | exact rfl))))); exact i1)
 | (apply s_pn; (focus (repeat (first | apply opds_nil | (apply opds_cons; (first | (focus ((conv => lhs; whnf); done)) | exact rfl))))); exact i2)
 | (apply s_en; (focus (repeat (first | apply opds_nil | (apply opds_cons; (first | (focus ((conv => lhs; whnf); done)) | exact rfl))))); exact al)
 | (apply s_st; (focus (repeat (first | apply opds_nil | (apply opds_cons; (first | (focus ((conv => lhs; whnf); done)) | exact rfl))))); exact st)
 | (apply s_pn; (focus (repeat (first | apply opds_nil | (apply opds_cons; (first | (focus ((conv => lhs; whnf); done)) | exact rfl))))); exact d0 _)
 | (apply s_pn; (focus (repeat (first | apply opds_nil | (apply opds_cons; (first | (focus ((conv => lhs; whnf); done)) | exact rfl))))); exact l0 _)
 | (apply s_pn; (focus (repeat (first | apply opds_nil | (apply opds_cons; (first | (focus ((conv => lhs; whnf); done)) | exact rfl))))); exact l3 _)
 | (apply s_en; (focus (repeat (first | apply opds_nil | (apply opds_cons; (first | (focus ((conv => lhs; whnf); done)) | exact rfl))))); exact mt)
 | (apply s_st; (focus (repeat (first | apply opds_nil | (apply opds_cons; (first | (focus ((conv => lhs; whnf); done)) | exact rfl))))); exact up)
 | (apply c_seq)
 | (apply c_reg)
 | (apply c_block)
 | (apply c_skip)
 | (apply c_condT; exact rfl)
 | (apply c_condF; exact rfl)
 | (with_reducible apply k_c)
        rw [← hlast]
        exact hK (i + 1) _ _ ⟨by omega, hok'⟩ (by omega) (by rw [hlast]; exact gcK _ _ _ _ _)
      · rw [decide_eq_false (fun h : GP l n => ha (hEnt.1 (h.2.2 i hil)))]
        generalize lastP l i = la at *
        repeat' first
 | (apply s_mov; (focus ((conv => lhs; whnf); done)))
 | (apply s_gF; exact rfl)
 | (apply s_gFD; exact rfl)
 | (apply c_nil)
 | (apply s_pickT; exact rfl; (focus ((conv => lhs; whnf); done)))
 | ((first | apply s_lss | apply s_leq | apply s_gtr | apply s_geq | apply s_eql | apply s_neq); exact rfl; all_goals (intro _; try (exfalso; omega)))
 | (apply s_pn; (focus (repeat (first | apply opds_nil | (apply opds_cons; (first | (focus ((conv => lhs; whnf); done)) | exact rfl))))); exact i1)
 | (apply s_pn; (focus (repeat (first | apply opds_nil | (apply opds_cons; (first | (focus ((conv => lhs; whnf); done)) | exact rfl))))); exact i2)
 | (apply s_en; (focus (repeat (first | apply opds_nil | (apply opds_cons; (first | (focus ((conv => lhs; whnf); done)) | exact rfl))))); exact al)
 | (apply s_st; (focus (repeat (first | apply opds_nil | (apply opds_cons; (first | (focus ((conv => lhs; whnf); done)) | exact rfl))))); exact st)
 | (apply s_pn; (focus (repeat (first | apply opds_nil | (apply opds_cons; (first | (focus ((conv => lhs; whnf); done)) | exact rfl))))); exact d0 _)
 | (apply s_pn; (focus (repeat (first | apply opds_nil | (apply opds_cons; (first | (focus ((conv => lhs; whnf); done)) | exact rfl))))); exact l0 _)
 | (apply c_seq)
 | (apply c_reg)
 | (apply c_block)
 | (apply c_skip)
 | (apply c_ret)
 | (apply c_condT; exact rfl)
 | (with_reducible apply k_c)
        exact fin_t (by (conv => lhs; whnf)) (by rfl) rfl
    · simp only [hE, decide_false, false_and] at mt hEnt
      rw [decide_eq_false (fun h : GP l n => hEnt.1 (h.2.2 i hil))]
      generalize lastP l i = la at *
      repeat' first
 | (apply s_mov; (focus ((conv => lhs; whnf); done)))
 | (apply s_gT; exact rfl)
 | (apply s_gF; exact rfl)
 | (apply s_gFD; exact rfl)
 | (apply c_nil)
 | (apply s_pickT; exact rfl; (focus ((conv => lhs; whnf); done)))
 | (apply s_pickF; exact rfl; (focus ((conv => lhs; whnf); done)))
 | (apply s_notF; exact rfl)
 | ((first | apply s_lss | apply s_leq | apply s_gtr | apply s_geq | apply s_eql | apply s_neq); exact rfl; all_goals (intro _; try (exfalso; omega)))
 | (apply s_pn; (focus (repeat (first | apply opds_nil | (apply opds_cons; (first | (focus ((conv => lhs; whnf); done)) | exact rfl))))); exact i1)
 | (apply s_pn; (focus (repeat (first | apply opds_nil | (apply opds_cons; (first | (focus ((conv => lhs; whnf); done)) | exact rfl))))); exact i2)
 | (apply s_en; (focus (repeat (first | apply opds_nil | (apply opds_cons; (first | (focus ((conv => lhs; whnf); done)) | exact rfl))))); exact al)
 | (apply s_st; (focus (repeat (first | apply opds_nil | (apply opds_cons; (first | (focus ((conv => lhs; whnf); done)) | exact rfl))))); exact st)
 | (apply s_pn; (focus (repeat (first | apply opds_nil | (apply opds_cons; (first | (focus ((conv => lhs; whnf); done)) | exact rfl))))); exact d0 _)
 | (apply s_pn; (focus (repeat (first | apply opds_nil | (apply opds_cons; (first | (focus ((conv => lhs; whnf); done)) | exact rfl))))); exact l0 _)
 | (apply s_pn; (focus (repeat (first | apply opds_nil | (apply opds_cons; (first | (focus ((conv => lhs; whnf); done)) | exact rfl))))); exact l3 _)
 | (apply s_en; (focus (repeat (first | apply opds_nil | (apply opds_cons; (first | (focus ((conv => lhs; whnf); done)) | exact rfl))))); exact mt)
 | (apply c_seq)
 | (apply c_reg)
 | (apply c_block)
 | (apply c_skip)
 | (apply c_ret)
 | (apply c_condT; exact rfl)
 | (with_reducible apply k_c)
      all_goals exact fin_t (by (conv => lhs; whnf)) (by rfl) rfl
  · obtain rfl : l.length = i := by omega
    have hfin : GP l n ↔ lastP l l.length = n := by
      cases hll : l.length with
      | zero =>
        unfold GP
        rw [hll]
        constructor
        · rintro ⟨h, _⟩; omega
        · intro h
          have : (0 : Int) = n := h
          omega
      | succ k =>
        unfold GP
        rw [hll]
        exact ⟨fun h => h.2.1, fun h => ⟨by omega, h, fun j hj => hok j (by omega)⟩⟩
    repeat' first
 | (apply s_mov; (focus ((conv => lhs; whnf); done)))
 | (apply c_nil)
 | ((first | apply s_lss | apply s_leq | apply s_gtr | apply s_geq | apply s_eql | apply s_neq); exact rfl; all_goals (intro _; try (exfalso; omega)))
 | (apply c_seq)
 | (apply c_reg)
 | (apply c_exitH)
 | (apply c_ret)
 | (apply c_condF; exact rfl)
 | (apply c_preF; (focus (repeat (first | apply looks_nil | (apply looks_cons; (focus ((conv => lhs; whnf); done)))))); (focus (simp [idFreeL, AV.idFree, *]; done)))
 | (with_reducible apply k_c)
    · exact fin_t (by (conv => lhs; whnf)) (by rfl) (leafT (hfin.2 (by assumption)))
    · exact fin_t (by (conv => lhs; whnf)) (by rfl) (leafF (fun h => absurd (hfin.1 h) (by assumption)))
theorem c61 {n : Int} {v : AV} {l : List En} (hn : 1 ≤ n) (hv : IsP v l) (hl : l.length ≤ 1000) (hfl : ∀ e ∈ l, e.f.length ≤ 1000) {m : Nat} (hm : 4000 ≤ m) (H : Heap) :
    callPure (evF tab it m) true 61 [.int .i64 n, v] H = some (.bool (decide (GP l n)), H) :=
  callPure_free (by simp [idFreeL, AV.idFree, hv.free]) (by simp) (f61 hn hv hl hfl hm) rfl
end Go.AM.Pr
