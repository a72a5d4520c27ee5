/- A part of the proof: S23. -/
import Derived.Test.YtbjkmejlecoebaaS14
import Derived.Test.YtbjkmejlecoebaaSE5
import Derived.Test.YtbjkmejlecoebaaM3
set_option linter.unusedSectionVars false
set_option linter.unusedVariables false
set_option linter.unusedSimpArgs false
namespace Go.AM.Pr
attribute [local go_sem] gc subHeap reach_skip ren_free reach_new reach_newp reach_end rangeL roots boxCells nodupB posOf renL AV.ren pickO renH renO looks look bindEnv envOf reach_int reach_bool reach_nilS reach_rd putRow cells_sl cells_int cells_bool cells_nilS cells_rd cells_agg reach_agg reach_tup idFreeL idf_sl idf_ptr idf_int idf_bool idf_nilS idf_rd reach_fn reach_mp cells_fn cells_ptr cells_mp idf_mp idf_fn idf_agg idf_tup
open Go.AM.Num
/-- a power by a part of p - 1 is one -/
def hit (w p q : Nat) : Prop := w ^ ((p - 1) / q) % p = 1
instance (w p q : Nat) : Decidable (hit w p q) := by unfold hit; infer_instance
theorem f72 {w p q : Nat} (hp : 1 ≤ p) (hp2 : p ≤ 2147483647) (hw : w < p) (hq : 1 ≤ q) {m : Nat} (hm : 200 ≤ m) : evF tab it m 72 [.int .i64 (q : Int), .rp [.int .i64 (w : Int)], .rp [.int .i64 (p : Int)]] [] = some (.bool (decide (hit w p q)), []) := by
  obtain ⟨m, rfl⟩ : ∃ j, m = j + 1 := ⟨m - 1, by omega⟩
  have hd := Nat.div_le_self (p - 1) q
  have hc := c47 (A := w) (E := (p - 1) / q) hp hp2 hw (by omega) (m := m) (by omega) []
  refine f_enter rfl rfl ?_
  generalize evF tab it m = call at *
  repeat' first
 | (apply s_mov; (focus ((conv => lhs; whnf); done)))
 | (apply c_nil)
 | ((first | apply s_lss | apply s_leq | apply s_gtr | apply s_geq | apply s_eql | apply s_neq); exact rfl; all_goals (intro _; try (exfalso; omega)))
 | (apply s_subN (b := 1); exact rfl; omega; omega)
 | (apply s_cn; (focus (repeat (first | apply opds_nil | (apply opds_cons; (first | (focus ((conv => lhs; whnf); done)) | exact rfl))))); exact hc)
 | (apply s_pd; exact rfl)
 | (apply s_quoN; exact rfl; omega; omega)
 | (apply c_seq)
 | (apply c_reg)
 | (apply c_ret)
 | (with_reducible apply k_c)
  · exact fin_t (by (conv => lhs; whnf)) (by rfl) (leafT (by unfold hit; omega))
  · exact fin_t (by (conv => lhs; whnf)) (by rfl) (leafF (by unfold hit; omega))
theorem c72 {w p q : Nat} (hp : 1 ≤ p) (hp2 : p ≤ 2147483647) (hw : w < p) (hq : 1 ≤ q) {m : Nat} (hm : 200 ≤ m) (H : Heap) : callPure (evF tab it m) true 72 [.int .i64 (q : Int), .rp [.int .i64 (w : Int)], .rp [.int .i64 (p : Int)]] H = some (.bool (decide (hit w p q)), H) :=
  callPure_free rfl (by simp) (f72 hp hp2 hw hq hm) rfl
def fi (w p : Nat) : List Int → Nat → Int
  | [], _ => -1
  | x :: l, k => if hit w p x.toNat then k else fi w p l (k + 1)
theorem fi_pos (w p : Nat) : ∀ (l : List Int) (k : Nat), 0 ≤ fi w p l k ↔ ∃ x ∈ l, hit w p x.toNat
  | [], k => by simp [fi]
  | x :: l, k => by
    have := fi_pos w p l (k + 1)
    simp only [fi]
    split
    · rename_i h; simp; exact .inl h
    · rename_i h; rw [this]; simp [h]
theorem f78 {w p : Nat} {x : AV} {F : List Int} (hx : IsL x F) (hp : 1 ≤ p) (hp2 : p ≤ 2147483647) (hw : w < p) (hF : ∀ i : Nat, i < F.length → 1 ≤ getI F i) (hl : F.length ≤ 1000) {m : Nat} (hm : 2000 ≤ m) :
    evF tab it m 78 [x, .fn 72 [.rp [.int .i64 (w : Int)], .rp [.int .i64 (p : Int)]]] [] = some (.int .i64 (fi w p F 0), []) := by
  obtain ⟨m, rfl⟩ : ∃ j, m = j + 1 := ⟨m - 1, by omega⟩
  have fx := hx.free
  have h72 := fun {q : Nat} (hq : 1 ≤ q) H => c72 (w := w) (p := p) (q := q) hp hp2 hw hq (m := m) (by omega) H
  generalize hR : fi w p F 0 = R
  refine f_enter rfl rfl ?_
  generalize evF tab it m = call at *
  repeat' first
 | (apply s_mov; (focus ((conv => lhs; whnf); done)))
 | (apply c_nil)
 | (apply s_len; (focus ((conv => lhs; whnf); done)); (first | assumption | (apply IsLL.at; assumption; omega)))
 | (apply c_seq)
 | (apply c_reg)
 | (apply c_block)
 | (with_reducible apply k_c)
  refine c_loop ?_
  refine loop_gc (σ := Nat) (fun i => [x, .fn 72 [.rp [.int .i64 (w : Int)], .rp [.int .i64 (p : Int)]], .int .i64 (F.length : Int), .int .i64 (i : Int)]) (fun _ => []) (fun i => i ≤ F.length ∧ fi w p (F.drop i) i = R) (fun i => F.length - i) ?_ _ 0 _ _ ⟨by omega, hR⟩ (by omega) (gc_to rfl (by simp [idFreeL, AV.idFree, fx]))
  intro i ⟨hi, hr⟩ K hK
  by_cases hiF : i < F.length
  · have h1 := hF i hiF
    obtain ⟨q, hq⟩ : ∃ q : Nat, getI F i = q := ⟨(getI F i).toNat, by omega⟩
    have e72 := h72 (q := q) (by omega) []
    rw [← hq] at e72
    have hdr : F.drop i = getI F i :: F.drop (i + 1) := by
      rw [getI_nat]
      simp [List.getD, hiF]
    rw [hdr] at hr
    simp only [fi, hq, Int.toNat_natCast] at hr
    have ecv : evE call [] (.callv true true) [.fn 72 [.rp [.int .i64 (w : Int)], .rp [.int .i64 (p : Int)]], .int .i64 (getI F i)] = some (.bool (decide (hit w p q)), []) := by
      simpa [evE] using e72
    by_cases hh : hit w p q
    · simp only [hh, decide_true] at ecv
      rw [if_pos hh] at hr
      repeat' first
 | (apply s_mov; (focus ((conv => lhs; whnf); done)))
 | (apply c_nil)
 | ((first | apply s_lss | apply s_leq | apply s_gtr | apply s_geq | apply s_eql | apply s_neq); exact rfl; all_goals (intro _; try (exfalso; omega)))
 | (apply s_en; (focus (repeat (first | apply opds_nil | (apply opds_cons; (first | (focus ((conv => lhs; whnf); done)) | exact rfl))))); exact ecv)
 | (apply s_idx; (focus ((conv => lhs; whnf); done)); exact rfl; (first | assumption | (apply IsLL.at; assumption; omega)); omega)
 | (apply s_ldI; exact rfl; omega)
 | (apply c_seq)
 | (apply c_reg)
 | (apply c_block)
 | (apply c_skip)
 | (apply c_ret)
 | (apply c_condT; exact rfl)
 | (with_reducible apply k_c)
      exact fin_t (by (conv => lhs; whnf)) (by rfl) (by rw [hr])
    · simp only [hh, decide_false] at ecv
      rw [if_neg hh] at hr
      repeat' first
 | (apply s_mov; (focus ((conv => lhs; whnf); done)))
 | (apply c_nil)
 | ((first | apply s_lss | apply s_leq | apply s_gtr | apply s_geq | apply s_eql | apply s_neq); exact rfl; all_goals (intro _; try (exfalso; omega)))
 | ((first | apply s_add | apply s_sub); exact rfl; omega)
 | (apply s_en; (focus (repeat (first | apply opds_nil | (apply opds_cons; (first | (focus ((conv => lhs; whnf); done)) | exact rfl))))); exact ecv)
 | (apply s_idx; (focus ((conv => lhs; whnf); done)); exact rfl; (first | assumption | (apply IsLL.at; assumption; omega)); omega)
 | (apply s_ldI; exact rfl; omega)
 | (apply c_seq)
 | (apply c_reg)
 | (apply c_block)
 | (apply c_skip)
 | (apply c_condT; exact rfl)
 | (apply c_condF; exact rfl)
 | (with_reducible apply k_c)
      exact hK (i + 1) _ _ ⟨by omega, hr⟩ (by omega) (gc_to rfl (by simp [idFreeL, AV.idFree, fx]))
  · obtain rfl : F.length = i := by omega
    rw [List.drop_length] at hr
    simp only [fi] at hr
    repeat' first
 | (apply s_mov; (focus ((conv => lhs; whnf); done)))
 | (apply c_nil)
 | ((first | apply s_lss | apply s_leq | apply s_gtr | apply s_geq | apply s_eql | apply s_neq); exact rfl; all_goals (intro _; try (exfalso; omega)))
 | (apply c_seq)
 | (apply c_reg)
 | (apply c_exitH)
 | (apply c_ret)
 | (apply c_condF; exact rfl)
 | (apply c_preF; (focus (repeat (first | apply looks_nil | (apply looks_cons; (focus ((conv => lhs; whnf); done)))))); (focus (simp [idFreeL, AV.idFree, *]; done)))
 | (with_reducible apply k_c)
    exact fin_t (by (conv => lhs; whnf)) (by rfl) (by rw [← hr])
theorem c78 {w p : Nat} {x : AV} {F : List Int} (hx : IsL x F) (hp : 1 ≤ p) (hp2 : p ≤ 2147483647) (hw : w < p) (hF : ∀ i : Nat, i < F.length → 1 ≤ getI F i) (hl : F.length ≤ 1000) {m : Nat} (hm : 2000 ≤ m) (H : Heap) :
    callPure (evF tab it m) true 78 [x, .fn 72 [.rp [.int .i64 (w : Int)], .rp [.int .i64 (p : Int)]]] H = some (.int .i64 (fi w p F 0), H) :=
  callPure_free (by simp [idFreeL, AV.idFree, hx.free]) (by simp) (f78 hx hp hp2 hw hF hl hm) rfl
theorem f71 {w p : Nat} {x : AV} {F : List Int} (hx : IsL x F) (hp : 1 ≤ p) (hp2 : p ≤ 2147483647) (hw : w < p) (hF : ∀ i : Nat, i < F.length → 1 ≤ getI F i) (hl : F.length ≤ 1000) {m : Nat} (hm : 2001 ≤ m) :
    evF tab it m 71 [x, .fn 72 [.rp [.int .i64 (w : Int)], .rp [.int .i64 (p : Int)]]] [] = some (.bool (decide (∃ x ∈ F, hit w p x.toNat)), []) := by
  obtain ⟨m, rfl⟩ : ∃ j, m = j + 1 := ⟨m - 1, by omega⟩
  have hc := c78 hx hp hp2 hw hF hl (m := m) (by omega) []
  have hi := fi_pos w p F 0
  refine f_enter rfl rfl ?_
  generalize evF tab it m = call at *
  generalize fi w p F 0 = R at *
  repeat' first
 | (apply s_mov; (focus ((conv => lhs; whnf); done)))
 | (apply c_nil)
 | ((first | apply s_lss | apply s_leq | apply s_gtr | apply s_geq | apply s_eql | apply s_neq); exact rfl; all_goals (intro _; try (exfalso; omega)))
 | (apply s_cn; (focus (repeat (first | apply opds_nil | (apply opds_cons; (first | (focus ((conv => lhs; whnf); done)) | exact rfl))))); exact hc)
 | (apply c_seq)
 | (apply c_reg)
 | (apply c_ret)
 | (with_reducible apply k_c)
  · exact fin_t (by (conv => lhs; whnf)) (by rfl) (leafT (hi.1 (by omega)))
  · exact fin_t (by (conv => lhs; whnf)) (by rfl) (leafF (fun h => by have := hi.2 h; omega))
/-- a witness -/
def Wit (w p : Nat) (F : List Int) : Prop := w ^ (p - 1) % p = 1 ∧ ¬ ∃ x ∈ F, hit w p x.toNat
instance (w p : Nat) (F : List Int) : Decidable (Wit w p F) := by unfold Wit; infer_instance
theorem f60 {w p : Nat} {x : AV} {F : List Int} (hx : IsL x F) (hp : 1 ≤ p) (hp2 : p ≤ 2147483647) (hw : w < p) (hF : ∀ i : Nat, i < F.length → 1 ≤ getI F i) (hl : F.length ≤ 1000) {m : Nat} (hm : 2002 ≤ m) :
    evF tab it m 60 [.int .i64 (w : Int), .int .i64 (p : Int), x] [] = some (.bool (decide (Wit w p F)), []) := by
  obtain ⟨m, rfl⟩ : ∃ j, m = j + 1 := ⟨m - 1, by omega⟩
  have fx := hx.free
  have e71 := f71 hx hp hp2 hw hF hl (m := m) (by omega)
  have e47 := fun H => c47 (A := w) (E := p - 1) hp hp2 hw (by omega) (m := m) (by omega) H
  refine f_enter rfl rfl ?_
  generalize evF tab it m = call at *
  have b1 : evE call [] (.box true) [.int .i64 (w : Int)] = some (.ptr 0 0, [some (.data [.int .i64 (w : Int)])]) := rfl
  have b2 : evE call [some (.data [.int .i64 (w : Int)])] (.box true) [.int .i64 (p : Int)] = some (.ptr 1 0, [some (.data [.int .i64 (w : Int)]), some (.data [.int .i64 (p : Int)])]) := rfl
  have hc : callPure call true 71 [x, .fn 72 [.ptr 0 0, .ptr 1 0]] [some (.data [.int .i64 (w : Int)]), some (.data [.int .i64 (p : Int)])] = some (.bool (decide (∃ x ∈ F, hit w p x.toNat)), [some (.data [.int .i64 (w : Int)]), some (.data [.int .i64 (p : Int)])]) := by
    have e1 : frzL [some (.data [.int .i64 (w : Int)]), some (.data [.int .i64 (p : Int)])] 40 [x, .fn 72 [.ptr 0 0, .ptr 1 0]] = some [x, .fn 72 [.rp [.int .i64 (w : Int)], .rp [.int .i64 (p : Int)]]] := by
      rw [frzL_cons, frzV_free _ _ fx]
      rfl
    simp [callPure, e1, e71, frzV_bool, AV.hasRd]
  repeat' first
 | (apply s_mov; (focus ((conv => lhs; whnf); done)))
 | (apply c_nil)
 | (apply s_notT; exact rfl)
 | (apply s_notF; exact rfl)
 | ((first | apply s_lss | apply s_leq | apply s_gtr | apply s_geq | apply s_eql | apply s_neq); exact rfl; all_goals (intro _; try (exfalso; omega)))
 | (apply s_en; (focus (repeat (first | apply opds_nil | (apply opds_cons; (first | (focus ((conv => lhs; whnf); done)) | exact rfl))))); exact b1)
 | (apply s_en; (focus (repeat (first | apply opds_nil | (apply opds_cons; (first | (focus ((conv => lhs; whnf); done)) | exact rfl))))); exact b2)
 | (apply s_pn; (focus (repeat (first | apply opds_nil | (apply opds_cons; (first | (focus ((conv => lhs; whnf); done)) | exact rfl))))); exact p_ldI1 rfl)
 | (apply s_subN (b := 1); exact rfl; omega; omega)
 | (apply s_cn; (focus (repeat (first | apply opds_nil | (apply opds_cons; (first | (focus ((conv => lhs; whnf); done)) | exact rfl))))); exact e47 _)
 | (apply s_pn; (focus (repeat (first | apply opds_nil | (apply opds_cons; (first | (focus ((conv => lhs; whnf); done)) | exact rfl))))); exact p_mkfn)
 | (apply isE; refine s_cB (by (focus (repeat (first | apply opds_nil | (apply opds_cons; (first | (focus ((conv => lhs; whnf); done)) | exact rfl)))))) (hc) (fun _ => ?_) (fun _ => ?_))
 | (apply c_seq)
 | (apply c_reg)
 | (apply c_skip)
 | (apply c_ret)
 | (apply c_condT; exact rfl)
 | (apply c_condF; exact rfl)
 | (with_reducible apply k_c)
  · exact fin_t (by (conv => lhs; whnf)) (by rfl) (leafF (fun h => by exact absurd (by assumption) h.2))
  · exact fin_t (by (conv => lhs; whnf)) (by rfl) (leafT ⟨by omega, by assumption⟩)
  · exact fin_t (by (conv => lhs; whnf)) (by rfl) (leafF (fun h => by have := h.1; omega))
theorem c60 {w p : Nat} {x : AV} {F : List Int} (hx : IsL x F) (hp : 1 ≤ p) (hp2 : p ≤ 2147483647) (hw : w < p) (hF : ∀ i : Nat, i < F.length → 1 ≤ getI F i) (hl : F.length ≤ 1000) {m : Nat} (hm : 2002 ≤ m) (H : Heap) :
    callPure (evF tab it m) true 60 [.int .i64 (w : Int), .int .i64 (p : Int), x] H = some (.bool (decide (Wit w p F)), H) :=
  callPure_free (by simp [idFreeL, AV.idFree, hx.free]) (by simp) (f60 hx hp hp2 hw hF hl hm) rfl
/-! ### the factors of p - 1 -/
def ps (l : List (Nat × Nat)) : List Int := l.map fun x => ((x.1 : Nat) : Int)
theorem ps_len (l : List (Nat × Nat)) : (ps l).length = l.length := by simp [ps]
theorem ps_app (l r : List (Nat × Nat)) : ps (l ++ r) = ps l ++ ps r := by simp [ps]
theorem f59 {q t : Nat} {l : List (Nat × Nat)} (hl : l.length < 1000) {m : Nat} (hm : 1 ≤ m) : evF tab it m 59 [.int .i64 (q : Int), .int .i64 (t : Int), .ptr 0 0] (cellH 1 l.length (iL (ps l))) =
    some (.tup [], if l.length = 0 then cellH 1 1 (iL (ps (l ++ [(q, t)]))) else [some (.box [.sl 2 1 0 (l.length + 1)]), none, some (.data (iL (ps (l ++ [(q, t)]))))]) := by
  obtain ⟨m, rfl⟩ : ∃ j, m = j + 1 := ⟨m - 1, by omega⟩
  have hlen : (iL (ps l)).length = l.length * 1 := by rw [iL_len, ps_len]; omega
  have hp : iL (ps (l ++ [(q, t)])) = iL (ps l) ++ [.int .i64 (q : Int)] := by rw [ps_app]; simp [iL, ps]
  cases hn : l.length with
  | zero =>
    obtain rfl : l = [] := List.length_eq_zero_iff.1 hn
    rw [if_pos rfl]
    refine f_enterH rfl rfl ?_
    rw [hp]
    simp only [cellH]
    generalize evF tab it m = call at *
    repeat' first
 | (apply s_mov; (focus ((conv => lhs; whnf); done)))
 | (apply c_nil)
 | (apply s_en; (focus (repeat (first | apply opds_nil | (apply opds_cons; (first | (focus ((conv => lhs; whnf); done)) | exact rfl))))); exact e_bld1 rfl rfl rfl rfl)
 | (apply s_en; (focus (repeat (first | apply opds_nil | (apply opds_cons; (first | (focus ((conv => lhs; whnf); done)) | exact rfl))))); exact e_appz_nil (by omega) (by decide))
 | (apply s_st; (focus (repeat (first | apply opds_nil | (apply opds_cons; (first | (focus ((conv => lhs; whnf); done)) | exact rfl))))); exact e_stBox rfl rfl rfl rfl)
 | (apply s_pd; exact rfl)
 | (apply c_reg)
    simp [finish, ress, tupOf, go_sem, ps, iL]
  | succ n =>
    rw [if_neg (by omega)]
    rw [hn] at hlen
    refine f_enterH rfl rfl ?_
    generalize hC : iL (ps l) = C at *
    generalize iL (ps (l ++ [(q, t)])) = D at *
    simp only [cellH]
    generalize evF tab it m = call at *
    repeat' first
 | (apply s_mov; (focus ((conv => lhs; whnf); done)))
 | (apply c_nil)
 | (apply s_en; (focus (repeat (first | apply opds_nil | (apply opds_cons; (first | (focus ((conv => lhs; whnf); done)) | exact rfl))))); exact e_bld1 rfl rfl rfl rfl)
 | (apply s_en; (focus (repeat (first | apply opds_nil | (apply opds_cons; (first | (focus ((conv => lhs; whnf); done)) | exact rfl))))); exact e_appz_sl rfl hlen (by omega) (by unfold most; omega))
 | (apply s_st; (focus (repeat (first | apply opds_nil | (apply opds_cons; (first | (focus ((conv => lhs; whnf); done)) | exact rfl))))); exact e_stBox rfl rfl rfl rfl)
 | (apply s_pd; exact rfl)
 | (apply c_reg)
    rw [hp]
    simp [finish, ress, tupOf, go_sem]
theorem clo59 {L : List (Nat × Nat)} (hL : L.length ≤ 30) {m : Nat} (hm : 1 ≤ m) : Clo m 59 [.ptr 0 0] 1 (fun l => cellH 1 l.length (iL (ps l))) L where
  hk := rfl
  g2 l a := gcell2 a
  g3 l a b := gcell3 a b
  g4 l a b c := gcell4 a b c
  fin l := gcellf
  call l q t r h := by
    have hl : l.length < 1000 := by rw [h] at hL; simp at hL; omega
    have := clo_cell (f59 (q := q) (t := t) hl hm)
    simpa using this
theorem ps_pos {L : List (Nat × Nat)} (h : FacR L) : ∀ i : Nat, i < (ps L).length → 1 ≤ getI (ps L) i := fun i hi => by
  rw [ps_len] at hi
  have := (h.all _ (gp_mem hi)).1.1
  rw [getI_nat]
  simp [List.getD, ps, hi]
  rw [gp_lt hi] at this
  omega
theorem wit_iff {w p : Nat} {L : List (Nat × Nat)} : Wit w p (ps L) ↔ w ^ (p - 1) % p = 1 ∧ ∀ x ∈ L, ¬ w ^ ((p - 1) / x.1) % p = 1 := by
  unfold Wit hit ps
  simp
  intro _
  exact ⟨fun h a b hab => h _ a b hab rfl, fun h x a b hab e => by subst e; simpa using h a b hab⟩
end Go.AM.Pr
