/- A part of the proof: U8. -/
import Derived.Test.YtmegimhfoedcdaaU7
set_option linter.unusedSectionVars false
set_option linter.unusedVariables false
set_option linter.unusedSimpArgs false
namespace Go.AM.Ch
attribute [local go_sem] gc subHeap reach_skip ren_free reach_new reach_newp reach_end rangeL roots boxCells nodupB posOf renL AV.ren pickO renH renO looks look bindEnv envOf reach_int reach_bool reach_nilS reach_rd putRow cells_sl cells_int cells_bool cells_nilS cells_rd cells_agg reach_agg reach_tup idFreeL idf_sl idf_ptr idf_int idf_bool idf_nilS idf_rd reach_fn reach_mp cells_fn cells_ptr cells_mp idf_mp idf_fn idf_agg idf_tup
set_option maxHeartbeats 4000000
/-- the numbers after a script -/
def apl (b : List (List Int)) (s t : List Int) : List Int := (List.range b.length).map fun i => mid b s t b.length 0 i
theorem e_cpyO {call : CallF} {H : Heap} {n : Nat} {y : AV} {s : List Int} (hy : IsL y s) (hs : s.length = n) (hH : H.data? 0 = some (iL (List.replicate n 0))) : evE call H (.cpy 1) [.sl 0 1 0 n, y] = some (.int .i64 (n : Int), H.set 0 (some (.data (iL s)))) := by
  subst hs
  have h1 := data?_iff.1 hH
  have hl : (iL (List.replicate s.length 0)).length = s.length := by rw [iL_len]; simp
  have hl2 := iL_len s
  cases hy with
  | nil => simp [evE, szOk, lenOf, rowOf, h1, iL, putRow]
  | rd l =>
    simp [evE, szOk, lenOf, rowOf, h1, hl, hl2, putRow, List.take_of_length_le, List.drop_of_length_le]
theorem p_lenI {H : Heap} {x : AV} {l : List Int} (h : IsL x l) : evP H .len [x] = some (.int .i64 ((l.length : Nat) : Int)) := by cases h <;> rfl
theorem f55 {x y z : AV} {b : List (List Int)} {s t : List Int} (hx : IsLL x b) (hy : IsL y s) (hz : IsL z t) (hb : Bd b) (hsn : s.length = b.length) (htn : t.length = b.length)
    (ht : ∀ v : Nat, v < b.length → -4503599627370496 ≤ getI t (v : Int) ∧ getI t (v : Int) ≤ 4503599627370496) (hs : ∀ v : Nat, v < b.length → -288230376151711744 ≤ getI s (v : Int) ∧ getI s (v : Int) ≤ 288230376151711744)
    {m : Nat} (hm : 100 ≤ m) : evF tab it m 55 [x, y, z] [] = some (.sl 0 1 0 b.length, [some (.data (iL (apl b s t)))]) := by
  obtain ⟨m, rfl⟩ : ∃ j, m = j + 1 := ⟨m - 1, by omega⟩
  have fx := hx.free; have fy := hy.free; have fz := hz.free
  have hl12 := hb.len
  have mk := fun call H => @e_mkI call H s.length (by unfold most; omega)
  have cp := fun call => e_cpyO (call := call) (H := [some (.data (iL (List.replicate s.length 0)))]) hy rfl rfl
  rw [hsn] at mk cp
  refine f_enter rfl rfl ?_
  generalize evF tab it m = call at *
  have gcO : ∀ (v : Nat) (C : List AV), gc 0 [x, .sl 0 1 0 b.length, z, .int .i64 ((b.length : Nat) : Int), .int .i64 (v : Int)] [some (.data C)] = some ([x, .sl 0 1 0 b.length, z, .int .i64 ((b.length : Nat) : Int), .int .i64 (v : Int)], [some (.data C)]) := fun v C => by simp [go_sem, fx, fz]
  have gcM : ∀ (v : Nat) (C : List AV), gc 0 [x, .sl 0 1 0 b.length, z, .int .i64 ((b.length : Nat) : Int), .int .i64 (v : Int)] [some (.data C)] = some ([x, .sl 0 1 0 b.length, z, .int .i64 ((b.length : Nat) : Int), .int .i64 (v : Int)], [some (.data C)]) := gcO
  have lz : ∀ H, evP H .len [z] = some (.int .i64 ((b.length : Nat) : Int)) := fun H => by rw [← htn]; exact p_lenI hz
  have ly : ∀ H, evP H .len [y] = some (.int .i64 ((b.length : Nat) : Int)) := fun H => by rw [← hsn]; exact p_lenI hy
  repeat' first
 | (apply s_mov; (focus ((conv => lhs; whnf); done)))
 | (apply c_nil)
 | (apply s_pn; (focus (repeat (first | apply opds_nil | (apply opds_cons; (first | (focus ((conv => lhs; whnf); done)) | exact rfl))))); exact ly _)
 | (apply s_pn; (focus (repeat (first | apply opds_nil | (apply opds_cons; (first | (focus ((conv => lhs; whnf); done)) | exact rfl))))); exact lz _)
 | (apply s_en; (focus (repeat (first | apply opds_nil | (apply opds_cons; (first | (focus ((conv => lhs; whnf); done)) | exact rfl))))); exact mk _ _)
 | (apply s_en; (focus (repeat (first | apply opds_nil | (apply opds_cons; (first | (focus ((conv => lhs; whnf); done)) | exact rfl))))); exact cp _)
 | (apply c_seq)
 | (apply c_reg)
 | (apply c_block)
 | (with_reducible apply k_c)
  refine c_loop ?_
  refine loop_gc (σ := Nat × List Int) (fun q => [x, .sl 0 1 0 b.length, z, .int .i64 ((b.length : Nat) : Int), .int .i64 (q.1 : Int)]) (fun q => [some (.data (iL q.2))]) (fun q => q.1 ≤ b.length ∧ q.2.length = b.length ∧ ∀ i : Nat, i < b.length → getI q.2 (i : Int) = mid b s t q.1 0 i) (fun q => b.length - q.1) ?_ _ (0, s) _ _ ⟨by omega, hsn, fun i _ => (mid_zero b s t i).symm⟩ (by show b.length - 0 < _; omega) (gcO 0 _)
  intro ⟨v, out⟩ ⟨hv, hol, hout⟩ K hK
  dsimp only at hv hol hout hK ⊢
  by_cases hvn : v < b.length
  · have hrow := hx.at (i := (v : Int)) ⟨by omega, by omega⟩
    have hrl := hb.row v hvn
    have lr : ∀ H, evP H .len [llAt x (v : Int)] = some (.int .i64 ((b.length : Nat) : Int)) := fun H => by rw [← hrl]; exact p_lenI hrow
    have fr := hrow.free
    repeat' first
 | (apply s_mov; (focus ((conv => lhs; whnf); done)))
 | (apply c_nil)
 | ((first | apply s_lss | apply s_leq | apply s_gtr | apply s_geq | apply s_eql | apply s_neq); exact rfl; all_goals (intro _; try (exfalso; omega)))
 | (apply s_pn; (focus (repeat (first | apply opds_nil | (apply opds_cons; (first | (focus ((conv => lhs; whnf); done)) | exact rfl))))); exact lr _)
 | (apply s_idx; (focus ((conv => lhs; whnf); done)); exact rfl; (first | assumption | (apply IsLL.at; assumption; omega)); omega)
 | (apply s_idxLL; (focus ((conv => lhs; whnf); done)); exact rfl; assumption; omega)
 | (apply s_ldI; exact rfl; omega)
 | (apply s_ldLL; exact rfl; assumption; omega)
 | (apply c_seq)
 | (apply c_reg)
 | (apply c_block)
 | (apply c_skip)
 | (apply c_condT; exact rfl)
 | (with_reducible apply k_c)
    have gcI : ∀ (k : Nat) (C : List AV), gc 0 [x, .sl 0 1 0 b.length, .int .i64 (v : Int), .int .i64 (getI t (v : Int)), z, .int .i64 ((b.length : Nat) : Int), .int .i64 (v : Int), llAt x (v : Int), .int .i64 ((b.length : Nat) : Int), .int .i64 (k : Int)] [some (.data C)] = some ([x, .sl 0 1 0 b.length, .int .i64 (v : Int), .int .i64 (getI t (v : Int)), z, .int .i64 ((b.length : Nat) : Int), .int .i64 (v : Int), llAt x (v : Int), .int .i64 ((b.length : Nat) : Int), .int .i64 (k : Int)], [some (.data C)]) := fun k C => by simp [go_sem, fx, fz, fr]
    refine c_loop ?_
    refine loop_gc (σ := Nat × List Int) (fun q => [x, .sl 0 1 0 b.length, .int .i64 (v : Int), .int .i64 (getI t (v : Int)), z, .int .i64 ((b.length : Nat) : Int), .int .i64 (v : Int), llAt x (v : Int), .int .i64 ((b.length : Nat) : Int), .int .i64 (q.1 : Int)]) (fun q => [some (.data (iL q.2))]) (fun q => q.1 ≤ b.length ∧ q.2.length = b.length ∧ ∀ i : Nat, i < b.length → getI q.2 (i : Int) = mid b s t v q.1 i) (fun q => b.length - q.1) ?_ _ (0, out) _ _ ⟨by omega, hol, hout⟩ (by show b.length - 0 < _; omega) (gcI 0 _)
    intro ⟨k, o⟩ ⟨hk, hol2, hout2⟩ K2 hK2
    dsimp only at hk hol2 hout2 hK2 ⊢
    by_cases hkn : k < b.length
    · have hwl := wt_le hb ht hvn hkn
      have hbv := hout2 v hvn
      have hm1 := mid_le hb ht hs hvn hk hvn
      have hm2 := mid_le hb ht hs hvn hk hkn
      have hbk := hout2 k hkn
      have hl1 := fun H h => p_ldO (H := H) (id := 0) (l := o) (i := v) h (by omega)
      have hs1 := fun (vv : Int) call H h => e_stO (call := call) (H := H) (id := 0) (l := o) (i := v) (v := vv) h (by omega)
      have hl2 := fun (vv : Int) H h => p_ldO (H := H) (id := 0) (l := o.set v vv) (i := k) h (by simp; omega)
      have hs2 := fun (vv v2 : Int) call H h => e_stO (call := call) (H := H) (id := 0) (l := o.set v vv) (i := k) (v := v2) h (by simp; omega)
      have hg2 := fun (vv : Int) => getI_set (l := o) (i := v) (j := k) (v := vv) (by omega)
      have hstep : ∀ i : Nat, i < b.length → getI ((o.set v (getI o (v : Int) - wt b t v k)).set k (getI (o.set v (getI o (v : Int) - wt b t v k)) (k : Int) + wt b t v k)) (i : Int) = mid b s t v (k + 1) i := fun i hi => by
        rw [getI_set (by simp; omega), mid_step, hg2]
        by_cases h1 : i = k
        · subst h1
          rw [if_pos rfl, if_pos rfl, hbk]
          by_cases h2 : i = v
          · subst h2; rw [if_pos rfl, if_pos rfl]; have := hbv; omega
          · rw [if_neg h2, if_neg h2]; omega
        · rw [if_neg h1, if_neg h1, getI_set (by omega)]
          by_cases h2 : i = v
          · subst h2; rw [if_pos rfl, if_pos rfl, hbv]; omega
          · rw [if_neg h2, if_neg h2, hout2 i hi]; omega
      have hgk : -2305843009213693952 ≤ getI (o.set v (getI o (v : Int) - wt b t v k)) (k : Int) ∧ getI (o.set v (getI o (v : Int) - wt b t v k)) (k : Int) ≤ 2305843009213693952 := by
        rw [hg2]; split <;> omega
      have hwe : getI t (v : Int) * getI (getLL b (v : Int)) (k : Int) = wt b t v k := rfl
      have hmul : ∀ H, evP H (.bin .mul) [.int .i64 (getI t (v : Int)), .int .i64 (getI (getLL b (v : Int)) (k : Int))] = some (.int .i64 (wt b t v k)) := fun H => by
        rw [← hwe] at hwl ⊢
        simp only [evP, binV, isShift, binInt]
        rw [show IntKind.i64.wrap (getI t (v : Int) * getI (getLL b (v : Int)) (k : Int)) = getI t (v : Int) * getI (getLL b (v : Int)) (k : Int) from wrapI (by omega)]
        rfl
      generalize wt b t v k = w at *
      repeat' first
 | (apply s_mov; (focus ((conv => lhs; whnf); done)))
 | (apply c_nil)
 | ((first | apply s_lss | apply s_leq | apply s_gtr | apply s_geq | apply s_eql | apply s_neq); exact rfl; all_goals (intro _; try (exfalso; omega)))
 | ((first | apply s_add | apply s_sub); exact rfl; omega)
 | (apply s_pn; (focus (repeat (first | apply opds_nil | (apply opds_cons; (first | (focus ((conv => lhs; whnf); done)) | exact rfl))))); exact p_ixO hvn)
 | (apply s_pn; (focus (repeat (first | apply opds_nil | (apply opds_cons; (first | (focus ((conv => lhs; whnf); done)) | exact rfl))))); exact p_ixO hkn)
 | (apply s_pn; (focus (repeat (first | apply opds_nil | (apply opds_cons; (first | (focus ((conv => lhs; whnf); done)) | exact rfl))))); exact hmul _)
 | (apply s_pn; (focus (repeat (first | apply opds_nil | (apply opds_cons; (first | (focus ((conv => lhs; whnf); done)) | exact rfl))))); exact hl1 _ rfl)
 | (apply s_pn; (focus (repeat (first | apply opds_nil | (apply opds_cons; (first | (focus ((conv => lhs; whnf); done)) | exact rfl))))); exact hl2 _ _ rfl)
 | (apply s_st; (focus (repeat (first | apply opds_nil | (apply opds_cons; (first | (focus ((conv => lhs; whnf); done)) | exact rfl))))); exact hs1 _ _ _ rfl)
 | (apply s_st; (focus (repeat (first | apply opds_nil | (apply opds_cons; (first | (focus ((conv => lhs; whnf); done)) | exact rfl))))); exact hs2 _ _ _ _ rfl)
 | (apply s_idx; (focus ((conv => lhs; whnf); done)); exact rfl; (first | assumption | (apply IsLL.at; assumption; omega)); omega)
 | (apply s_ldI; exact rfl; omega)
 | (apply c_seq)
 | (apply c_reg)
 | (apply c_block)
 | (apply c_skip)
 | (apply c_condT; exact rfl)
 | (with_reducible apply k_c)
      exact hK2 (k + 1, _) _ _ ⟨by omega, by simp [hol2], hstep⟩ (by show b.length - (k + 1) < _; omega) (gcI (k + 1) _)
    · obtain rfl : k = b.length := by omega
      repeat' first
 | (apply c_nil)
 | ((first | apply s_lss | apply s_leq | apply s_gtr | apply s_geq | apply s_eql | apply s_neq); exact rfl; all_goals (intro _; try (exfalso; omega)))
 | (apply c_seq)
 | (apply c_reg)
 | (apply c_exitH)
 | (apply c_condF; exact rfl)
 | (with_reducible apply k_c)
      apply c_pre
      · exact gcO v _
      repeat' first
 | (apply s_mov; (focus ((conv => lhs; whnf); done)))
 | (apply c_nil)
 | ((first | apply s_add | apply s_sub); exact rfl; omega)
 | (apply c_reg)
      exact hK (v + 1, o) _ _ ⟨by omega, hol2, fun i hi => (hout2 i hi).trans (mid_next b s t v i hi)⟩ (by show b.length - (v + 1) < _; omega) (gcO (v + 1) _)
  · obtain rfl : v = b.length := by omega
    have he : out = apl b s t := by
      refine List.ext_getElem (by simp [apl, hol]) fun j h1 h2 => ?_
      have := hout j (by omega)
      rw [getI_nat] at this
      simpa [apl, List.getD, h1] using this
    subst he
    repeat' first
 | (apply c_nil)
 | ((first | apply s_lss | apply s_leq | apply s_gtr | apply s_geq | apply s_eql | apply s_neq); exact rfl; all_goals (intro _; try (exfalso; omega)))
 | (apply c_seq)
 | (apply c_reg)
 | (apply c_exitH)
 | (apply c_condF; exact rfl)
 | (with_reducible apply k_c)
    apply c_pre (vs := [.sl 0 1 0 b.length]) (H' := [some (.data (iL (apl b s t)))])
    · simp [go_sem]
    repeat' first
 | (apply s_mov; (focus ((conv => lhs; whnf); done)))
 | (apply c_nil)
 | (apply c_seq)
 | (apply c_reg)
 | (apply c_ret)
 | (with_reducible apply k_c)
    simp [finish, ress, resOf, look, tupOf, go_sem]
end Go.AM.Ch
