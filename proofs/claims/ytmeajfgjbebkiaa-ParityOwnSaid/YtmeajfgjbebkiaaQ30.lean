/- A part of the proof: Q30. -/
import Derived.Test.YtmeajfgjbebkiaaQ29
set_option linter.unusedSectionVars false
set_option linter.unusedVariables false
set_option linter.unusedSimpArgs false
namespace Go.AM.Pa
attribute [local go_sem] gc subHeap reach_skip ren_free reach_new reach_newp reach_end rangeL roots boxCells nodupB posOf renL AV.ren pickO renH renO looks look bindEnv envOf reach_int reach_bool reach_nilS reach_rd putRow cells_sl cells_int cells_bool cells_nilS cells_rd cells_agg reach_agg reach_tup idFreeL idf_sl idf_ptr idf_int idf_bool idf_nilS idf_rd
theorem getLL_ge {l : List (List Int)} {i : Nat} (h : l.length ≤ i) : (getLL l i).length = 0 := by
  rw [getLL_nat]; simp [List.getD, List.getElem?_eq_none h]
theorem tCnd_T {g : Gm} {n : Int} {i j : Nat} (h : tCnd g n i j = true) (hh : false = tHit g n i j) : (g.next.length ≤ i ∧ j = 0) ∨ (i < g.next.length ∧ (getLL g.next i).length = 0 ∧ j = i) := by
  unfold tCnd at h; rw [← hh] at h
  rcases Bool.or_eq_true_iff.1 h with h | h
  · rcases Bool.or_eq_true_iff.1 h with h | h
    · cases h
    · rw [Bool.and_eq_true, decide_eq_true_eq, decide_eq_true_eq] at h; exact .inl h
  · rw [Bool.and_eq_true, Bool.and_eq_true, decide_eq_true_eq, decide_eq_true_eq, decide_eq_true_eq] at h; exact .inr ⟨h.1.1, h.1.2, h.2⟩
theorem tCnd_F {g : Gm} {n : Int} {i j : Nat} (h : tCnd g n i j = false) : tHit g n i j = false ∧ ¬ (g.next.length ≤ i ∧ j = 0) ∧ ¬ (i < g.next.length ∧ (getLL g.next i).length = 0 ∧ j = i) := by
  unfold tCnd at h
  refine ⟨Bool.eq_false_iff.2 fun x => ?_, fun x => ?_, fun x => ?_⟩
  · rw [x] at h; simp at h
  · rw [decide_eq_true x.1, decide_eq_true x.2] at h; simp at h
  · rw [decide_eq_true x.1, decide_eq_true x.2.1, decide_eq_true x.2.2] at h; simp at h
def hpT (b0 b1 : Option HO) (g : Gm) (n : Nat) (hi : Int) (i : Nat) : Heap := if i = 0 then [b0, b1, some (.box [.nilS, .nilS, .nilS])] else [b0, b1, some (.box [.sl 3 1 0 i, .sl 4 1 0 i, .sl 5 1 0 i]), some (.data (tO g i)), some (.data (tR g hi i)), some (.data (tN g n i))]
theorem hpT_z {b0 b1 : Option HO} {g : Gm} {n : Nat} {hi : Int} {i : Nat} (h : i = 0) : hpT b0 b1 g n hi i = [b0, b1, some (.box [.nilS, .nilS, .nilS])] := if_pos h
theorem hpT_s {b0 b1 : Option HO} {g : Gm} {n : Nat} {hi : Int} {i : Nat} (h : 0 < i) : hpT b0 b1 g n hi i = [b0, b1, some (.box [.sl 3 1 0 i, .sl 4 1 0 i, .sl 5 1 0 i]), some (.data (tO g i)), some (.data (tR g hi i)), some (.data (tN g n i))] := if_neg (by omega)
theorem drop_getI2 {l : List Int} {i : Nat} (h : i < l.length) : l.drop i = getI l i :: l.drop (i + 1) := by
  rw [List.drop_eq_getElem_cons h]
  simp [getI_nat, h]
set_option maxHeartbeats 8000000
theorem f28 {x : AV} {a : Gm} {hi : Int} (hx : IsG x a) (hhi : 1 ≤ hi ∧ hi ≤ 1000) {n : Nat} (hn1 : 1 + mdF ((g30 a).owner.length - 1) 16 = (n : Int)) {m : Nat} (hm : 110 ≤ m) :
    evF tab it m 28 [x, .int .i64 16, .int .i64 hi] [] = some (.agg [.sl 0 1 0 n, .sl 1 1 0 n, .sl 2 1 0 n], [some (.data (tO (g30 a) n)), some (.data (tR (g30 a) hi n)), some (.data (tN (g30 a) n n))]) := by
  obtain ⟨m, rfl⟩ : ∃ j, m = j + 1 := ⟨m - 1, by omega⟩
  obtain ⟨xo, xr, xn, rfl, ho, hr, hn⟩ := id hx
  have fo := ho.free; have fr := hr.free; have fn := hn.free
  have ob : ∀ call, evE call [] (.box false) [.agg [xo, xr, xn]] = some (.ptr 0 0, [some (.box [xo, xr, xn])]) := fun call => by simp [evE, AV.cells, oneL, ho.one, hr.one, hn.one, mkHO]
  have h16 := fun H => c16 hx (m := m) (by omega) H
  have hgl := g30_len a
  have hgr := g30_row (a := a)
  have hzo := isL_fz (g30 a).owner
  have hzr := isL_fz (g30 a).rank
  have hzn := isLL_fz (g30 a).next
  unfold fzG at h16
  generalize g30 a = g at *
  generalize fzL g.owner = zo at *
  generalize fzL g.rank = zr at *
  generalize fzLL g.next = zn at *
  have go := hzo.free; have gr := hzr.free; have gn := hzn.free
  have hrow := getLL_lt hgr (by omega)
  have hmr := mdF_range (x := g.owner.length - 1) (n := 16) (by omega)
  have hn16 : 1 ≤ n ∧ n ≤ 16 := by omega
  have stG : ∀ call H id, H[id]? = some (some (.box [.nilS, .nilS, .nilS])) → evE call H (.st 3) [.ptr id 0, .agg [zo, zr, zn]] = some (.undef, H.set id (some (.box [zo, zr, zn]))) := fun call H id h => e_st3 hzo.one hzr.one hzn.one h
  refine f_enter rfl rfl ?_
  repeat' first
 | (apply s_mov; (focus ((conv => lhs; whnf); done)))
 | (apply c_nil)
 | ((first | apply s_add | apply s_sub); exact rfl; omega)
 | (apply s_en; (focus (repeat (first | apply opds_nil | (apply opds_cons; (first | (focus ((conv => lhs; whnf); done)) | exact rfl))))); exact ob _)
 | (apply s_cn; (focus (repeat (first | apply opds_nil | (apply opds_cons; (first | (focus ((conv => lhs; whnf); done)) | exact rfl))))); exact h16 _)
 | (apply s_st; (focus (repeat (first | apply opds_nil | (apply opds_cons; (first | (focus ((conv => lhs; whnf); done)) | exact rfl))))); exact stG _ _ _ rfl)
 | (apply s_cn; (focus (repeat (first | apply opds_nil | (apply opds_cons; (first | (focus ((conv => lhs; whnf); done)) | exact rfl))))); exact c31 (by omega) (by omega) _)
 | (apply isE; apply s_ed; (focus ((conv => lhs; whnf); done)))
 | (apply s_len; (focus ((conv => lhs; whnf); done)); (first | assumption | (apply IsLL.at; assumption; omega)))
 | (apply s_pd; (focus ((conv => lhs; whnf); done)))
 | (apply c_seq)
 | (apply c_reg)
 | (apply c_block)
 | (with_reducible apply k_c)
  generalize hB0 : (some (HO.box [AV.nilS, AV.nilS, AV.nilS])) = B0
  generalize hB1 : some (HO.box [zo, zr, zn]) = B1
  subst hB0
  subst hB1
  generalize hRES : (some (AV.agg [AV.sl 0 1 0 n, AV.sl 1 1 0 n, AV.sl 2 1 0 n], [some (HO.data (tO g n)), some (HO.data (tR g hi n)), some (HO.data (tN g n n))]) : R) = RES
  refine c_loop ?_
  refine loop_gc (σ := Nat) (fun i => [.int .i64 hi, .ptr 0 0, .ptr 1 0, .int .i64 n, .ptr 2 0, .int .i64 i]) (fun i => hpT (some (.box [.nilS, .nilS, .nilS])) (some (.box [zo, zr, zn])) g n hi i) (fun i => i ≤ n) (fun i => n - i) ?_ _ 0 _ _ (by omega) (by omega) (by simp [go_sem, fo, fr, fn, go, gr, gn, hpT_z rfl, hn1]; done)
  intro i hii K hK
  have tN0 : tN g n 0 = [] := rfl
  have frzN : ∀ call H, evE call H .frz [.nilS] = some (.nilS, H) := fun call H => rfl
  rcases Nat.eq_zero_or_pos i with hi0 | hi0
  · have eO := tO_succ g i
    have eR := tR_succ g hi i
    have e00 : tO g i = [] := by rw [hi0]; rfl
    have e01 : tR g hi i = [] := by rw [hi0]; rfl
    have e02 : tN g n i = [] := by rw [hi0]; rfl
    rw [e00] at eO
    rw [e01] at eR
    simp only [List.nil_append] at eO eR
    have hnl := tN_len g n i
    rw [hpT_z hi0]
    repeat' first
 | (apply s_mov; (focus ((conv => lhs; whnf); done)))
 | (apply c_nil)
 | ((first | apply s_lss | apply s_leq | apply s_gtr | apply s_geq | apply s_eql | apply s_neq); exact rfl; all_goals (intro _; try (exfalso; omega)))
 | (apply s_cn; (focus (repeat (first | apply opds_nil | (apply opds_cons; (first | (focus ((conv => lhs; whnf); done)) | exact rfl))))); exact c54 hzo (by omega) _)
 | (apply s_cn; (focus (repeat (first | apply opds_nil | (apply opds_cons; (first | (focus ((conv => lhs; whnf); done)) | exact rfl))))); exact c54 hzr (by omega) _)
 | (apply s_cn; (focus (repeat (first | apply opds_nil | (apply opds_cons; (first | (focus ((conv => lhs; whnf); done)) | exact rfl))))); exact c31 (by omega) (by omega) _)
 | (apply s_en; (focus (repeat (first | apply opds_nil | (apply opds_cons; (first | (focus ((conv => lhs; whnf); done)) | exact rfl))))); exact e_bld1 rfl rfl rfl rfl)
 | (apply s_en; (focus (repeat (first | apply opds_nil | (apply opds_cons; (first | (focus ((conv => lhs; whnf); done)) | exact rfl))))); exact e_app_nil rfl (by omega) (by decide))
 | (apply isE; apply s_st; (focus (repeat (first | apply opds_nil | (apply opds_cons; (first | (focus ((conv => lhs; whnf); done)) | exact rfl))))); (focus ((conv => lhs; whnf); done)))
 | (apply s_pd; (focus ((conv => lhs; whnf); done)))
 | (apply c_seq)
 | (apply c_reg)
 | (apply c_block)
 | (apply c_skip)
 | (apply c_condT; exact rfl)
 | (with_reducible apply k_c)
    · skip
      refine c_loop ?_
      have hi16 : i < (n : Nat) := by omega
      refine loop_gc (σ := Nat) (fun j => [.int .i64 hi, .ptr 0 0, .ptr 1 0, .int .i64 n, .ptr 2 0, .int .i64 (i : Int), rwV 5 (tRow g n i j), .int .i64 j]) (fun j => rwH [some (.box [.nilS, .nilS, .nilS]), some (.box [zo, zr, zn]), some (.box [.sl 3 1 0 1, .sl 4 1 0 1, .nilS]), some (.data (tO g (i + 1))), some (.data (tR g hi (i + 1)))] (tRow g n i j)) (fun j => j ≤ n) (fun j => n - j) ?_ _ 0 _ _ (by omega) (by omega) ?_
      · intro j hj K9 hK9
        have hsuc := tRow_succ g n i j
        have hrl := tRow_len g n i j
        have hrw := hrow (i : Int)
        have hrl0 : g.next.length ≤ i → (getLL g.next (i : Int)).length = 0 := fun h => getLL_ge h
        generalize hC : tRow g n i j = C at *
        rcases C with _ | ⟨c, cs⟩
        · simp only [rwV, rwH]
          have hcs : True := trivial
          try simp only [List.cons_append, List.nil_append]
          have contF : j < n → tCnd g n i j = false → ∀ (X : Nat → KT) (Rt : KT) (env : Env), looks env [2, 6, 7, 8, 9, 10, 11, 12] = [.int .i64 hi, .ptr 0 0, .ptr 1 0, .int .i64 n, .ptr 2 0, .int .i64 (i : Int), AV.nilS, .int .i64 j] → RC (evF tab it m) it m sq28_6 0 K9 X Rt env [some (.box [.nilS, .nilS, .nilS]), some (.box [zo, zr, zn]), some (.box [.sl 3 1 0 1, .sl 4 1 0 1, .nilS]), some (.data (tO g (i + 1))), some (.data (tR g hi (i + 1)))] RES := by
            intro hjn hcn X Rt env hlk
            refine c_pre (vs := [.int .i64 hi, .ptr 0 0, .ptr 1 0, .int .i64 n, .ptr 2 0, .int .i64 (i : Int), AV.nilS, .int .i64 j]) (H' := [some (.box [.nilS, .nilS, .nilS]), some (.box [zo, zr, zn]), some (.box [.sl 3 1 0 1, .sl 4 1 0 1, .nilS]), some (.data (tO g (i + 1))), some (.data (tR g hi (i + 1)))]) (by rw [hlk]; exact (by simp [go_sem, fo, fr, fn, go, gr, gn]; done)) ?_
            repeat' first
 | (apply s_mov; (focus ((conv => lhs; whnf); done)))
 | (apply c_nil)
 | ((first | apply s_add | apply s_sub); exact rfl; omega)
 | (apply c_reg)
            refine hK9 (j + 1) _ _ (by omega) (by omega) ?_
            rw [hsuc, hcn]
            simp only [Bool.false_eq_true, if_false, rwV, rwH, List.cons_append, List.nil_append]
            exact (by simp [go_sem, fo, fr, fn, go, gr, gn]; done)
          repeat' first
 | (apply s_mov; (focus ((conv => lhs; whnf); done)))
 | (apply c_nil)
 | ((first | apply s_lss | apply s_leq | apply s_gtr | apply s_geq | apply s_eql | apply s_neq); exact rfl; all_goals (intro _; try (exfalso; omega)))
 | (apply c_seq)
 | (apply c_reg)
 | (apply c_block)
 | (apply c_exitH)
 | (apply c_skip)
 | (apply c_condT; exact rfl)
 | (apply c_condF; exact rfl)
 | (with_reducible apply k_c)
          · refine c_loop ?_
            refine loop_gc (σ := Nat × Bool) (fun s => [.int .i64 hi, .ptr 0 0, .ptr 1 0, .int .i64 n, .ptr 2 0, .int .i64 (i : Int), AV.nilS, .int .i64 j, .bool s.2, .int .i64 s.1]) (fun _ => [some (.box [.nilS, .nilS, .nilS]), some (.box [zo, zr, zn]), some (.box [.sl 3 1 0 1, .sl 4 1 0 1, .nilS]), some (.data (tO g (i + 1))), some (.data (tR g hi (i + 1)))])
              (fun s => s.1 ≤ (getLL g.next (i : Int)).length ∧ (s.2 || ((getLL g.next (i : Int)).drop s.1).any fun u => mdF u n == (j : Int)) = tHit g n i j) (fun s => (getLL g.next (i : Int)).length - s.1) ?_ _ (0, false) _ _ ⟨by simp, by simp [tHit]⟩ (by simp; omega) (by simp [go_sem, fo, fr, fn, go, gr, gn]; done)
            intro ⟨k, is⟩ ⟨hk, his⟩ K3 hK3
            simp only at hk his hK3 ⊢
            have hgk := fun h => @drop_getI (getLL g.next (i : Int)) k h
            cases is
            · skip
              repeat' first
 | (apply s_mov; (focus ((conv => lhs; whnf); done)))
 | (apply s_gT; exact rfl)
 | (apply s_gF; exact rfl)
 | (apply c_nil)
 | (apply s_pickT; exact rfl; (focus ((conv => lhs; whnf); done)))
 | (apply s_pickF; exact rfl; (focus ((conv => lhs; whnf); done)))
 | ((first | apply s_lss | apply s_leq | apply s_gtr | apply s_geq | apply s_eql | apply s_neq); exact rfl; all_goals (intro _; try (exfalso; omega)))
 | ((first | apply s_add | apply s_sub); exact rfl; omega)
 | (apply s_cn; (focus (repeat (first | apply opds_nil | (apply opds_cons; (first | (focus ((conv => lhs; whnf); done)) | exact rfl))))); exact c31 (by omega) (by omega) _)
 | (apply s_len; (focus ((conv => lhs; whnf); done)); (first | assumption | (apply IsLL.at; assumption; omega)))
 | (apply s_lenLL; (focus ((conv => lhs; whnf); done)); assumption)
 | (apply s_idx; (focus ((conv => lhs; whnf); done)); exact rfl; (first | assumption | (apply IsLL.at; assumption; omega)); omega)
 | (apply s_idxLL; (focus ((conv => lhs; whnf); done)); exact rfl; assumption; omega)
 | (apply s_ldI; exact rfl; omega)
 | (apply s_ldLL; exact rfl; assumption; omega)
 | (apply s_pd; (focus ((conv => lhs; whnf); done)))
 | (apply c_seq)
 | (apply c_reg)
 | (apply c_block)
 | (apply c_exitH)
 | (apply c_skip)
 | (apply c_condT; exact rfl)
 | (apply c_condF; exact rfl)
 | (with_reducible apply k_c)
              · refine hK3 (k + 1, true) _ _ ⟨by simp; omega, ?_⟩ (by simp; omega) (by simp [go_sem, fo, fr, fn, go, gr, gn]; done)
                have hmm : mdF (getI (getLL g.next i) k) n = j := by assumption
                rw [← his, hgk (by omega)]
                simp [hmm]
              · refine hK3 (k + 1, false) _ _ ⟨by simp; omega, ?_⟩ (by simp; omega) (by simp [go_sem, fo, fr, fn, go, gr, gn]; done)
                have hmm : ¬ mdF (getI (getLL g.next i) k) n = j := by assumption
                rw [← his, hgk (by omega)]
                simp [hmm]
              · have hdrop : (getLL g.next (i : Int)).drop k = [] := List.drop_eq_nil_of_le (by omega)
                rw [hdrop] at his
                simp only [List.any_nil, Bool.or_false] at his
                clear hK3 hgk
                refine c_pre (vs := [.int .i64 hi, .ptr 0 0, .ptr 1 0, .int .i64 n, .ptr 2 0, .int .i64 (i : Int), AV.nilS, .int .i64 j, .bool false]) (H' := [some (.box [.nilS, .nilS, .nilS]), some (.box [zo, zr, zn]), some (.box [.sl 3 1 0 1, .sl 4 1 0 1, .nilS]), some (.data (tO g (i + 1))), some (.data (tR g hi (i + 1)))]) (by simp [go_sem, fo, fr, fn, go, gr, gn]; done) ?_
                repeat' first
 | (apply s_mov; (focus ((conv => lhs; whnf); done)))
 | (apply s_gT; exact rfl)
 | (apply s_gF; exact rfl)
 | (apply c_nil)
 | (apply s_pickT; exact rfl; (focus ((conv => lhs; whnf); done)))
 | (apply s_pickF; exact rfl; (focus ((conv => lhs; whnf); done)))
 | ((first | apply s_lss | apply s_leq | apply s_gtr | apply s_geq | apply s_eql | apply s_neq); exact rfl; all_goals (intro _; try (exfalso; omega)))
 | (apply s_en; (focus (repeat (first | apply opds_nil | (apply opds_cons; (first | (focus ((conv => lhs; whnf); done)) | exact rfl))))); exact e_bld1 rfl rfl rfl rfl)
 | (apply s_en; (focus (repeat (first | apply opds_nil | (apply opds_cons; (first | (focus ((conv => lhs; whnf); done)) | exact rfl))))); exact e_app_nil rfl (by omega) (by decide))
 | (apply s_len; (focus ((conv => lhs; whnf); done)); (first | assumption | (apply IsLL.at; assumption; omega)))
 | (apply s_lenLL; (focus ((conv => lhs; whnf); done)); assumption)
 | (apply s_idxLL; (focus ((conv => lhs; whnf); done)); exact rfl; assumption; omega)
 | (apply s_ldLL; exact rfl; assumption; omega)
 | (apply s_pd; (focus ((conv => lhs; whnf); done)))
 | (apply c_seq)
 | (apply c_reg)
 | (apply c_skip)
 | (apply c_condT; exact rfl)
 | (apply c_condF; exact rfl)
 | (with_reducible apply k_c)
                all_goals
                  rcases Bool.eq_false_or_eq_true (tCnd g n i j) with hcn | hcn
                  all_goals first
                    | exact contF (by omega) hcn _ _ _ rfl
                    | (exfalso; have h9 := tCnd_T hcn his; clear contF hK9 hK; omega)
                    | (exfalso; have h9 := (tCnd_F hcn).1; rw [← his] at h9; simp at h9; done)
                    | (exfalso; obtain ⟨h7, h8, h9⟩ := tCnd_F hcn; clear contF hK9 hK; omega)
                    | (refine c_pre (vs := [.int .i64 hi, .ptr 0 0, .ptr 1 0, .int .i64 n, .ptr 2 0, .int .i64 (i : Int), .sl 5 1 0 1, .int .i64 j]) (H' := [some (.box [.nilS, .nilS, .nilS]), some (.box [zo, zr, zn]), some (.box [.sl 3 1 0 1, .sl 4 1 0 1, .nilS]), some (.data (tO g (i + 1))), some (.data (tR g hi (i + 1))), some (.data [.int .i64 (j : Int)])]) (by simp [go_sem, fo, fr, fn, go, gr, gn]; done) ?_
                       repeat' first
 | (apply s_mov; (focus ((conv => lhs; whnf); done)))
 | (apply c_nil)
 | ((first | apply s_add | apply s_sub); exact rfl; omega)
 | (apply c_reg)
                       refine hK9 (j + 1) _ _ (by omega) (by omega) ?_
                       rw [hsuc, if_pos hcn]
                       simp only [rwV, rwH, iL, List.map_cons, List.map_nil, List.nil_append]
                       exact (by simp [go_sem, fo, fr, fn, go, gr, gn, iL_app2]; done))
              · have hdrop : (getLL g.next (i : Int)).drop k = [] := List.drop_eq_nil_of_le (by omega)
                rw [hdrop] at his
                simp only [List.any_nil, Bool.or_false] at his
                clear hK3 hgk
                refine c_pre (vs := [.int .i64 hi, .ptr 0 0, .ptr 1 0, .int .i64 n, .ptr 2 0, .int .i64 (i : Int), AV.nilS, .int .i64 j, .bool false]) (H' := [some (.box [.nilS, .nilS, .nilS]), some (.box [zo, zr, zn]), some (.box [.sl 3 1 0 1, .sl 4 1 0 1, .nilS]), some (.data (tO g (i + 1))), some (.data (tR g hi (i + 1)))]) (by simp [go_sem, fo, fr, fn, go, gr, gn]; done) ?_
                repeat' first
 | (apply s_mov; (focus ((conv => lhs; whnf); done)))
 | (apply s_gT; exact rfl)
 | (apply s_gF; exact rfl)
 | (apply c_nil)
 | (apply s_pickT; exact rfl; (focus ((conv => lhs; whnf); done)))
 | (apply s_pickF; exact rfl; (focus ((conv => lhs; whnf); done)))
 | ((first | apply s_lss | apply s_leq | apply s_gtr | apply s_geq | apply s_eql | apply s_neq); exact rfl; all_goals (intro _; try (exfalso; omega)))
 | (apply s_en; (focus (repeat (first | apply opds_nil | (apply opds_cons; (first | (focus ((conv => lhs; whnf); done)) | exact rfl))))); exact e_bld1 rfl rfl rfl rfl)
 | (apply s_en; (focus (repeat (first | apply opds_nil | (apply opds_cons; (first | (focus ((conv => lhs; whnf); done)) | exact rfl))))); exact e_app_nil rfl (by omega) (by decide))
 | (apply s_lenLL; (focus ((conv => lhs; whnf); done)); assumption)
 | (apply s_pd; (focus ((conv => lhs; whnf); done)))
 | (apply c_seq)
 | (apply c_reg)
 | (apply c_skip)
 | (apply c_condT; exact rfl)
 | (apply c_condF; exact rfl)
 | (with_reducible apply k_c)
                all_goals
                  rcases Bool.eq_false_or_eq_true (tCnd g n i j) with hcn | hcn
                  all_goals first
                    | exact contF (by omega) hcn _ _ _ rfl
                    | (exfalso; have h9 := tCnd_T hcn his; clear contF hK9 hK; omega)
                    | (exfalso; have h9 := (tCnd_F hcn).1; rw [← his] at h9; simp at h9; done)
                    | (exfalso; obtain ⟨h7, h8, h9⟩ := tCnd_F hcn; clear contF hK9 hK; omega)
                    | (refine c_pre (vs := [.int .i64 hi, .ptr 0 0, .ptr 1 0, .int .i64 n, .ptr 2 0, .int .i64 (i : Int), .sl 5 1 0 1, .int .i64 j]) (H' := [some (.box [.nilS, .nilS, .nilS]), some (.box [zo, zr, zn]), some (.box [.sl 3 1 0 1, .sl 4 1 0 1, .nilS]), some (.data (tO g (i + 1))), some (.data (tR g hi (i + 1))), some (.data [.int .i64 (j : Int)])]) (by simp [go_sem, fo, fr, fn, go, gr, gn]; done) ?_
                       repeat' first
 | (apply s_mov; (focus ((conv => lhs; whnf); done)))
 | (apply c_nil)
 | ((first | apply s_add | apply s_sub); exact rfl; omega)
 | (apply c_reg)
                       refine hK9 (j + 1) _ _ (by omega) (by omega) ?_
                       rw [hsuc, if_pos hcn]
                       simp only [rwV, rwH, iL, List.map_cons, List.map_nil, List.nil_append]
                       exact (by simp [go_sem, fo, fr, fn, go, gr, gn, iL_app2]; done))
            · skip
              repeat' first
 | (apply s_mov; (focus ((conv => lhs; whnf); done)))
 | (apply s_gT; exact rfl)
 | (apply s_gF; exact rfl)
 | (apply s_gFD; exact rfl)
 | (apply c_nil)
 | (apply s_pickT; exact rfl; (focus ((conv => lhs; whnf); done)))
 | (apply s_pickF; exact rfl; (focus ((conv => lhs; whnf); done)))
 | ((first | apply s_lss | apply s_leq | apply s_gtr | apply s_geq | apply s_eql | apply s_neq); exact rfl; all_goals (intro _; try (exfalso; omega)))
 | ((first | apply s_add | apply s_sub); exact rfl; omega)
 | (apply s_len; (focus ((conv => lhs; whnf); done)); (first | assumption | (apply IsLL.at; assumption; omega)))
 | (apply s_lenLL; (focus ((conv => lhs; whnf); done)); assumption)
 | (apply s_idxLL; (focus ((conv => lhs; whnf); done)); exact rfl; assumption; omega)
 | (apply s_ldLL; exact rfl; assumption; omega)
 | (apply s_pd; (focus ((conv => lhs; whnf); done)))
 | (apply c_seq)
 | (apply c_reg)
 | (apply c_block)
 | (apply c_exitH)
 | (apply c_skip)
 | (apply c_condT; exact rfl)
 | (apply c_condF; exact rfl)
 | (with_reducible apply k_c)
              · refine hK3 (k + 1, true) _ _ ⟨by simp; omega, ?_⟩ (by simp; omega) (by simp [go_sem, fo, fr, fn, go, gr, gn]; done)
                rw [← his]
                simp
              · have hdrop : (getLL g.next (i : Int)).drop k = [] := List.drop_eq_nil_of_le (by omega)
                rw [hdrop] at his
                simp only [List.any_nil, Bool.or_false] at his
                clear hK3 hgk
                refine c_pre (vs := [.int .i64 hi, .ptr 0 0, .ptr 1 0, .int .i64 n, .ptr 2 0, .int .i64 (i : Int), AV.nilS, .int .i64 j, .bool true]) (H' := [some (.box [.nilS, .nilS, .nilS]), some (.box [zo, zr, zn]), some (.box [.sl 3 1 0 1, .sl 4 1 0 1, .nilS]), some (.data (tO g (i + 1))), some (.data (tR g hi (i + 1)))]) (by simp [go_sem, fo, fr, fn, go, gr, gn]; done) ?_
                repeat' first
 | (apply s_mov; (focus ((conv => lhs; whnf); done)))
 | (apply s_gF; exact rfl)
 | (apply c_nil)
 | (apply s_pickT; exact rfl; (focus ((conv => lhs; whnf); done)))
 | (apply s_en; (focus (repeat (first | apply opds_nil | (apply opds_cons; (first | (focus ((conv => lhs; whnf); done)) | exact rfl))))); exact e_bld1 rfl rfl rfl rfl)
 | (apply s_en; (focus (repeat (first | apply opds_nil | (apply opds_cons; (first | (focus ((conv => lhs; whnf); done)) | exact rfl))))); exact e_app_nil rfl (by omega) (by decide))
 | (apply c_seq)
 | (apply c_reg)
 | (apply c_condT; exact rfl)
 | (with_reducible apply k_c)
                all_goals
                  rcases Bool.eq_false_or_eq_true (tCnd g n i j) with hcn | hcn
                  all_goals first
                    | exact contF (by omega) hcn _ _ _ rfl
                    | (exfalso; have h9 := tCnd_T hcn his; clear contF hK9 hK; omega)
                    | (exfalso; have h9 := (tCnd_F hcn).1; rw [← his] at h9; simp at h9; done)
                    | (exfalso; obtain ⟨h7, h8, h9⟩ := tCnd_F hcn; clear contF hK9 hK; omega)
                    | (refine c_pre (vs := [.int .i64 hi, .ptr 0 0, .ptr 1 0, .int .i64 n, .ptr 2 0, .int .i64 (i : Int), .sl 5 1 0 1, .int .i64 j]) (H' := [some (.box [.nilS, .nilS, .nilS]), some (.box [zo, zr, zn]), some (.box [.sl 3 1 0 1, .sl 4 1 0 1, .nilS]), some (.data (tO g (i + 1))), some (.data (tR g hi (i + 1))), some (.data [.int .i64 (j : Int)])]) (by simp [go_sem, fo, fr, fn, go, gr, gn]; done) ?_
                       repeat' first
 | (apply s_mov; (focus ((conv => lhs; whnf); done)))
 | (apply c_nil)
 | ((first | apply s_add | apply s_sub); exact rfl; omega)
 | (apply c_reg)
                       refine hK9 (j + 1) _ _ (by omega) (by omega) ?_
                       rw [hsuc, if_pos hcn]
                       simp only [rwV, rwH, iL, List.map_cons, List.map_nil, List.nil_append]
                       exact (by simp [go_sem, fo, fr, fn, go, gr, gn, iL_app2]; done))
              · have hdrop : (getLL g.next (i : Int)).drop k = [] := List.drop_eq_nil_of_le (by omega)
                rw [hdrop] at his
                simp only [List.any_nil, Bool.or_false] at his
                clear hK3 hgk
                refine c_pre (vs := [.int .i64 hi, .ptr 0 0, .ptr 1 0, .int .i64 n, .ptr 2 0, .int .i64 (i : Int), AV.nilS, .int .i64 j, .bool true]) (H' := [some (.box [.nilS, .nilS, .nilS]), some (.box [zo, zr, zn]), some (.box [.sl 3 1 0 1, .sl 4 1 0 1, .nilS]), some (.data (tO g (i + 1))), some (.data (tR g hi (i + 1)))]) (by simp [go_sem, fo, fr, fn, go, gr, gn]; done) ?_
                repeat' first
 | (apply s_mov; (focus ((conv => lhs; whnf); done)))
 | (apply s_gF; exact rfl)
 | (apply c_nil)
 | (apply s_pickT; exact rfl; (focus ((conv => lhs; whnf); done)))
 | (apply s_en; (focus (repeat (first | apply opds_nil | (apply opds_cons; (first | (focus ((conv => lhs; whnf); done)) | exact rfl))))); exact e_bld1 rfl rfl rfl rfl)
 | (apply s_en; (focus (repeat (first | apply opds_nil | (apply opds_cons; (first | (focus ((conv => lhs; whnf); done)) | exact rfl))))); exact e_app_nil rfl (by omega) (by decide))
 | (apply c_seq)
 | (apply c_reg)
 | (apply c_condT; exact rfl)
 | (with_reducible apply k_c)
                all_goals
                  rcases Bool.eq_false_or_eq_true (tCnd g n i j) with hcn | hcn
                  all_goals first
                    | exact contF (by omega) hcn _ _ _ rfl
                    | (exfalso; have h9 := tCnd_T hcn his; clear contF hK9 hK; omega)
                    | (exfalso; have h9 := (tCnd_F hcn).1; rw [← his] at h9; simp at h9; done)
                    | (exfalso; obtain ⟨h7, h8, h9⟩ := tCnd_F hcn; clear contF hK9 hK; omega)
                    | (refine c_pre (vs := [.int .i64 hi, .ptr 0 0, .ptr 1 0, .int .i64 n, .ptr 2 0, .int .i64 (i : Int), .sl 5 1 0 1, .int .i64 j]) (H' := [some (.box [.nilS, .nilS, .nilS]), some (.box [zo, zr, zn]), some (.box [.sl 3 1 0 1, .sl 4 1 0 1, .nilS]), some (.data (tO g (i + 1))), some (.data (tR g hi (i + 1))), some (.data [.int .i64 (j : Int)])]) (by simp [go_sem, fo, fr, fn, go, gr, gn]; done) ?_
                       repeat' first
 | (apply s_mov; (focus ((conv => lhs; whnf); done)))
 | (apply c_nil)
 | ((first | apply s_add | apply s_sub); exact rfl; omega)
 | (apply c_reg)
                       refine hK9 (j + 1) _ _ (by omega) (by omega) ?_
                       rw [hsuc, if_pos hcn]
                       simp only [rwV, rwH, iL, List.map_cons, List.map_nil, List.nil_append]
                       exact (by simp [go_sem, fo, fr, fn, go, gr, gn, iL_app2]; done))
          · have hjn : j = n := by omega
            rw [hjn] at hC
            have hff : fzL [] = .nilS := by simp [fzL]
            have eN := tN_succ g n i
            rw [hC, hff] at eN
            refine c_pre (vs := [.int .i64 hi, .ptr 0 0, .ptr 1 0, .int .i64 n, .ptr 2 0, .int .i64 (i : Int), AV.nilS]) (H' := [some (.box [.nilS, .nilS, .nilS]), some (.box [zo, zr, zn]), some (.box [.sl 3 1 0 1, .sl 4 1 0 1, .nilS]), some (.data (tO g (i + 1))), some (.data (tR g hi (i + 1)))]) (by simp [go_sem, fo, fr, fn, go, gr, gn]; done) ?_
            repeat' first
 | (apply c_nil)
 | (apply s_en; (focus (repeat (first | apply opds_nil | (apply opds_cons; (first | (focus ((conv => lhs; whnf); done)) | exact rfl))))); exact frzN _ _)
 | (apply s_en; (focus (repeat (first | apply opds_nil | (apply opds_cons; (first | (focus ((conv => lhs; whnf); done)) | exact rfl))))); exact e_bld1 rfl rfl rfl rfl)
 | (apply s_en; (focus (repeat (first | apply opds_nil | (apply opds_cons; (first | (focus ((conv => lhs; whnf); done)) | exact rfl))))); exact e_app_nil rfl (by omega) (by decide))
 | (apply isE; apply s_st; (focus (repeat (first | apply opds_nil | (apply opds_cons; (first | (focus ((conv => lhs; whnf); done)) | exact rfl))))); (focus ((conv => lhs; whnf); done)))
 | (apply s_pd; (focus ((conv => lhs; whnf); done)))
 | (apply c_reg)
 | (with_reducible apply k_c)
            refine c_pre (vs := [.int .i64 hi, .ptr 0 0, .ptr 1 0, .int .i64 n, .ptr 2 0, .int .i64 (i : Int)]) (H' := [some (.box [.nilS, .nilS, .nilS]), some (.box [zo, zr, zn]), some (.box [.sl 3 1 0 1, .sl 4 1 0 1, .sl 5 1 0 1]), some (.data (tO g (i + 1))), some (.data (tR g hi (i + 1))), some (.data [.nilS])]) (by simp [go_sem, fo, fr, fn, go, gr, gn]; done) ?_
            repeat' first
 | (apply s_mov; (focus ((conv => lhs; whnf); done)))
 | (apply c_nil)
 | ((first | apply s_add | apply s_sub); exact rfl; omega)
 | (apply c_reg)
            refine hK (i + 1) _ _ (by omega) (by omega) ?_
            rw [hpT_s (by omega)]
            simp only [eN, e02, List.nil_append]
            exact (by simp [go_sem, fo, fr, fn, go, gr, gn, hi0]; done)
        · simp only [rwV, rwH]
          have hil : (iL (c :: cs)).length = cs.length + 1 := by rw [iL_len]; rfl
          have hcs : cs.length + 1 ≤ 16 := by simp at hrl; omega
          try simp only [List.cons_append, List.nil_append]
          have contF : j < n → tCnd g n i j = false → ∀ (X : Nat → KT) (Rt : KT) (env : Env), looks env [2, 6, 7, 8, 9, 10, 11, 12] = [.int .i64 hi, .ptr 0 0, .ptr 1 0, .int .i64 n, .ptr 2 0, .int .i64 (i : Int), .sl 5 1 0 (cs.length + 1), .int .i64 j] → RC (evF tab it m) it m sq28_6 0 K9 X Rt env [some (.box [.nilS, .nilS, .nilS]), some (.box [zo, zr, zn]), some (.box [.sl 3 1 0 1, .sl 4 1 0 1, .nilS]), some (.data (tO g (i + 1))), some (.data (tR g hi (i + 1))), some (.data (iL (c :: cs)))] RES := by
            intro hjn hcn X Rt env hlk
            refine c_pre (vs := [.int .i64 hi, .ptr 0 0, .ptr 1 0, .int .i64 n, .ptr 2 0, .int .i64 (i : Int), .sl 5 1 0 (cs.length + 1), .int .i64 j]) (H' := [some (.box [.nilS, .nilS, .nilS]), some (.box [zo, zr, zn]), some (.box [.sl 3 1 0 1, .sl 4 1 0 1, .nilS]), some (.data (tO g (i + 1))), some (.data (tR g hi (i + 1))), some (.data (iL (c :: cs)))]) (by rw [hlk]; exact (by simp [go_sem, fo, fr, fn, go, gr, gn]; done)) ?_
            repeat' first
 | (apply s_mov; (focus ((conv => lhs; whnf); done)))
 | (apply c_nil)
 | ((first | apply s_add | apply s_sub); exact rfl; omega)
 | (apply c_reg)
            refine hK9 (j + 1) _ _ (by omega) (by omega) ?_
            rw [hsuc, hcn]
            simp only [Bool.false_eq_true, if_false, rwV, rwH, List.cons_append, List.nil_append]
            exact (by simp [go_sem, fo, fr, fn, go, gr, gn]; done)
          repeat' first
 | (apply s_mov; (focus ((conv => lhs; whnf); done)))
 | (apply c_nil)
 | ((first | apply s_lss | apply s_leq | apply s_gtr | apply s_geq | apply s_eql | apply s_neq); exact rfl; all_goals (intro _; try (exfalso; omega)))
 | (apply c_seq)
 | (apply c_reg)
 | (apply c_block)
 | (apply c_exitH)
 | (apply c_skip)
 | (apply c_condT; exact rfl)
 | (apply c_condF; exact rfl)
 | (with_reducible apply k_c)
          · refine c_loop ?_
            refine loop_gc (σ := Nat × Bool) (fun s => [.int .i64 hi, .ptr 0 0, .ptr 1 0, .int .i64 n, .ptr 2 0, .int .i64 (i : Int), .sl 5 1 0 (cs.length + 1), .int .i64 j, .bool s.2, .int .i64 s.1]) (fun _ => [some (.box [.nilS, .nilS, .nilS]), some (.box [zo, zr, zn]), some (.box [.sl 3 1 0 1, .sl 4 1 0 1, .nilS]), some (.data (tO g (i + 1))), some (.data (tR g hi (i + 1))), some (.data (iL (c :: cs)))])
              (fun s => s.1 ≤ (getLL g.next (i : Int)).length ∧ (s.2 || ((getLL g.next (i : Int)).drop s.1).any fun u => mdF u n == (j : Int)) = tHit g n i j) (fun s => (getLL g.next (i : Int)).length - s.1) ?_ _ (0, false) _ _ ⟨by simp, by simp [tHit]⟩ (by simp; omega) (by simp [go_sem, fo, fr, fn, go, gr, gn]; done)
            intro ⟨k, is⟩ ⟨hk, his⟩ K3 hK3
            simp only at hk his hK3 ⊢
            have hgk := fun h => @drop_getI (getLL g.next (i : Int)) k h
            cases is
            · skip
              repeat' first
 | (apply s_mov; (focus ((conv => lhs; whnf); done)))
 | (apply s_gT; exact rfl)
 | (apply s_gF; exact rfl)
 | (apply c_nil)
 | (apply s_pickT; exact rfl; (focus ((conv => lhs; whnf); done)))
 | (apply s_pickF; exact rfl; (focus ((conv => lhs; whnf); done)))
 | ((first | apply s_lss | apply s_leq | apply s_gtr | apply s_geq | apply s_eql | apply s_neq); exact rfl; all_goals (intro _; try (exfalso; omega)))
 | ((first | apply s_add | apply s_sub); exact rfl; omega)
 | (apply s_cn; (focus (repeat (first | apply opds_nil | (apply opds_cons; (first | (focus ((conv => lhs; whnf); done)) | exact rfl))))); exact c31 (by omega) (by omega) _)
 | (apply s_len; (focus ((conv => lhs; whnf); done)); (first | assumption | (apply IsLL.at; assumption; omega)))
 | (apply s_lenLL; (focus ((conv => lhs; whnf); done)); assumption)
 | (apply s_idx; (focus ((conv => lhs; whnf); done)); exact rfl; (first | assumption | (apply IsLL.at; assumption; omega)); omega)
 | (apply s_idxLL; (focus ((conv => lhs; whnf); done)); exact rfl; assumption; omega)
 | (apply s_ldI; exact rfl; omega)
 | (apply s_ldLL; exact rfl; assumption; omega)
 | (apply s_pd; (focus ((conv => lhs; whnf); done)))
 | (apply c_seq)
 | (apply c_reg)
 | (apply c_block)
 | (apply c_exitH)
 | (apply c_skip)
 | (apply c_condT; exact rfl)
 | (apply c_condF; exact rfl)
 | (with_reducible apply k_c)
              · refine hK3 (k + 1, true) _ _ ⟨by simp; omega, ?_⟩ (by simp; omega) (by simp [go_sem, fo, fr, fn, go, gr, gn]; done)
                have hmm : mdF (getI (getLL g.next i) k) n = j := by assumption
                rw [← his, hgk (by omega)]
                simp [hmm]
              · refine hK3 (k + 1, false) _ _ ⟨by simp; omega, ?_⟩ (by simp; omega) (by simp [go_sem, fo, fr, fn, go, gr, gn]; done)
                have hmm : ¬ mdF (getI (getLL g.next i) k) n = j := by assumption
                rw [← his, hgk (by omega)]
                simp [hmm]
              · have hdrop : (getLL g.next (i : Int)).drop k = [] := List.drop_eq_nil_of_le (by omega)
                rw [hdrop] at his
                simp only [List.any_nil, Bool.or_false] at his
                clear hK3 hgk
                refine c_pre (vs := [.int .i64 hi, .ptr 0 0, .ptr 1 0, .int .i64 n, .ptr 2 0, .int .i64 (i : Int), .sl 5 1 0 (cs.length + 1), .int .i64 j, .bool false]) (H' := [some (.box [.nilS, .nilS, .nilS]), some (.box [zo, zr, zn]), some (.box [.sl 3 1 0 1, .sl 4 1 0 1, .nilS]), some (.data (tO g (i + 1))), some (.data (tR g hi (i + 1))), some (.data (iL (c :: cs)))]) (by simp [go_sem, fo, fr, fn, go, gr, gn]; done) ?_
                repeat' first
 | (apply s_mov; (focus ((conv => lhs; whnf); done)))
 | (apply s_gT; exact rfl)
 | (apply s_gF; exact rfl)
 | (apply c_nil)
 | (apply s_pickT; exact rfl; (focus ((conv => lhs; whnf); done)))
 | (apply s_pickF; exact rfl; (focus ((conv => lhs; whnf); done)))
 | ((first | apply s_lss | apply s_leq | apply s_gtr | apply s_geq | apply s_eql | apply s_neq); exact rfl; all_goals (intro _; try (exfalso; omega)))
 | (apply s_en; (focus (repeat (first | apply opds_nil | (apply opds_cons; (first | (focus ((conv => lhs; whnf); done)) | exact rfl))))); exact e_bld1 rfl rfl rfl rfl)
 | (apply s_en; (focus (repeat (first | apply opds_nil | (apply opds_cons; (first | (focus ((conv => lhs; whnf); done)) | exact rfl))))); exact e_app_sl rfl hil (by omega) (by unfold most; omega))
 | (apply s_len; (focus ((conv => lhs; whnf); done)); (first | assumption | (apply IsLL.at; assumption; omega)))
 | (apply s_lenLL; (focus ((conv => lhs; whnf); done)); assumption)
 | (apply s_idxLL; (focus ((conv => lhs; whnf); done)); exact rfl; assumption; omega)
 | (apply s_ldLL; exact rfl; assumption; omega)
 | (apply s_pd; (focus ((conv => lhs; whnf); done)))
 | (apply c_seq)
 | (apply c_reg)
 | (apply c_skip)
 | (apply c_condT; exact rfl)
 | (apply c_condF; exact rfl)
 | (with_reducible apply k_c)
                all_goals
                  rcases Bool.eq_false_or_eq_true (tCnd g n i j) with hcn | hcn
                  all_goals first
                    | exact contF (by omega) hcn _ _ _ rfl
                    | (exfalso; have h9 := tCnd_T hcn his; clear contF hK9 hK; omega)
                    | (exfalso; have h9 := (tCnd_F hcn).1; rw [← his] at h9; simp at h9; done)
                    | (exfalso; obtain ⟨h7, h8, h9⟩ := tCnd_F hcn; clear contF hK9 hK; omega)
                    | (refine c_pre (vs := [.int .i64 hi, .ptr 0 0, .ptr 1 0, .int .i64 n, .ptr 2 0, .int .i64 (i : Int), .sl 5 1 0 (cs.length + 1 + 1), .int .i64 j]) (H' := [some (.box [.nilS, .nilS, .nilS]), some (.box [zo, zr, zn]), some (.box [.sl 3 1 0 1, .sl 4 1 0 1, .nilS]), some (.data (tO g (i + 1))), some (.data (tR g hi (i + 1))), some (.data (iL (c :: cs) ++ [.int .i64 (j : Int)]))]) (by simp [go_sem, fo, fr, fn, go, gr, gn]; done) ?_
                       repeat' first
 | (apply s_mov; (focus ((conv => lhs; whnf); done)))
 | (apply c_nil)
 | ((first | apply s_add | apply s_sub); exact rfl; omega)
 | (apply c_reg)
                       refine hK9 (j + 1) _ _ (by omega) (by omega) ?_
                       rw [hsuc, if_pos hcn]
                       simp only [rwV, rwH, List.cons_append]
                       exact (by simp [go_sem, fo, fr, fn, go, gr, gn, iL_app2]; done))
              · have hdrop : (getLL g.next (i : Int)).drop k = [] := List.drop_eq_nil_of_le (by omega)
                rw [hdrop] at his
                simp only [List.any_nil, Bool.or_false] at his
                clear hK3 hgk
                refine c_pre (vs := [.int .i64 hi, .ptr 0 0, .ptr 1 0, .int .i64 n, .ptr 2 0, .int .i64 (i : Int), .sl 5 1 0 (cs.length + 1), .int .i64 j, .bool false]) (H' := [some (.box [.nilS, .nilS, .nilS]), some (.box [zo, zr, zn]), some (.box [.sl 3 1 0 1, .sl 4 1 0 1, .nilS]), some (.data (tO g (i + 1))), some (.data (tR g hi (i + 1))), some (.data (iL (c :: cs)))]) (by simp [go_sem, fo, fr, fn, go, gr, gn]; done) ?_
                repeat' first
 | (apply s_mov; (focus ((conv => lhs; whnf); done)))
 | (apply s_gT; exact rfl)
 | (apply s_gF; exact rfl)
 | (apply c_nil)
 | (apply s_pickT; exact rfl; (focus ((conv => lhs; whnf); done)))
 | (apply s_pickF; exact rfl; (focus ((conv => lhs; whnf); done)))
 | ((first | apply s_lss | apply s_leq | apply s_gtr | apply s_geq | apply s_eql | apply s_neq); exact rfl; all_goals (intro _; try (exfalso; omega)))
 | (apply s_en; (focus (repeat (first | apply opds_nil | (apply opds_cons; (first | (focus ((conv => lhs; whnf); done)) | exact rfl))))); exact e_bld1 rfl rfl rfl rfl)
 | (apply s_en; (focus (repeat (first | apply opds_nil | (apply opds_cons; (first | (focus ((conv => lhs; whnf); done)) | exact rfl))))); exact e_app_sl rfl hil (by omega) (by unfold most; omega))
 | (apply s_lenLL; (focus ((conv => lhs; whnf); done)); assumption)
 | (apply s_pd; (focus ((conv => lhs; whnf); done)))
 | (apply c_seq)
 | (apply c_reg)
 | (apply c_skip)
 | (apply c_condT; exact rfl)
 | (apply c_condF; exact rfl)
 | (with_reducible apply k_c)
                all_goals
                  rcases Bool.eq_false_or_eq_true (tCnd g n i j) with hcn | hcn
                  all_goals first
                    | exact contF (by omega) hcn _ _ _ rfl
                    | (exfalso; have h9 := tCnd_T hcn his; clear contF hK9 hK; omega)
                    | (exfalso; have h9 := (tCnd_F hcn).1; rw [← his] at h9; simp at h9; done)
                    | (exfalso; obtain ⟨h7, h8, h9⟩ := tCnd_F hcn; clear contF hK9 hK; omega)
                    | (refine c_pre (vs := [.int .i64 hi, .ptr 0 0, .ptr 1 0, .int .i64 n, .ptr 2 0, .int .i64 (i : Int), .sl 5 1 0 (cs.length + 1 + 1), .int .i64 j]) (H' := [some (.box [.nilS, .nilS, .nilS]), some (.box [zo, zr, zn]), some (.box [.sl 3 1 0 1, .sl 4 1 0 1, .nilS]), some (.data (tO g (i + 1))), some (.data (tR g hi (i + 1))), some (.data (iL (c :: cs) ++ [.int .i64 (j : Int)]))]) (by simp [go_sem, fo, fr, fn, go, gr, gn]; done) ?_
                       repeat' first
 | (apply s_mov; (focus ((conv => lhs; whnf); done)))
 | (apply c_nil)
 | ((first | apply s_add | apply s_sub); exact rfl; omega)
 | (apply c_reg)
                       refine hK9 (j + 1) _ _ (by omega) (by omega) ?_
                       rw [hsuc, if_pos hcn]
                       simp only [rwV, rwH, List.cons_append]
                       exact (by simp [go_sem, fo, fr, fn, go, gr, gn, iL_app2]; done))
            · skip
              repeat' first
 | (apply s_mov; (focus ((conv => lhs; whnf); done)))
 | (apply s_gT; exact rfl)
 | (apply s_gF; exact rfl)
 | (apply s_gFD; exact rfl)
 | (apply c_nil)
 | (apply s_pickT; exact rfl; (focus ((conv => lhs; whnf); done)))
 | (apply s_pickF; exact rfl; (focus ((conv => lhs; whnf); done)))
 | ((first | apply s_lss | apply s_leq | apply s_gtr | apply s_geq | apply s_eql | apply s_neq); exact rfl; all_goals (intro _; try (exfalso; omega)))
 | ((first | apply s_add | apply s_sub); exact rfl; omega)
 | (apply s_len; (focus ((conv => lhs; whnf); done)); (first | assumption | (apply IsLL.at; assumption; omega)))
 | (apply s_lenLL; (focus ((conv => lhs; whnf); done)); assumption)
 | (apply s_idxLL; (focus ((conv => lhs; whnf); done)); exact rfl; assumption; omega)
 | (apply s_ldLL; exact rfl; assumption; omega)
 | (apply s_pd; (focus ((conv => lhs; whnf); done)))
 | (apply c_seq)
 | (apply c_reg)
 | (apply c_block)
 | (apply c_exitH)
 | (apply c_skip)
 | (apply c_condT; exact rfl)
 | (apply c_condF; exact rfl)
 | (with_reducible apply k_c)
              · refine hK3 (k + 1, true) _ _ ⟨by simp; omega, ?_⟩ (by simp; omega) (by simp [go_sem, fo, fr, fn, go, gr, gn]; done)
                rw [← his]
                simp
              · have hdrop : (getLL g.next (i : Int)).drop k = [] := List.drop_eq_nil_of_le (by omega)
                rw [hdrop] at his
                simp only [List.any_nil, Bool.or_false] at his
                clear hK3 hgk
                refine c_pre (vs := [.int .i64 hi, .ptr 0 0, .ptr 1 0, .int .i64 n, .ptr 2 0, .int .i64 (i : Int), .sl 5 1 0 (cs.length + 1), .int .i64 j, .bool true]) (H' := [some (.box [.nilS, .nilS, .nilS]), some (.box [zo, zr, zn]), some (.box [.sl 3 1 0 1, .sl 4 1 0 1, .nilS]), some (.data (tO g (i + 1))), some (.data (tR g hi (i + 1))), some (.data (iL (c :: cs)))]) (by simp [go_sem, fo, fr, fn, go, gr, gn]; done) ?_
                repeat' first
 | (apply s_mov; (focus ((conv => lhs; whnf); done)))
 | (apply s_gF; exact rfl)
 | (apply c_nil)
 | (apply s_pickT; exact rfl; (focus ((conv => lhs; whnf); done)))
 | (apply s_en; (focus (repeat (first | apply opds_nil | (apply opds_cons; (first | (focus ((conv => lhs; whnf); done)) | exact rfl))))); exact e_bld1 rfl rfl rfl rfl)
 | (apply s_en; (focus (repeat (first | apply opds_nil | (apply opds_cons; (first | (focus ((conv => lhs; whnf); done)) | exact rfl))))); exact e_app_sl rfl hil (by omega) (by unfold most; omega))
 | (apply c_seq)
 | (apply c_reg)
 | (apply c_condT; exact rfl)
 | (with_reducible apply k_c)
                all_goals
                  rcases Bool.eq_false_or_eq_true (tCnd g n i j) with hcn | hcn
                  all_goals first
                    | exact contF (by omega) hcn _ _ _ rfl
                    | (exfalso; have h9 := tCnd_T hcn his; clear contF hK9 hK; omega)
                    | (exfalso; have h9 := (tCnd_F hcn).1; rw [← his] at h9; simp at h9; done)
                    | (exfalso; obtain ⟨h7, h8, h9⟩ := tCnd_F hcn; clear contF hK9 hK; omega)
                    | (refine c_pre (vs := [.int .i64 hi, .ptr 0 0, .ptr 1 0, .int .i64 n, .ptr 2 0, .int .i64 (i : Int), .sl 5 1 0 (cs.length + 1 + 1), .int .i64 j]) (H' := [some (.box [.nilS, .nilS, .nilS]), some (.box [zo, zr, zn]), some (.box [.sl 3 1 0 1, .sl 4 1 0 1, .nilS]), some (.data (tO g (i + 1))), some (.data (tR g hi (i + 1))), some (.data (iL (c :: cs) ++ [.int .i64 (j : Int)]))]) (by simp [go_sem, fo, fr, fn, go, gr, gn]; done) ?_
                       repeat' first
 | (apply s_mov; (focus ((conv => lhs; whnf); done)))
 | (apply c_nil)
 | ((first | apply s_add | apply s_sub); exact rfl; omega)
 | (apply c_reg)
                       refine hK9 (j + 1) _ _ (by omega) (by omega) ?_
                       rw [hsuc, if_pos hcn]
                       simp only [rwV, rwH, List.cons_append]
                       exact (by simp [go_sem, fo, fr, fn, go, gr, gn, iL_app2]; done))
              · have hdrop : (getLL g.next (i : Int)).drop k = [] := List.drop_eq_nil_of_le (by omega)
                rw [hdrop] at his
                simp only [List.any_nil, Bool.or_false] at his
                clear hK3 hgk
                refine c_pre (vs := [.int .i64 hi, .ptr 0 0, .ptr 1 0, .int .i64 n, .ptr 2 0, .int .i64 (i : Int), .sl 5 1 0 (cs.length + 1), .int .i64 j, .bool true]) (H' := [some (.box [.nilS, .nilS, .nilS]), some (.box [zo, zr, zn]), some (.box [.sl 3 1 0 1, .sl 4 1 0 1, .nilS]), some (.data (tO g (i + 1))), some (.data (tR g hi (i + 1))), some (.data (iL (c :: cs)))]) (by simp [go_sem, fo, fr, fn, go, gr, gn]; done) ?_
                repeat' first
 | (apply s_mov; (focus ((conv => lhs; whnf); done)))
 | (apply s_gF; exact rfl)
 | (apply c_nil)
 | (apply s_pickT; exact rfl; (focus ((conv => lhs; whnf); done)))
 | (apply s_en; (focus (repeat (first | apply opds_nil | (apply opds_cons; (first | (focus ((conv => lhs; whnf); done)) | exact rfl))))); exact e_bld1 rfl rfl rfl rfl)
 | (apply s_en; (focus (repeat (first | apply opds_nil | (apply opds_cons; (first | (focus ((conv => lhs; whnf); done)) | exact rfl))))); exact e_app_sl rfl hil (by omega) (by unfold most; omega))
 | (apply c_seq)
 | (apply c_reg)
 | (apply c_condT; exact rfl)
 | (with_reducible apply k_c)
                all_goals
                  rcases Bool.eq_false_or_eq_true (tCnd g n i j) with hcn | hcn
                  all_goals first
                    | exact contF (by omega) hcn _ _ _ rfl
                    | (exfalso; have h9 := tCnd_T hcn his; clear contF hK9 hK; omega)
                    | (exfalso; have h9 := (tCnd_F hcn).1; rw [← his] at h9; simp at h9; done)
                    | (exfalso; obtain ⟨h7, h8, h9⟩ := tCnd_F hcn; clear contF hK9 hK; omega)
                    | (refine c_pre (vs := [.int .i64 hi, .ptr 0 0, .ptr 1 0, .int .i64 n, .ptr 2 0, .int .i64 (i : Int), .sl 5 1 0 (cs.length + 1 + 1), .int .i64 j]) (H' := [some (.box [.nilS, .nilS, .nilS]), some (.box [zo, zr, zn]), some (.box [.sl 3 1 0 1, .sl 4 1 0 1, .nilS]), some (.data (tO g (i + 1))), some (.data (tR g hi (i + 1))), some (.data (iL (c :: cs) ++ [.int .i64 (j : Int)]))]) (by simp [go_sem, fo, fr, fn, go, gr, gn]; done) ?_
                       repeat' first
 | (apply s_mov; (focus ((conv => lhs; whnf); done)))
 | (apply c_nil)
 | ((first | apply s_add | apply s_sub); exact rfl; omega)
 | (apply c_reg)
                       refine hK9 (j + 1) _ _ (by omega) (by omega) ?_
                       rw [hsuc, if_pos hcn]
                       simp only [rwV, rwH, List.cons_append]
                       exact (by simp [go_sem, fo, fr, fn, go, gr, gn, iL_app2]; done))
          · have hjn : j = n := by omega
            rw [hjn] at hC
            have hff : fzL (c :: cs) = .rd 1 (cs.length + 1) (iL (c :: cs)) := by simp [fzL]
            have eN := tN_succ g n i
            rw [hC, hff] at eN
            have hfz : ∀ call H, Heap.data? H 5 = some (iL (c :: cs)) → evE call H .frz [.sl 5 1 0 (cs.length + 1)] = some (.rd 1 (cs.length + 1) (iL (c :: cs)), H.set 5 none) := fun call H h => by
              have : (iL (c :: cs)).take (cs.length + 1) = iL (c :: cs) := List.take_of_length_le (by omega)
              simp [evE, h, hil, this]
            refine c_pre (vs := [.int .i64 hi, .ptr 0 0, .ptr 1 0, .int .i64 n, .ptr 2 0, .int .i64 (i : Int), .sl 5 1 0 (cs.length + 1)]) (H' := [some (.box [.nilS, .nilS, .nilS]), some (.box [zo, zr, zn]), some (.box [.sl 3 1 0 1, .sl 4 1 0 1, .nilS]), some (.data (tO g (i + 1))), some (.data (tR g hi (i + 1))), some (.data (iL (c :: cs)))]) (by simp [go_sem, fo, fr, fn, go, gr, gn]; done) ?_
            repeat' first
 | (apply c_nil)
 | (apply s_en; (focus (repeat (first | apply opds_nil | (apply opds_cons; (first | (focus ((conv => lhs; whnf); done)) | exact rfl))))); exact hfz _ _ rfl)
 | (apply s_en; (focus (repeat (first | apply opds_nil | (apply opds_cons; (first | (focus ((conv => lhs; whnf); done)) | exact rfl))))); exact e_bld1 rfl rfl rfl rfl)
 | (apply s_en; (focus (repeat (first | apply opds_nil | (apply opds_cons; (first | (focus ((conv => lhs; whnf); done)) | exact rfl))))); exact e_app_nil rfl (by omega) (by decide))
 | (apply isE; apply s_st; (focus (repeat (first | apply opds_nil | (apply opds_cons; (first | (focus ((conv => lhs; whnf); done)) | exact rfl))))); (focus ((conv => lhs; whnf); done)))
 | (apply s_pd; (focus ((conv => lhs; whnf); done)))
 | (apply c_reg)
 | (with_reducible apply k_c)
            refine c_pre (vs := [.int .i64 hi, .ptr 0 0, .ptr 1 0, .int .i64 n, .ptr 2 0, .int .i64 (i : Int)]) (H' := [some (.box [.nilS, .nilS, .nilS]), some (.box [zo, zr, zn]), some (.box [.sl 3 1 0 1, .sl 4 1 0 1, .sl 5 1 0 1]), some (.data (tO g (i + 1))), some (.data (tR g hi (i + 1))), some (.data [(.rd 1 (cs.length + 1) (iL (c :: cs)))])]) (by simp [go_sem, fo, fr, fn, go, gr, gn]; done) ?_
            repeat' first
 | (apply s_mov; (focus ((conv => lhs; whnf); done)))
 | (apply c_nil)
 | ((first | apply s_add | apply s_sub); exact rfl; omega)
 | (apply c_reg)
            refine hK (i + 1) _ _ (by omega) (by omega) ?_
            rw [hpT_s (by omega)]
            simp only [eN, e02, List.nil_append]
            exact (by simp [go_sem, fo, fr, fn, go, gr, gn, hi0]; done)
      · have e0 : tRow g n i 0 = [] := rfl
        rw [e0]
        simp only [rwV, rwH, eO, eR, Nat.zero_add]
        exact (by simp [go_sem, fo, fr, fn, go, gr, gn]; done)
  · have eO := tO_succ g i
    have eR := tR_succ g hi i
    have hOl := tO_len g i
    have hRl := tR_len g hi i
    have hnl := tN_len g n i
    rw [hpT_s hi0]
    repeat' first
 | (apply s_mov; (focus ((conv => lhs; whnf); done)))
 | (apply c_nil)
 | ((first | apply s_lss | apply s_leq | apply s_gtr | apply s_geq | apply s_eql | apply s_neq); exact rfl; all_goals (intro _; try (exfalso; omega)))
 | (apply s_cn; (focus (repeat (first | apply opds_nil | (apply opds_cons; (first | (focus ((conv => lhs; whnf); done)) | exact rfl))))); exact c54 hzo (by omega) _)
 | (apply s_cn; (focus (repeat (first | apply opds_nil | (apply opds_cons; (first | (focus ((conv => lhs; whnf); done)) | exact rfl))))); exact c54 hzr (by omega) _)
 | (apply s_cn; (focus (repeat (first | apply opds_nil | (apply opds_cons; (first | (focus ((conv => lhs; whnf); done)) | exact rfl))))); exact c31 (by omega) (by omega) _)
 | (apply s_en; (focus (repeat (first | apply opds_nil | (apply opds_cons; (first | (focus ((conv => lhs; whnf); done)) | exact rfl))))); exact e_bld1 rfl rfl rfl rfl)
 | (apply s_en; (focus (repeat (first | apply opds_nil | (apply opds_cons; (first | (focus ((conv => lhs; whnf); done)) | exact rfl))))); exact e_app_sl rfl (by assumption) (by omega) (by unfold most; omega))
 | (apply isE; apply s_st; (focus (repeat (first | apply opds_nil | (apply opds_cons; (first | (focus ((conv => lhs; whnf); done)) | exact rfl))))); (focus ((conv => lhs; whnf); done)))
 | (apply s_pd; (focus ((conv => lhs; whnf); done)))
 | (apply c_seq)
 | (apply c_reg)
 | (apply c_block)
 | (apply c_exitH)
 | (apply c_skip)
 | (apply c_condT; exact rfl)
 | (apply c_condF; exact rfl)
 | (with_reducible apply k_c)
    · skip
      refine c_loop ?_
      have hi16 : i < (n : Nat) := by omega
      refine loop_gc (σ := Nat) (fun j => [.int .i64 hi, .ptr 0 0, .ptr 1 0, .int .i64 n, .ptr 2 0, .int .i64 (i : Int), rwV 6 (tRow g n i j), .int .i64 j]) (fun j => rwH [some (.box [.nilS, .nilS, .nilS]), some (.box [zo, zr, zn]), some (.box [.sl 3 1 0 (i + 1), .sl 4 1 0 (i + 1), .sl 5 1 0 i]), some (.data (tO g (i + 1))), some (.data (tR g hi (i + 1))), some (.data (tN g n i))] (tRow g n i j)) (fun j => j ≤ n) (fun j => n - j) ?_ _ 0 _ _ (by omega) (by omega) ?_
      · intro j hj K9 hK9
        have hsuc := tRow_succ g n i j
        have hrl := tRow_len g n i j
        have hrw := hrow (i : Int)
        have hrl0 : g.next.length ≤ i → (getLL g.next (i : Int)).length = 0 := fun h => getLL_ge h
        generalize hC : tRow g n i j = C at *
        rcases C with _ | ⟨c, cs⟩
        · simp only [rwV, rwH]
          have hcs : True := trivial
          try simp only [List.cons_append, List.nil_append]
          have contF : j < n → tCnd g n i j = false → ∀ (X : Nat → KT) (Rt : KT) (env : Env), looks env [2, 6, 7, 8, 9, 10, 11, 12] = [.int .i64 hi, .ptr 0 0, .ptr 1 0, .int .i64 n, .ptr 2 0, .int .i64 (i : Int), AV.nilS, .int .i64 j] → RC (evF tab it m) it m sq28_6 0 K9 X Rt env [some (.box [.nilS, .nilS, .nilS]), some (.box [zo, zr, zn]), some (.box [.sl 3 1 0 (i + 1), .sl 4 1 0 (i + 1), .sl 5 1 0 i]), some (.data (tO g (i + 1))), some (.data (tR g hi (i + 1))), some (.data (tN g n i))] RES := by
            intro hjn hcn X Rt env hlk
            refine c_pre (vs := [.int .i64 hi, .ptr 0 0, .ptr 1 0, .int .i64 n, .ptr 2 0, .int .i64 (i : Int), AV.nilS, .int .i64 j]) (H' := [some (.box [.nilS, .nilS, .nilS]), some (.box [zo, zr, zn]), some (.box [.sl 3 1 0 (i + 1), .sl 4 1 0 (i + 1), .sl 5 1 0 i]), some (.data (tO g (i + 1))), some (.data (tR g hi (i + 1))), some (.data (tN g n i))]) (by rw [hlk]; exact (by simp [go_sem, fo, fr, fn, go, gr, gn]; done)) ?_
            repeat' first
 | (apply s_mov; (focus ((conv => lhs; whnf); done)))
 | (apply c_nil)
 | ((first | apply s_add | apply s_sub); exact rfl; omega)
 | (apply c_reg)
            refine hK9 (j + 1) _ _ (by omega) (by omega) ?_
            rw [hsuc, hcn]
            simp only [Bool.false_eq_true, if_false, rwV, rwH, List.cons_append, List.nil_append]
            exact (by simp [go_sem, fo, fr, fn, go, gr, gn]; done)
          repeat' first
 | (apply s_mov; (focus ((conv => lhs; whnf); done)))
 | (apply c_nil)
 | ((first | apply s_lss | apply s_leq | apply s_gtr | apply s_geq | apply s_eql | apply s_neq); exact rfl; all_goals (intro _; try (exfalso; omega)))
 | (apply c_seq)
 | (apply c_reg)
 | (apply c_block)
 | (apply c_exitH)
 | (apply c_skip)
 | (apply c_condT; exact rfl)
 | (apply c_condF; exact rfl)
 | (with_reducible apply k_c)
          · refine c_loop ?_
            refine loop_gc (σ := Nat × Bool) (fun s => [.int .i64 hi, .ptr 0 0, .ptr 1 0, .int .i64 n, .ptr 2 0, .int .i64 (i : Int), AV.nilS, .int .i64 j, .bool s.2, .int .i64 s.1]) (fun _ => [some (.box [.nilS, .nilS, .nilS]), some (.box [zo, zr, zn]), some (.box [.sl 3 1 0 (i + 1), .sl 4 1 0 (i + 1), .sl 5 1 0 i]), some (.data (tO g (i + 1))), some (.data (tR g hi (i + 1))), some (.data (tN g n i))])
              (fun s => s.1 ≤ (getLL g.next (i : Int)).length ∧ (s.2 || ((getLL g.next (i : Int)).drop s.1).any fun u => mdF u n == (j : Int)) = tHit g n i j) (fun s => (getLL g.next (i : Int)).length - s.1) ?_ _ (0, false) _ _ ⟨by simp, by simp [tHit]⟩ (by simp; omega) (by simp [go_sem, fo, fr, fn, go, gr, gn]; done)
            intro ⟨k, is⟩ ⟨hk, his⟩ K3 hK3
            simp only at hk his hK3 ⊢
            have hgk := fun h => @drop_getI (getLL g.next (i : Int)) k h
            cases is
            · skip
              repeat' first
 | (apply s_mov; (focus ((conv => lhs; whnf); done)))
 | (apply s_gT; exact rfl)
 | (apply s_gF; exact rfl)
 | (apply c_nil)
 | (apply s_pickT; exact rfl; (focus ((conv => lhs; whnf); done)))
 | (apply s_pickF; exact rfl; (focus ((conv => lhs; whnf); done)))
 | ((first | apply s_lss | apply s_leq | apply s_gtr | apply s_geq | apply s_eql | apply s_neq); exact rfl; all_goals (intro _; try (exfalso; omega)))
 | ((first | apply s_add | apply s_sub); exact rfl; omega)
 | (apply s_cn; (focus (repeat (first | apply opds_nil | (apply opds_cons; (first | (focus ((conv => lhs; whnf); done)) | exact rfl))))); exact c31 (by omega) (by omega) _)
 | (apply s_len; (focus ((conv => lhs; whnf); done)); (first | assumption | (apply IsLL.at; assumption; omega)))
 | (apply s_lenLL; (focus ((conv => lhs; whnf); done)); assumption)
 | (apply s_idx; (focus ((conv => lhs; whnf); done)); exact rfl; (first | assumption | (apply IsLL.at; assumption; omega)); omega)
 | (apply s_idxLL; (focus ((conv => lhs; whnf); done)); exact rfl; assumption; omega)
 | (apply s_ldI; exact rfl; omega)
 | (apply s_ldLL; exact rfl; assumption; omega)
 | (apply s_pd; (focus ((conv => lhs; whnf); done)))
 | (apply c_seq)
 | (apply c_reg)
 | (apply c_block)
 | (apply c_exitH)
 | (apply c_skip)
 | (apply c_condT; exact rfl)
 | (apply c_condF; exact rfl)
 | (with_reducible apply k_c)
              · refine hK3 (k + 1, true) _ _ ⟨by simp; omega, ?_⟩ (by simp; omega) (by simp [go_sem, fo, fr, fn, go, gr, gn]; done)
                have hmm : mdF (getI (getLL g.next i) k) n = j := by assumption
                rw [← his, hgk (by omega)]
                simp [hmm]
              · refine hK3 (k + 1, false) _ _ ⟨by simp; omega, ?_⟩ (by simp; omega) (by simp [go_sem, fo, fr, fn, go, gr, gn]; done)
                have hmm : ¬ mdF (getI (getLL g.next i) k) n = j := by assumption
                rw [← his, hgk (by omega)]
                simp [hmm]
              · have hdrop : (getLL g.next (i : Int)).drop k = [] := List.drop_eq_nil_of_le (by omega)
                rw [hdrop] at his
                simp only [List.any_nil, Bool.or_false] at his
                clear hK3 hgk
                refine c_pre (vs := [.int .i64 hi, .ptr 0 0, .ptr 1 0, .int .i64 n, .ptr 2 0, .int .i64 (i : Int), AV.nilS, .int .i64 j, .bool false]) (H' := [some (.box [.nilS, .nilS, .nilS]), some (.box [zo, zr, zn]), some (.box [.sl 3 1 0 (i + 1), .sl 4 1 0 (i + 1), .sl 5 1 0 i]), some (.data (tO g (i + 1))), some (.data (tR g hi (i + 1))), some (.data (tN g n i))]) (by simp [go_sem, fo, fr, fn, go, gr, gn]; done) ?_
                repeat' first
 | (apply s_mov; (focus ((conv => lhs; whnf); done)))
 | (apply s_gT; exact rfl)
 | (apply s_gF; exact rfl)
 | (apply c_nil)
 | (apply s_pickT; exact rfl; (focus ((conv => lhs; whnf); done)))
 | (apply s_pickF; exact rfl; (focus ((conv => lhs; whnf); done)))
 | ((first | apply s_lss | apply s_leq | apply s_gtr | apply s_geq | apply s_eql | apply s_neq); exact rfl; all_goals (intro _; try (exfalso; omega)))
 | (apply s_en; (focus (repeat (first | apply opds_nil | (apply opds_cons; (first | (focus ((conv => lhs; whnf); done)) | exact rfl))))); exact e_bld1 rfl rfl rfl rfl)
 | (apply s_en; (focus (repeat (first | apply opds_nil | (apply opds_cons; (first | (focus ((conv => lhs; whnf); done)) | exact rfl))))); exact e_app_nil rfl (by omega) (by decide))
 | (apply s_len; (focus ((conv => lhs; whnf); done)); (first | assumption | (apply IsLL.at; assumption; omega)))
 | (apply s_lenLL; (focus ((conv => lhs; whnf); done)); assumption)
 | (apply s_idxLL; (focus ((conv => lhs; whnf); done)); exact rfl; assumption; omega)
 | (apply s_ldLL; exact rfl; assumption; omega)
 | (apply s_pd; (focus ((conv => lhs; whnf); done)))
 | (apply c_seq)
 | (apply c_reg)
 | (apply c_skip)
 | (apply c_condT; exact rfl)
 | (apply c_condF; exact rfl)
 | (with_reducible apply k_c)
                all_goals
                  rcases Bool.eq_false_or_eq_true (tCnd g n i j) with hcn | hcn
                  all_goals first
                    | exact contF (by omega) hcn _ _ _ rfl
                    | (exfalso; have h9 := tCnd_T hcn his; clear contF hK9 hK; omega)
                    | (exfalso; have h9 := (tCnd_F hcn).1; rw [← his] at h9; simp at h9; done)
                    | (exfalso; obtain ⟨h7, h8, h9⟩ := tCnd_F hcn; clear contF hK9 hK; omega)
                    | (refine c_pre (vs := [.int .i64 hi, .ptr 0 0, .ptr 1 0, .int .i64 n, .ptr 2 0, .int .i64 (i : Int), .sl 6 1 0 1, .int .i64 j]) (H' := [some (.box [.nilS, .nilS, .nilS]), some (.box [zo, zr, zn]), some (.box [.sl 3 1 0 (i + 1), .sl 4 1 0 (i + 1), .sl 5 1 0 i]), some (.data (tO g (i + 1))), some (.data (tR g hi (i + 1))), some (.data (tN g n i)), some (.data [.int .i64 (j : Int)])]) (by simp [go_sem, fo, fr, fn, go, gr, gn]; done) ?_
                       repeat' first
 | (apply s_mov; (focus ((conv => lhs; whnf); done)))
 | (apply c_nil)
 | ((first | apply s_add | apply s_sub); exact rfl; omega)
 | (apply c_reg)
                       refine hK9 (j + 1) _ _ (by omega) (by omega) ?_
                       rw [hsuc, if_pos hcn]
                       simp only [rwV, rwH, iL, List.map_cons, List.map_nil, List.nil_append]
                       exact (by simp [go_sem, fo, fr, fn, go, gr, gn, iL_app2]; done))
              · have hdrop : (getLL g.next (i : Int)).drop k = [] := List.drop_eq_nil_of_le (by omega)
                rw [hdrop] at his
                simp only [List.any_nil, Bool.or_false] at his
                clear hK3 hgk
                refine c_pre (vs := [.int .i64 hi, .ptr 0 0, .ptr 1 0, .int .i64 n, .ptr 2 0, .int .i64 (i : Int), AV.nilS, .int .i64 j, .bool false]) (H' := [some (.box [.nilS, .nilS, .nilS]), some (.box [zo, zr, zn]), some (.box [.sl 3 1 0 (i + 1), .sl 4 1 0 (i + 1), .sl 5 1 0 i]), some (.data (tO g (i + 1))), some (.data (tR g hi (i + 1))), some (.data (tN g n i))]) (by simp [go_sem, fo, fr, fn, go, gr, gn]; done) ?_
                repeat' first
 | (apply s_mov; (focus ((conv => lhs; whnf); done)))
 | (apply s_gT; exact rfl)
 | (apply s_gF; exact rfl)
 | (apply c_nil)
 | (apply s_pickT; exact rfl; (focus ((conv => lhs; whnf); done)))
 | (apply s_pickF; exact rfl; (focus ((conv => lhs; whnf); done)))
 | ((first | apply s_lss | apply s_leq | apply s_gtr | apply s_geq | apply s_eql | apply s_neq); exact rfl; all_goals (intro _; try (exfalso; omega)))
 | (apply s_en; (focus (repeat (first | apply opds_nil | (apply opds_cons; (first | (focus ((conv => lhs; whnf); done)) | exact rfl))))); exact e_bld1 rfl rfl rfl rfl)
 | (apply s_en; (focus (repeat (first | apply opds_nil | (apply opds_cons; (first | (focus ((conv => lhs; whnf); done)) | exact rfl))))); exact e_app_nil rfl (by omega) (by decide))
 | (apply s_lenLL; (focus ((conv => lhs; whnf); done)); assumption)
 | (apply s_pd; (focus ((conv => lhs; whnf); done)))
 | (apply c_seq)
 | (apply c_reg)
 | (apply c_skip)
 | (apply c_condT; exact rfl)
 | (apply c_condF; exact rfl)
 | (with_reducible apply k_c)
                all_goals
                  rcases Bool.eq_false_or_eq_true (tCnd g n i j) with hcn | hcn
                  all_goals first
                    | exact contF (by omega) hcn _ _ _ rfl
                    | (exfalso; have h9 := tCnd_T hcn his; clear contF hK9 hK; omega)
                    | (exfalso; have h9 := (tCnd_F hcn).1; rw [← his] at h9; simp at h9; done)
                    | (exfalso; obtain ⟨h7, h8, h9⟩ := tCnd_F hcn; clear contF hK9 hK; omega)
                    | (refine c_pre (vs := [.int .i64 hi, .ptr 0 0, .ptr 1 0, .int .i64 n, .ptr 2 0, .int .i64 (i : Int), .sl 6 1 0 1, .int .i64 j]) (H' := [some (.box [.nilS, .nilS, .nilS]), some (.box [zo, zr, zn]), some (.box [.sl 3 1 0 (i + 1), .sl 4 1 0 (i + 1), .sl 5 1 0 i]), some (.data (tO g (i + 1))), some (.data (tR g hi (i + 1))), some (.data (tN g n i)), some (.data [.int .i64 (j : Int)])]) (by simp [go_sem, fo, fr, fn, go, gr, gn]; done) ?_
                       repeat' first
 | (apply s_mov; (focus ((conv => lhs; whnf); done)))
 | (apply c_nil)
 | ((first | apply s_add | apply s_sub); exact rfl; omega)
 | (apply c_reg)
                       refine hK9 (j + 1) _ _ (by omega) (by omega) ?_
                       rw [hsuc, if_pos hcn]
                       simp only [rwV, rwH, iL, List.map_cons, List.map_nil, List.nil_append]
                       exact (by simp [go_sem, fo, fr, fn, go, gr, gn, iL_app2]; done))
            · skip
              repeat' first
 | (apply s_mov; (focus ((conv => lhs; whnf); done)))
 | (apply s_gT; exact rfl)
 | (apply s_gF; exact rfl)
 | (apply s_gFD; exact rfl)
 | (apply c_nil)
 | (apply s_pickT; exact rfl; (focus ((conv => lhs; whnf); done)))
 | (apply s_pickF; exact rfl; (focus ((conv => lhs; whnf); done)))
 | ((first | apply s_lss | apply s_leq | apply s_gtr | apply s_geq | apply s_eql | apply s_neq); exact rfl; all_goals (intro _; try (exfalso; omega)))
 | ((first | apply s_add | apply s_sub); exact rfl; omega)
 | (apply s_len; (focus ((conv => lhs; whnf); done)); (first | assumption | (apply IsLL.at; assumption; omega)))
 | (apply s_lenLL; (focus ((conv => lhs; whnf); done)); assumption)
 | (apply s_idxLL; (focus ((conv => lhs; whnf); done)); exact rfl; assumption; omega)
 | (apply s_ldLL; exact rfl; assumption; omega)
 | (apply s_pd; (focus ((conv => lhs; whnf); done)))
 | (apply c_seq)
 | (apply c_reg)
 | (apply c_block)
 | (apply c_exitH)
 | (apply c_skip)
 | (apply c_condT; exact rfl)
 | (apply c_condF; exact rfl)
 | (with_reducible apply k_c)
              · refine hK3 (k + 1, true) _ _ ⟨by simp; omega, ?_⟩ (by simp; omega) (by simp [go_sem, fo, fr, fn, go, gr, gn]; done)
                rw [← his]
                simp
              · have hdrop : (getLL g.next (i : Int)).drop k = [] := List.drop_eq_nil_of_le (by omega)
                rw [hdrop] at his
                simp only [List.any_nil, Bool.or_false] at his
                clear hK3 hgk
                refine c_pre (vs := [.int .i64 hi, .ptr 0 0, .ptr 1 0, .int .i64 n, .ptr 2 0, .int .i64 (i : Int), AV.nilS, .int .i64 j, .bool true]) (H' := [some (.box [.nilS, .nilS, .nilS]), some (.box [zo, zr, zn]), some (.box [.sl 3 1 0 (i + 1), .sl 4 1 0 (i + 1), .sl 5 1 0 i]), some (.data (tO g (i + 1))), some (.data (tR g hi (i + 1))), some (.data (tN g n i))]) (by simp [go_sem, fo, fr, fn, go, gr, gn]; done) ?_
                repeat' first
 | (apply s_mov; (focus ((conv => lhs; whnf); done)))
 | (apply s_gF; exact rfl)
 | (apply c_nil)
 | (apply s_pickT; exact rfl; (focus ((conv => lhs; whnf); done)))
 | (apply s_en; (focus (repeat (first | apply opds_nil | (apply opds_cons; (first | (focus ((conv => lhs; whnf); done)) | exact rfl))))); exact e_bld1 rfl rfl rfl rfl)
 | (apply s_en; (focus (repeat (first | apply opds_nil | (apply opds_cons; (first | (focus ((conv => lhs; whnf); done)) | exact rfl))))); exact e_app_nil rfl (by omega) (by decide))
 | (apply c_seq)
 | (apply c_reg)
 | (apply c_condT; exact rfl)
 | (with_reducible apply k_c)
                all_goals
                  rcases Bool.eq_false_or_eq_true (tCnd g n i j) with hcn | hcn
                  all_goals first
                    | exact contF (by omega) hcn _ _ _ rfl
                    | (exfalso; have h9 := tCnd_T hcn his; clear contF hK9 hK; omega)
                    | (exfalso; have h9 := (tCnd_F hcn).1; rw [← his] at h9; simp at h9; done)
                    | (exfalso; obtain ⟨h7, h8, h9⟩ := tCnd_F hcn; clear contF hK9 hK; omega)
                    | (refine c_pre (vs := [.int .i64 hi, .ptr 0 0, .ptr 1 0, .int .i64 n, .ptr 2 0, .int .i64 (i : Int), .sl 6 1 0 1, .int .i64 j]) (H' := [some (.box [.nilS, .nilS, .nilS]), some (.box [zo, zr, zn]), some (.box [.sl 3 1 0 (i + 1), .sl 4 1 0 (i + 1), .sl 5 1 0 i]), some (.data (tO g (i + 1))), some (.data (tR g hi (i + 1))), some (.data (tN g n i)), some (.data [.int .i64 (j : Int)])]) (by simp [go_sem, fo, fr, fn, go, gr, gn]; done) ?_
                       repeat' first
 | (apply s_mov; (focus ((conv => lhs; whnf); done)))
 | (apply c_nil)
 | ((first | apply s_add | apply s_sub); exact rfl; omega)
 | (apply c_reg)
                       refine hK9 (j + 1) _ _ (by omega) (by omega) ?_
                       rw [hsuc, if_pos hcn]
                       simp only [rwV, rwH, iL, List.map_cons, List.map_nil, List.nil_append]
                       exact (by simp [go_sem, fo, fr, fn, go, gr, gn, iL_app2]; done))
              · have hdrop : (getLL g.next (i : Int)).drop k = [] := List.drop_eq_nil_of_le (by omega)
                rw [hdrop] at his
                simp only [List.any_nil, Bool.or_false] at his
                clear hK3 hgk
                refine c_pre (vs := [.int .i64 hi, .ptr 0 0, .ptr 1 0, .int .i64 n, .ptr 2 0, .int .i64 (i : Int), AV.nilS, .int .i64 j, .bool true]) (H' := [some (.box [.nilS, .nilS, .nilS]), some (.box [zo, zr, zn]), some (.box [.sl 3 1 0 (i + 1), .sl 4 1 0 (i + 1), .sl 5 1 0 i]), some (.data (tO g (i + 1))), some (.data (tR g hi (i + 1))), some (.data (tN g n i))]) (by simp [go_sem, fo, fr, fn, go, gr, gn]; done) ?_
                repeat' first
 | (apply s_mov; (focus ((conv => lhs; whnf); done)))
 | (apply s_gF; exact rfl)
 | (apply c_nil)
 | (apply s_pickT; exact rfl; (focus ((conv => lhs; whnf); done)))
 | (apply s_en; (focus (repeat (first | apply opds_nil | (apply opds_cons; (first | (focus ((conv => lhs; whnf); done)) | exact rfl))))); exact e_bld1 rfl rfl rfl rfl)
 | (apply s_en; (focus (repeat (first | apply opds_nil | (apply opds_cons; (first | (focus ((conv => lhs; whnf); done)) | exact rfl))))); exact e_app_nil rfl (by omega) (by decide))
 | (apply c_seq)
 | (apply c_reg)
 | (apply c_condT; exact rfl)
 | (with_reducible apply k_c)
                all_goals
                  rcases Bool.eq_false_or_eq_true (tCnd g n i j) with hcn | hcn
                  all_goals first
                    | exact contF (by omega) hcn _ _ _ rfl
                    | (exfalso; have h9 := tCnd_T hcn his; clear contF hK9 hK; omega)
                    | (exfalso; have h9 := (tCnd_F hcn).1; rw [← his] at h9; simp at h9; done)
                    | (exfalso; obtain ⟨h7, h8, h9⟩ := tCnd_F hcn; clear contF hK9 hK; omega)
                    | (refine c_pre (vs := [.int .i64 hi, .ptr 0 0, .ptr 1 0, .int .i64 n, .ptr 2 0, .int .i64 (i : Int), .sl 6 1 0 1, .int .i64 j]) (H' := [some (.box [.nilS, .nilS, .nilS]), some (.box [zo, zr, zn]), some (.box [.sl 3 1 0 (i + 1), .sl 4 1 0 (i + 1), .sl 5 1 0 i]), some (.data (tO g (i + 1))), some (.data (tR g hi (i + 1))), some (.data (tN g n i)), some (.data [.int .i64 (j : Int)])]) (by simp [go_sem, fo, fr, fn, go, gr, gn]; done) ?_
                       repeat' first
 | (apply s_mov; (focus ((conv => lhs; whnf); done)))
 | (apply c_nil)
 | ((first | apply s_add | apply s_sub); exact rfl; omega)
 | (apply c_reg)
                       refine hK9 (j + 1) _ _ (by omega) (by omega) ?_
                       rw [hsuc, if_pos hcn]
                       simp only [rwV, rwH, iL, List.map_cons, List.map_nil, List.nil_append]
                       exact (by simp [go_sem, fo, fr, fn, go, gr, gn, iL_app2]; done))
          · have hjn : j = n := by omega
            rw [hjn] at hC
            have hff : fzL [] = .nilS := by simp [fzL]
            have eN := tN_succ g n i
            rw [hC, hff] at eN
            refine c_pre (vs := [.int .i64 hi, .ptr 0 0, .ptr 1 0, .int .i64 n, .ptr 2 0, .int .i64 (i : Int), AV.nilS]) (H' := [some (.box [.nilS, .nilS, .nilS]), some (.box [zo, zr, zn]), some (.box [.sl 3 1 0 (i + 1), .sl 4 1 0 (i + 1), .sl 5 1 0 i]), some (.data (tO g (i + 1))), some (.data (tR g hi (i + 1))), some (.data (tN g n i))]) (by simp [go_sem, fo, fr, fn, go, gr, gn]; done) ?_
            repeat' first
 | (apply c_nil)
 | (apply s_en; (focus (repeat (first | apply opds_nil | (apply opds_cons; (first | (focus ((conv => lhs; whnf); done)) | exact rfl))))); exact frzN _ _)
 | (apply s_en; (focus (repeat (first | apply opds_nil | (apply opds_cons; (first | (focus ((conv => lhs; whnf); done)) | exact rfl))))); exact e_bld1 rfl rfl rfl rfl)
 | (apply s_en; (focus (repeat (first | apply opds_nil | (apply opds_cons; (first | (focus ((conv => lhs; whnf); done)) | exact rfl))))); exact e_app_sl rfl hnl (by omega) (by unfold most; omega))
 | (apply isE; apply s_st; (focus (repeat (first | apply opds_nil | (apply opds_cons; (first | (focus ((conv => lhs; whnf); done)) | exact rfl))))); (focus ((conv => lhs; whnf); done)))
 | (apply s_pd; (focus ((conv => lhs; whnf); done)))
 | (apply c_reg)
 | (with_reducible apply k_c)
            refine c_pre (vs := [.int .i64 hi, .ptr 0 0, .ptr 1 0, .int .i64 n, .ptr 2 0, .int .i64 (i : Int)]) (H' := [some (.box [.nilS, .nilS, .nilS]), some (.box [zo, zr, zn]), some (.box [.sl 3 1 0 (i + 1), .sl 4 1 0 (i + 1), .sl 5 1 0 (i + 1)]), some (.data (tO g (i + 1))), some (.data (tR g hi (i + 1))), some (.data (tN g n i ++ [.nilS]))]) (by simp [go_sem, fo, fr, fn, go, gr, gn]; done) ?_
            repeat' first
 | (apply s_mov; (focus ((conv => lhs; whnf); done)))
 | (apply c_nil)
 | ((first | apply s_add | apply s_sub); exact rfl; omega)
 | (apply c_reg)
            refine hK (i + 1) _ _ (by omega) (by omega) ?_
            rw [hpT_s (by omega)]
            simp only [eN, List.nil_append]
            exact (by simp [go_sem, fo, fr, fn, go, gr, gn]; done)
        · simp only [rwV, rwH]
          have hil : (iL (c :: cs)).length = cs.length + 1 := by rw [iL_len]; rfl
          have hcs : cs.length + 1 ≤ 16 := by simp at hrl; omega
          try simp only [List.cons_append, List.nil_append]
          have contF : j < n → tCnd g n i j = false → ∀ (X : Nat → KT) (Rt : KT) (env : Env), looks env [2, 6, 7, 8, 9, 10, 11, 12] = [.int .i64 hi, .ptr 0 0, .ptr 1 0, .int .i64 n, .ptr 2 0, .int .i64 (i : Int), .sl 6 1 0 (cs.length + 1), .int .i64 j] → RC (evF tab it m) it m sq28_6 0 K9 X Rt env [some (.box [.nilS, .nilS, .nilS]), some (.box [zo, zr, zn]), some (.box [.sl 3 1 0 (i + 1), .sl 4 1 0 (i + 1), .sl 5 1 0 i]), some (.data (tO g (i + 1))), some (.data (tR g hi (i + 1))), some (.data (tN g n i)), some (.data (iL (c :: cs)))] RES := by
            intro hjn hcn X Rt env hlk
            refine c_pre (vs := [.int .i64 hi, .ptr 0 0, .ptr 1 0, .int .i64 n, .ptr 2 0, .int .i64 (i : Int), .sl 6 1 0 (cs.length + 1), .int .i64 j]) (H' := [some (.box [.nilS, .nilS, .nilS]), some (.box [zo, zr, zn]), some (.box [.sl 3 1 0 (i + 1), .sl 4 1 0 (i + 1), .sl 5 1 0 i]), some (.data (tO g (i + 1))), some (.data (tR g hi (i + 1))), some (.data (tN g n i)), some (.data (iL (c :: cs)))]) (by rw [hlk]; exact (by simp [go_sem, fo, fr, fn, go, gr, gn]; done)) ?_
            repeat' first
 | (apply s_mov; (focus ((conv => lhs; whnf); done)))
 | (apply c_nil)
 | ((first | apply s_add | apply s_sub); exact rfl; omega)
 | (apply c_reg)
            refine hK9 (j + 1) _ _ (by omega) (by omega) ?_
            rw [hsuc, hcn]
            simp only [Bool.false_eq_true, if_false, rwV, rwH, List.cons_append, List.nil_append]
            exact (by simp [go_sem, fo, fr, fn, go, gr, gn]; done)
          repeat' first
 | (apply s_mov; (focus ((conv => lhs; whnf); done)))
 | (apply c_nil)
 | ((first | apply s_lss | apply s_leq | apply s_gtr | apply s_geq | apply s_eql | apply s_neq); exact rfl; all_goals (intro _; try (exfalso; omega)))
 | (apply c_seq)
 | (apply c_reg)
 | (apply c_block)
 | (apply c_exitH)
 | (apply c_skip)
 | (apply c_condT; exact rfl)
 | (apply c_condF; exact rfl)
 | (with_reducible apply k_c)
          · refine c_loop ?_
            refine loop_gc (σ := Nat × Bool) (fun s => [.int .i64 hi, .ptr 0 0, .ptr 1 0, .int .i64 n, .ptr 2 0, .int .i64 (i : Int), .sl 6 1 0 (cs.length + 1), .int .i64 j, .bool s.2, .int .i64 s.1]) (fun _ => [some (.box [.nilS, .nilS, .nilS]), some (.box [zo, zr, zn]), some (.box [.sl 3 1 0 (i + 1), .sl 4 1 0 (i + 1), .sl 5 1 0 i]), some (.data (tO g (i + 1))), some (.data (tR g hi (i + 1))), some (.data (tN g n i)), some (.data (iL (c :: cs)))])
              (fun s => s.1 ≤ (getLL g.next (i : Int)).length ∧ (s.2 || ((getLL g.next (i : Int)).drop s.1).any fun u => mdF u n == (j : Int)) = tHit g n i j) (fun s => (getLL g.next (i : Int)).length - s.1) ?_ _ (0, false) _ _ ⟨by simp, by simp [tHit]⟩ (by simp; omega) (by simp [go_sem, fo, fr, fn, go, gr, gn]; done)
            intro ⟨k, is⟩ ⟨hk, his⟩ K3 hK3
            simp only at hk his hK3 ⊢
            have hgk := fun h => @drop_getI (getLL g.next (i : Int)) k h
            cases is
            · skip
              repeat' first
 | (apply s_mov; (focus ((conv => lhs; whnf); done)))
 | (apply s_gT; exact rfl)
 | (apply s_gF; exact rfl)
 | (apply c_nil)
 | (apply s_pickT; exact rfl; (focus ((conv => lhs; whnf); done)))
 | (apply s_pickF; exact rfl; (focus ((conv => lhs; whnf); done)))
 | ((first | apply s_lss | apply s_leq | apply s_gtr | apply s_geq | apply s_eql | apply s_neq); exact rfl; all_goals (intro _; try (exfalso; omega)))
 | ((first | apply s_add | apply s_sub); exact rfl; omega)
 | (apply s_cn; (focus (repeat (first | apply opds_nil | (apply opds_cons; (first | (focus ((conv => lhs; whnf); done)) | exact rfl))))); exact c31 (by omega) (by omega) _)
 | (apply s_len; (focus ((conv => lhs; whnf); done)); (first | assumption | (apply IsLL.at; assumption; omega)))
 | (apply s_lenLL; (focus ((conv => lhs; whnf); done)); assumption)
 | (apply s_idx; (focus ((conv => lhs; whnf); done)); exact rfl; (first | assumption | (apply IsLL.at; assumption; omega)); omega)
 | (apply s_idxLL; (focus ((conv => lhs; whnf); done)); exact rfl; assumption; omega)
 | (apply s_ldI; exact rfl; omega)
 | (apply s_ldLL; exact rfl; assumption; omega)
 | (apply s_pd; (focus ((conv => lhs; whnf); done)))
 | (apply c_seq)
 | (apply c_reg)
 | (apply c_block)
 | (apply c_exitH)
 | (apply c_skip)
 | (apply c_condT; exact rfl)
 | (apply c_condF; exact rfl)
 | (with_reducible apply k_c)
              · refine hK3 (k + 1, true) _ _ ⟨by simp; omega, ?_⟩ (by simp; omega) (by simp [go_sem, fo, fr, fn, go, gr, gn]; done)
                have hmm : mdF (getI (getLL g.next i) k) n = j := by assumption
                rw [← his, hgk (by omega)]
                simp [hmm]
              · refine hK3 (k + 1, false) _ _ ⟨by simp; omega, ?_⟩ (by simp; omega) (by simp [go_sem, fo, fr, fn, go, gr, gn]; done)
                have hmm : ¬ mdF (getI (getLL g.next i) k) n = j := by assumption
                rw [← his, hgk (by omega)]
                simp [hmm]
              · have hdrop : (getLL g.next (i : Int)).drop k = [] := List.drop_eq_nil_of_le (by omega)
                rw [hdrop] at his
                simp only [List.any_nil, Bool.or_false] at his
                clear hK3 hgk
                refine c_pre (vs := [.int .i64 hi, .ptr 0 0, .ptr 1 0, .int .i64 n, .ptr 2 0, .int .i64 (i : Int), .sl 6 1 0 (cs.length + 1), .int .i64 j, .bool false]) (H' := [some (.box [.nilS, .nilS, .nilS]), some (.box [zo, zr, zn]), some (.box [.sl 3 1 0 (i + 1), .sl 4 1 0 (i + 1), .sl 5 1 0 i]), some (.data (tO g (i + 1))), some (.data (tR g hi (i + 1))), some (.data (tN g n i)), some (.data (iL (c :: cs)))]) (by simp [go_sem, fo, fr, fn, go, gr, gn]; done) ?_
                repeat' first
 | (apply s_mov; (focus ((conv => lhs; whnf); done)))
 | (apply s_gT; exact rfl)
 | (apply s_gF; exact rfl)
 | (apply c_nil)
 | (apply s_pickT; exact rfl; (focus ((conv => lhs; whnf); done)))
 | (apply s_pickF; exact rfl; (focus ((conv => lhs; whnf); done)))
 | ((first | apply s_lss | apply s_leq | apply s_gtr | apply s_geq | apply s_eql | apply s_neq); exact rfl; all_goals (intro _; try (exfalso; omega)))
 | (apply s_en; (focus (repeat (first | apply opds_nil | (apply opds_cons; (first | (focus ((conv => lhs; whnf); done)) | exact rfl))))); exact e_bld1 rfl rfl rfl rfl)
 | (apply s_en; (focus (repeat (first | apply opds_nil | (apply opds_cons; (first | (focus ((conv => lhs; whnf); done)) | exact rfl))))); exact e_app_sl rfl hil (by omega) (by unfold most; omega))
 | (apply s_len; (focus ((conv => lhs; whnf); done)); (first | assumption | (apply IsLL.at; assumption; omega)))
 | (apply s_lenLL; (focus ((conv => lhs; whnf); done)); assumption)
 | (apply s_idxLL; (focus ((conv => lhs; whnf); done)); exact rfl; assumption; omega)
 | (apply s_ldLL; exact rfl; assumption; omega)
 | (apply s_pd; (focus ((conv => lhs; whnf); done)))
 | (apply c_seq)
 | (apply c_reg)
 | (apply c_skip)
 | (apply c_condT; exact rfl)
 | (apply c_condF; exact rfl)
 | (with_reducible apply k_c)
                all_goals
                  rcases Bool.eq_false_or_eq_true (tCnd g n i j) with hcn | hcn
                  all_goals first
                    | exact contF (by omega) hcn _ _ _ rfl
                    | (exfalso; have h9 := tCnd_T hcn his; clear contF hK9 hK; omega)
                    | (exfalso; have h9 := (tCnd_F hcn).1; rw [← his] at h9; simp at h9; done)
                    | (exfalso; obtain ⟨h7, h8, h9⟩ := tCnd_F hcn; clear contF hK9 hK; omega)
                    | (refine c_pre (vs := [.int .i64 hi, .ptr 0 0, .ptr 1 0, .int .i64 n, .ptr 2 0, .int .i64 (i : Int), .sl 6 1 0 (cs.length + 1 + 1), .int .i64 j]) (H' := [some (.box [.nilS, .nilS, .nilS]), some (.box [zo, zr, zn]), some (.box [.sl 3 1 0 (i + 1), .sl 4 1 0 (i + 1), .sl 5 1 0 i]), some (.data (tO g (i + 1))), some (.data (tR g hi (i + 1))), some (.data (tN g n i)), some (.data (iL (c :: cs) ++ [.int .i64 (j : Int)]))]) (by simp [go_sem, fo, fr, fn, go, gr, gn]; done) ?_
                       repeat' first
 | (apply s_mov; (focus ((conv => lhs; whnf); done)))
 | (apply c_nil)
 | ((first | apply s_add | apply s_sub); exact rfl; omega)
 | (apply c_reg)
                       refine hK9 (j + 1) _ _ (by omega) (by omega) ?_
                       rw [hsuc, if_pos hcn]
                       simp only [rwV, rwH, List.cons_append]
                       exact (by simp [go_sem, fo, fr, fn, go, gr, gn, iL_app2]; done))
              · have hdrop : (getLL g.next (i : Int)).drop k = [] := List.drop_eq_nil_of_le (by omega)
                rw [hdrop] at his
                simp only [List.any_nil, Bool.or_false] at his
                clear hK3 hgk
                refine c_pre (vs := [.int .i64 hi, .ptr 0 0, .ptr 1 0, .int .i64 n, .ptr 2 0, .int .i64 (i : Int), .sl 6 1 0 (cs.length + 1), .int .i64 j, .bool false]) (H' := [some (.box [.nilS, .nilS, .nilS]), some (.box [zo, zr, zn]), some (.box [.sl 3 1 0 (i + 1), .sl 4 1 0 (i + 1), .sl 5 1 0 i]), some (.data (tO g (i + 1))), some (.data (tR g hi (i + 1))), some (.data (tN g n i)), some (.data (iL (c :: cs)))]) (by simp [go_sem, fo, fr, fn, go, gr, gn]; done) ?_
                repeat' first
 | (apply s_mov; (focus ((conv => lhs; whnf); done)))
 | (apply s_gT; exact rfl)
 | (apply s_gF; exact rfl)
 | (apply c_nil)
 | (apply s_pickT; exact rfl; (focus ((conv => lhs; whnf); done)))
 | (apply s_pickF; exact rfl; (focus ((conv => lhs; whnf); done)))
 | ((first | apply s_lss | apply s_leq | apply s_gtr | apply s_geq | apply s_eql | apply s_neq); exact rfl; all_goals (intro _; try (exfalso; omega)))
 | (apply s_en; (focus (repeat (first | apply opds_nil | (apply opds_cons; (first | (focus ((conv => lhs; whnf); done)) | exact rfl))))); exact e_bld1 rfl rfl rfl rfl)
 | (apply s_en; (focus (repeat (first | apply opds_nil | (apply opds_cons; (first | (focus ((conv => lhs; whnf); done)) | exact rfl))))); exact e_app_sl rfl hil (by omega) (by unfold most; omega))
 | (apply s_lenLL; (focus ((conv => lhs; whnf); done)); assumption)
 | (apply s_pd; (focus ((conv => lhs; whnf); done)))
 | (apply c_seq)
 | (apply c_reg)
 | (apply c_skip)
 | (apply c_condT; exact rfl)
 | (apply c_condF; exact rfl)
 | (with_reducible apply k_c)
                all_goals
                  rcases Bool.eq_false_or_eq_true (tCnd g n i j) with hcn | hcn
                  all_goals first
                    | exact contF (by omega) hcn _ _ _ rfl
                    | (exfalso; have h9 := tCnd_T hcn his; clear contF hK9 hK; omega)
                    | (exfalso; have h9 := (tCnd_F hcn).1; rw [← his] at h9; simp at h9; done)
                    | (exfalso; obtain ⟨h7, h8, h9⟩ := tCnd_F hcn; clear contF hK9 hK; omega)
                    | (refine c_pre (vs := [.int .i64 hi, .ptr 0 0, .ptr 1 0, .int .i64 n, .ptr 2 0, .int .i64 (i : Int), .sl 6 1 0 (cs.length + 1 + 1), .int .i64 j]) (H' := [some (.box [.nilS, .nilS, .nilS]), some (.box [zo, zr, zn]), some (.box [.sl 3 1 0 (i + 1), .sl 4 1 0 (i + 1), .sl 5 1 0 i]), some (.data (tO g (i + 1))), some (.data (tR g hi (i + 1))), some (.data (tN g n i)), some (.data (iL (c :: cs) ++ [.int .i64 (j : Int)]))]) (by simp [go_sem, fo, fr, fn, go, gr, gn]; done) ?_
                       repeat' first
 | (apply s_mov; (focus ((conv => lhs; whnf); done)))
 | (apply c_nil)
 | ((first | apply s_add | apply s_sub); exact rfl; omega)
 | (apply c_reg)
                       refine hK9 (j + 1) _ _ (by omega) (by omega) ?_
                       rw [hsuc, if_pos hcn]
                       simp only [rwV, rwH, List.cons_append]
                       exact (by simp [go_sem, fo, fr, fn, go, gr, gn, iL_app2]; done))
            · skip
              repeat' first
 | (apply s_mov; (focus ((conv => lhs; whnf); done)))
 | (apply s_gT; exact rfl)
 | (apply s_gF; exact rfl)
 | (apply s_gFD; exact rfl)
 | (apply c_nil)
 | (apply s_pickT; exact rfl; (focus ((conv => lhs; whnf); done)))
 | (apply s_pickF; exact rfl; (focus ((conv => lhs; whnf); done)))
 | ((first | apply s_lss | apply s_leq | apply s_gtr | apply s_geq | apply s_eql | apply s_neq); exact rfl; all_goals (intro _; try (exfalso; omega)))
 | ((first | apply s_add | apply s_sub); exact rfl; omega)
 | (apply s_len; (focus ((conv => lhs; whnf); done)); (first | assumption | (apply IsLL.at; assumption; omega)))
 | (apply s_lenLL; (focus ((conv => lhs; whnf); done)); assumption)
 | (apply s_idxLL; (focus ((conv => lhs; whnf); done)); exact rfl; assumption; omega)
 | (apply s_ldLL; exact rfl; assumption; omega)
 | (apply s_pd; (focus ((conv => lhs; whnf); done)))
 | (apply c_seq)
 | (apply c_reg)
 | (apply c_block)
 | (apply c_exitH)
 | (apply c_skip)
 | (apply c_condT; exact rfl)
 | (apply c_condF; exact rfl)
 | (with_reducible apply k_c)
              · refine hK3 (k + 1, true) _ _ ⟨by simp; omega, ?_⟩ (by simp; omega) (by simp [go_sem, fo, fr, fn, go, gr, gn]; done)
                rw [← his]
                simp
              · have hdrop : (getLL g.next (i : Int)).drop k = [] := List.drop_eq_nil_of_le (by omega)
                rw [hdrop] at his
                simp only [List.any_nil, Bool.or_false] at his
                clear hK3 hgk
                refine c_pre (vs := [.int .i64 hi, .ptr 0 0, .ptr 1 0, .int .i64 n, .ptr 2 0, .int .i64 (i : Int), .sl 6 1 0 (cs.length + 1), .int .i64 j, .bool true]) (H' := [some (.box [.nilS, .nilS, .nilS]), some (.box [zo, zr, zn]), some (.box [.sl 3 1 0 (i + 1), .sl 4 1 0 (i + 1), .sl 5 1 0 i]), some (.data (tO g (i + 1))), some (.data (tR g hi (i + 1))), some (.data (tN g n i)), some (.data (iL (c :: cs)))]) (by simp [go_sem, fo, fr, fn, go, gr, gn]; done) ?_
                repeat' first
 | (apply s_mov; (focus ((conv => lhs; whnf); done)))
 | (apply s_gF; exact rfl)
 | (apply c_nil)
 | (apply s_pickT; exact rfl; (focus ((conv => lhs; whnf); done)))
 | (apply s_en; (focus (repeat (first | apply opds_nil | (apply opds_cons; (first | (focus ((conv => lhs; whnf); done)) | exact rfl))))); exact e_bld1 rfl rfl rfl rfl)
 | (apply s_en; (focus (repeat (first | apply opds_nil | (apply opds_cons; (first | (focus ((conv => lhs; whnf); done)) | exact rfl))))); exact e_app_sl rfl hil (by omega) (by unfold most; omega))
 | (apply c_seq)
 | (apply c_reg)
 | (apply c_condT; exact rfl)
 | (with_reducible apply k_c)
                all_goals
                  rcases Bool.eq_false_or_eq_true (tCnd g n i j) with hcn | hcn
                  all_goals first
                    | exact contF (by omega) hcn _ _ _ rfl
                    | (exfalso; have h9 := tCnd_T hcn his; clear contF hK9 hK; omega)
                    | (exfalso; have h9 := (tCnd_F hcn).1; rw [← his] at h9; simp at h9; done)
                    | (exfalso; obtain ⟨h7, h8, h9⟩ := tCnd_F hcn; clear contF hK9 hK; omega)
                    | (refine c_pre (vs := [.int .i64 hi, .ptr 0 0, .ptr 1 0, .int .i64 n, .ptr 2 0, .int .i64 (i : Int), .sl 6 1 0 (cs.length + 1 + 1), .int .i64 j]) (H' := [some (.box [.nilS, .nilS, .nilS]), some (.box [zo, zr, zn]), some (.box [.sl 3 1 0 (i + 1), .sl 4 1 0 (i + 1), .sl 5 1 0 i]), some (.data (tO g (i + 1))), some (.data (tR g hi (i + 1))), some (.data (tN g n i)), some (.data (iL (c :: cs) ++ [.int .i64 (j : Int)]))]) (by simp [go_sem, fo, fr, fn, go, gr, gn]; done) ?_
                       repeat' first
 | (apply s_mov; (focus ((conv => lhs; whnf); done)))
 | (apply c_nil)
 | ((first | apply s_add | apply s_sub); exact rfl; omega)
 | (apply c_reg)
                       refine hK9 (j + 1) _ _ (by omega) (by omega) ?_
                       rw [hsuc, if_pos hcn]
                       simp only [rwV, rwH, List.cons_append]
                       exact (by simp [go_sem, fo, fr, fn, go, gr, gn, iL_app2]; done))
              · have hdrop : (getLL g.next (i : Int)).drop k = [] := List.drop_eq_nil_of_le (by omega)
                rw [hdrop] at his
                simp only [List.any_nil, Bool.or_false] at his
                clear hK3 hgk
                refine c_pre (vs := [.int .i64 hi, .ptr 0 0, .ptr 1 0, .int .i64 n, .ptr 2 0, .int .i64 (i : Int), .sl 6 1 0 (cs.length + 1), .int .i64 j, .bool true]) (H' := [some (.box [.nilS, .nilS, .nilS]), some (.box [zo, zr, zn]), some (.box [.sl 3 1 0 (i + 1), .sl 4 1 0 (i + 1), .sl 5 1 0 i]), some (.data (tO g (i + 1))), some (.data (tR g hi (i + 1))), some (.data (tN g n i)), some (.data (iL (c :: cs)))]) (by simp [go_sem, fo, fr, fn, go, gr, gn]; done) ?_
                repeat' first
 | (apply s_mov; (focus ((conv => lhs; whnf); done)))
 | (apply s_gF; exact rfl)
 | (apply c_nil)
 | (apply s_pickT; exact rfl; (focus ((conv => lhs; whnf); done)))
 | (apply s_en; (focus (repeat (first | apply opds_nil | (apply opds_cons; (first | (focus ((conv => lhs; whnf); done)) | exact rfl))))); exact e_bld1 rfl rfl rfl rfl)
 | (apply s_en; (focus (repeat (first | apply opds_nil | (apply opds_cons; (first | (focus ((conv => lhs; whnf); done)) | exact rfl))))); exact e_app_sl rfl hil (by omega) (by unfold most; omega))
 | (apply c_seq)
 | (apply c_reg)
 | (apply c_condT; exact rfl)
 | (with_reducible apply k_c)
                all_goals
                  rcases Bool.eq_false_or_eq_true (tCnd g n i j) with hcn | hcn
                  all_goals first
                    | exact contF (by omega) hcn _ _ _ rfl
                    | (exfalso; have h9 := tCnd_T hcn his; clear contF hK9 hK; omega)
                    | (exfalso; have h9 := (tCnd_F hcn).1; rw [← his] at h9; simp at h9; done)
                    | (exfalso; obtain ⟨h7, h8, h9⟩ := tCnd_F hcn; clear contF hK9 hK; omega)
                    | (refine c_pre (vs := [.int .i64 hi, .ptr 0 0, .ptr 1 0, .int .i64 n, .ptr 2 0, .int .i64 (i : Int), .sl 6 1 0 (cs.length + 1 + 1), .int .i64 j]) (H' := [some (.box [.nilS, .nilS, .nilS]), some (.box [zo, zr, zn]), some (.box [.sl 3 1 0 (i + 1), .sl 4 1 0 (i + 1), .sl 5 1 0 i]), some (.data (tO g (i + 1))), some (.data (tR g hi (i + 1))), some (.data (tN g n i)), some (.data (iL (c :: cs) ++ [.int .i64 (j : Int)]))]) (by simp [go_sem, fo, fr, fn, go, gr, gn]; done) ?_
                       repeat' first
 | (apply s_mov; (focus ((conv => lhs; whnf); done)))
 | (apply c_nil)
 | ((first | apply s_add | apply s_sub); exact rfl; omega)
 | (apply c_reg)
                       refine hK9 (j + 1) _ _ (by omega) (by omega) ?_
                       rw [hsuc, if_pos hcn]
                       simp only [rwV, rwH, List.cons_append]
                       exact (by simp [go_sem, fo, fr, fn, go, gr, gn, iL_app2]; done))
          · have hjn : j = n := by omega
            rw [hjn] at hC
            have hff : fzL (c :: cs) = .rd 1 (cs.length + 1) (iL (c :: cs)) := by simp [fzL]
            have eN := tN_succ g n i
            rw [hC, hff] at eN
            have hfz : ∀ call H, Heap.data? H 6 = some (iL (c :: cs)) → evE call H .frz [.sl 6 1 0 (cs.length + 1)] = some (.rd 1 (cs.length + 1) (iL (c :: cs)), H.set 6 none) := fun call H h => by
              have : (iL (c :: cs)).take (cs.length + 1) = iL (c :: cs) := List.take_of_length_le (by omega)
              simp [evE, h, hil, this]
            refine c_pre (vs := [.int .i64 hi, .ptr 0 0, .ptr 1 0, .int .i64 n, .ptr 2 0, .int .i64 (i : Int), .sl 6 1 0 (cs.length + 1)]) (H' := [some (.box [.nilS, .nilS, .nilS]), some (.box [zo, zr, zn]), some (.box [.sl 3 1 0 (i + 1), .sl 4 1 0 (i + 1), .sl 5 1 0 i]), some (.data (tO g (i + 1))), some (.data (tR g hi (i + 1))), some (.data (tN g n i)), some (.data (iL (c :: cs)))]) (by simp [go_sem, fo, fr, fn, go, gr, gn]; done) ?_
            repeat' first
 | (apply c_nil)
 | (apply s_en; (focus (repeat (first | apply opds_nil | (apply opds_cons; (first | (focus ((conv => lhs; whnf); done)) | exact rfl))))); exact hfz _ _ rfl)
 | (apply s_en; (focus (repeat (first | apply opds_nil | (apply opds_cons; (first | (focus ((conv => lhs; whnf); done)) | exact rfl))))); exact e_bld1 rfl rfl rfl rfl)
 | (apply s_en; (focus (repeat (first | apply opds_nil | (apply opds_cons; (first | (focus ((conv => lhs; whnf); done)) | exact rfl))))); exact e_app_sl rfl hnl (by omega) (by unfold most; omega))
 | (apply isE; apply s_st; (focus (repeat (first | apply opds_nil | (apply opds_cons; (first | (focus ((conv => lhs; whnf); done)) | exact rfl))))); (focus ((conv => lhs; whnf); done)))
 | (apply s_pd; (focus ((conv => lhs; whnf); done)))
 | (apply c_reg)
 | (with_reducible apply k_c)
            refine c_pre (vs := [.int .i64 hi, .ptr 0 0, .ptr 1 0, .int .i64 n, .ptr 2 0, .int .i64 (i : Int)]) (H' := [some (.box [.nilS, .nilS, .nilS]), some (.box [zo, zr, zn]), some (.box [.sl 3 1 0 (i + 1), .sl 4 1 0 (i + 1), .sl 5 1 0 (i + 1)]), some (.data (tO g (i + 1))), some (.data (tR g hi (i + 1))), some (.data (tN g n i ++ [(.rd 1 (cs.length + 1) (iL (c :: cs)))]))]) (by simp [go_sem, fo, fr, fn, go, gr, gn]; done) ?_
            repeat' first
 | (apply s_mov; (focus ((conv => lhs; whnf); done)))
 | (apply c_nil)
 | ((first | apply s_add | apply s_sub); exact rfl; omega)
 | (apply c_reg)
            refine hK (i + 1) _ _ (by omega) (by omega) ?_
            rw [hpT_s (by omega)]
            simp only [eN, List.nil_append]
            exact (by simp [go_sem, fo, fr, fn, go, gr, gn]; done)
      · have e0 : tRow g n i 0 = [] := rfl
        rw [e0]
        simp only [rwV, rwH, eO, eR, Nat.zero_add]
        exact (by simp [go_sem, fo, fr, fn, go, gr, gn]; done)
    · have hn' : n = i := by omega
      subst hn'
      subst hRES
      refine c_pre (vs := [.ptr 0 0, .ptr 1 0]) (H' := [some (.box [.nilS, .nilS, .nilS]), some (.box [.sl 2 1 0 n, .sl 3 1 0 n, .sl 4 1 0 n]), some (.data (tO g n)), some (.data (tR g hi n)), some (.data (tN g n n))]) (by simp [go_sem, fo, fr, fn, go, gr, gn]; done) ?_
      repeat' first
 | (apply c_nil)
 | (apply isE; apply s_st; (focus (repeat (first | apply opds_nil | (apply opds_cons; (first | (focus ((conv => lhs; whnf); done)) | exact rfl))))); (focus ((conv => lhs; whnf); done)))
 | (apply s_pd; (focus ((conv => lhs; whnf); done)))
 | (apply c_seq)
 | (apply c_reg)
 | (apply c_ret)
 | (with_reducible apply k_c)
      simp [finish, ress, resOf, ldc, getRow, Heap.cells?, HO.cells?, wholeOf, look, tupOf, bindEnv, putRow, cells_agg, idFreeL, AV.idFree, idf_sl, gc, subHeap, reach_agg, reach_new, reach_end, rangeL, roots, boxCells, nodupB, posOf, renL, AV.ren, pickO, renH, renO]
end Go.AM.Pa
