/- A part of the proof: Q37. -/
import Derived.Test.YtmeajfgjbebkiaaQ35
import Derived.Test.YtmeajfgjbebkiaaQ36
import Derived.Test.YtmeajfgjbebkiaaQ18
set_option linter.unusedSectionVars false
set_option linter.unusedVariables false
set_option linter.unusedSimpArgs false
namespace Go.AM.Pa
attribute [local go_sem] gc subHeap reach_skip ren_free reach_new reach_newp reach_end rangeL roots boxCells nodupB posOf renL AV.ren pickO renH renO looks look bindEnv envOf reach_int reach_bool reach_nilS reach_rd putRow cells_sl cells_int cells_bool cells_nilS cells_rd cells_agg reach_agg reach_tup idFreeL idf_sl idf_ptr idf_int idf_bool idf_nilS idf_rd
theorem walk_end {a : Gm} (hg : Good a) {pl : List Int} {p : Int} (hp0 : 0 ≤ p ∧ p ≤ (a.next.length : Int) - 1) (hpl : OkPlan a pl) : (walk pl 30 [] p).1.idxOf (walk pl 30 [] p).2 < (walk pl 30 [] p).1.length ∧ (walk pl 30 [] p).1.length ≤ 24 := by
  have hg1 := hg.1; have hg2 := hg.2.1; have hg3 := hg.2.2.1
  have hpl1 := hpl.1
  generalize hnn : a.next.length = n at *
  have hrange : ∀ v : Int, 0 ≤ v ∧ v < n → 0 ≤ getI pl v ∧ getI pl v < n := fun v hv => by
    obtain ⟨k, rfl⟩ : ∃ k : Nat, v = (k : Int) := ⟨v.toNat, by omega⟩
    exact row_mem hg hnn (v := k) (by omega) _ (hpl.2 k (by omega))
  have hend : ∀ (k : Nat) (l : List Int) (v : Int), Way n l v → cf (mk n l) < k → (walk pl k l v).2 ∈ (walk pl k l v).1 ∧ Way n (walk pl k l v).1 (walk pl k l v).2 := by
    intro k
    induction k with
    | zero => intro l v _ h; omega
    | succ k ih =>
      intro l v hw hc
      simp only [walk]
      split
      · exact ⟨by assumption, hw⟩
      · rename_i hnv
        have := cf_app hw.2.1 hw.1 hnv
        exact ih _ _ (way_succ hw hnv (hrange v hw.1)) (by omega)
  have hcf0 : cf (mk n []) < 30 := by
    have := cf_le (mk n [])
    rw [mk_len] at this
    omega
  obtain ⟨hv2, hwF⟩ := hend 30 [] p (way_zero (by omega)) hcf0
  exact ⟨List.idxOf_lt_length_of_mem hv2, by have := hwF.2.2; omega⟩
/-! plan -/
def plA (g : Gm) (l : List Int) (i : Nat) : Int := getI (getLL g.next i) (mdF (getI l i) (getLL g.next i).length)
def plL (g : Gm) (l : List Int) (i : Nat) : List Int := (List.range i).map (plA g l)
theorem plL_succ (g : Gm) (l : List Int) (i : Nat) : iL (plL g l (i + 1)) = iL (plL g l i) ++ [.int .i64 (plA g l i)] := by simp [plL, iL, List.range_succ]
theorem plL_len (g : Gm) (l : List Int) (i : Nat) : (plL g l i).length = i := by simp [plL]
theorem plL_ok {g : Gm} (hg : Good g) (hr : ∀ l ∈ g.next, l.length < 50) (l : List Int) : OkPlan g (plL g l g.next.length) := by
  refine ⟨plL_len _ _ _, fun v hv => ?_⟩
  rw [plL, getI_map hv, plA]
  have h1 := List.length_pos_iff.2 (row_ne hg rfl hv)
  have h2 := getLL_lt hr (by omega) (v : Int)
  have h3 := mdF_range (x := getI l v) (n := (getLL g.next v).length) (by omega)
  obtain ⟨k, hk⟩ : ∃ k : Nat, mdF (getI l v) (getLL g.next v).length = k := ⟨_, (Int.toNat_of_nonneg h3.1).symm⟩
  rw [hk] at h3 ⊢
  exact getI_mem (by omega)
set_option maxHeartbeats 4000000
theorem f32 {x t : AV} {g : Gm} {l : List Int} (hx : IsG x g) (ht : IsL t l) (hg : Good g) (hr : ∀ l ∈ g.next, l.length < 50) {m : Nat} (hm : 102 ≤ m) :
    evF tab it m 32 [x, t] [] = some (.sl 0 1 0 g.next.length, [some (.data (iL (plL g l g.next.length)))]) := by
  obtain ⟨m, rfl⟩ : ∃ j, m = j + 1 := ⟨m - 1, by omega⟩
  obtain ⟨xo, xr, xn, rfl, ho, hrr, hn⟩ := id hx
  have fo := ho.free; have fr := hrr.free; have fn := hn.free; have ft := ht.free
  have ob : ∀ call, evE call [] (.box false) [.agg [xo, xr, xn]] = some (.ptr 0 0, [some (.box [xo, xr, xn])]) := fun call => by simp [evE, AV.cells, oneL, ho.one, hrr.one, hn.one, mkHO]
  have hg1 := hg.1; have hg2 := hg.2.1
  have hrow : ∀ i : Nat, i < g.next.length → 1 ≤ (getLL g.next i).length ∧ (getLL g.next i).length < 50 := fun i hi => ⟨List.length_pos_iff.2 (row_ne hg rfl hi), getLL_lt hr (by omega) _⟩
  refine f_enter rfl rfl ?_
  repeat' first
 | (apply s_mov; (focus ((conv => lhs; whnf); done)))
 | (apply c_nil)
 | (apply s_en; (focus (repeat (first | apply opds_nil | (apply opds_cons; (first | (focus ((conv => lhs; whnf); done)) | exact rfl))))); exact ob _)
 | (apply c_seq)
 | (apply c_reg)
 | (apply c_block)
 | (with_reducible apply k_c)
  refine c_loop ?_
  refine loop_gc (σ := Nat) (fun i => [t, .ptr 0 0, ownV 1 (iL (plL g l i)), .int .i64 i]) (fun i => [some (.box [xo, xr, xn])] ++ owH (iL (plL g l i))) (fun i => i ≤ g.next.length) (fun i => g.next.length - i) ?_ _ 0 _ _ (by omega) (by omega) (by simp [go_sem, fo, fr, fn, ft, plL, ownV, owH, iL]; done)
  intro i hi K hK
  have hsi := plL_succ g l i
  have hsl := plL_len g l i
  have hsn : i = g.next.length → plL g l i = plL g l g.next.length := fun e => by rw [e]
  generalize plL g l i = pl at *
  have hap : ∀ call v, evE call ([some (.box [xo, xr, xn])] ++ owH (iL pl)) (.app false 1 8) [ownV 1 (iL pl), .rd 1 1 [v]] = _ := fun call v => e_app_own rfl (by rw [iL_len]; omega)
  have hll : (i : Int) < g.owner.length → IsL (llAt xn i) (getLL g.next i) := fun h => hn.at (by omega)
  have hmd : (i : Int) < g.owner.length → 0 ≤ mdF (getI l i) (getLL g.next i).length ∧ mdF (getI l i) (getLL g.next i).length < (getLL g.next i).length := fun h => mdF_range (by have := hrow i (by omega); omega)
  repeat' first
 | (apply s_mov; (focus ((conv => lhs; whnf); done)))
 | (apply c_nil)
 | ((first | apply s_lss | apply s_leq | apply s_gtr | apply s_geq | apply s_eql | apply s_neq); exact rfl; all_goals (intro _; try (exfalso; omega)))
 | ((first | apply s_add | apply s_sub); exact rfl; omega)
 | (apply s_cn; (focus (repeat (first | apply opds_nil | (apply opds_cons; (first | (focus ((conv => lhs; whnf); done)) | exact rfl))))); exact c54 ht (by omega) _)
 | (apply s_cn; (focus (repeat (first | apply opds_nil | (apply opds_cons; (first | (focus ((conv => lhs; whnf); done)) | exact rfl))))); exact c31 (by have := hrow i (by omega); omega) (by omega) _)
 | (apply s_idx; (focus ((conv => lhs; whnf); done)); exact rfl; (exact hll (by assumption)); (exact hmd (by assumption)))
 | (apply s_ldI; exact rfl; (exact hmd (by assumption)))
 | (apply s_en; (focus (repeat (first | apply opds_nil | (apply opds_cons; (first | (focus ((conv => lhs; whnf); done)) | exact rfl))))); exact e_bld1 rfl rfl rfl rfl)
 | (apply s_en; (focus (repeat (first | apply opds_nil | (apply opds_cons; (first | (focus ((conv => lhs; whnf); done)) | exact rfl))))); exact hap _ _)
 | (apply s_len; (focus ((conv => lhs; whnf); done)); (first | assumption | (apply IsLL.at; assumption; omega)))
 | (apply s_idxLL; (focus ((conv => lhs; whnf); done)); exact rfl; assumption; omega)
 | (apply s_ldLL; exact rfl; assumption; omega)
 | (apply s_pd; (focus ((conv => lhs; whnf); done)))
 | (apply c_seq)
 | (apply c_reg)
 | (apply c_block)
 | (apply c_exitH)
 | (apply c_skip)
 | (apply c_condT; exact rfl)
 | (apply c_condF; exact rfl)
 | (with_reducible apply k_c)
  · refine hK (i + 1) _ _ (by omega) (by omega) ?_
    rw [hsi]
    unfold plA
    rcases pl with _ | ⟨c, cs⟩ <;> exact (by simp [go_sem, fo, fr, fn, ft, ownV, owH, owK, iL]; done)
  have hin : i = g.next.length := by omega
  rw [← hsn hin, ← hin]
  rcases pl with _ | ⟨c, cs⟩
  · simp at hsl; omega
  · refine c_pre (vs := [.sl 0 1 0 (cs.length + 1)]) (H' := [some (.data (iL (c :: cs)))]) (by simp [go_sem, fo, fr, fn, ft, ownV, owH, iL]; done) ?_
    repeat' first
 | (apply s_mov; (focus ((conv => lhs; whnf); done)))
 | (apply c_nil)
 | (apply c_seq)
 | (apply c_reg)
 | (apply c_ret)
 | (with_reducible apply k_c)
    have e : i = cs.length + 1 := by simpa using hsl.symm
    simp [finish, ress, resOf, look, tupOf, gc, subHeap, reach_new, reach_end, rangeL, roots, boxCells, nodupB, posOf, renL, AV.ren, pickO, renH, renO, bindEnv, e]
theorem c32 {x t : AV} {g : Gm} {l : List Int} (hx : IsG x g) (ht : IsL t l) (hg : Good g) (hr : ∀ l ∈ g.next, l.length < 50) {m : Nat} (hm : 102 ≤ m) (H : Heap) :
    callPure (evF tab it m) true 32 [x, t] H = some (fzL (plL g l g.next.length), H) := by
  refine callPure_frz (by simp [idFreeL, hx.free, ht.free]) (by simp) (f32 hx ht hg hr hm) ?_
  have h1 := hg.1
  have h2 := plL_len g l g.next.length
  rw [fzL_ne h2 h1.1]
  exact frz_slI rfl h2
theorem c32o {x t : AV} {g : Gm} {l : List Int} (hx : IsG x g) (ht : IsL t l) (hg : Good g) (hr : ∀ l ∈ g.next, l.length < 50) {m : Nat} (hm : 102 ≤ m) (H : Heap) :
    callPure (evF tab it m) false 32 [x, t] H = some (.sl H.length 1 0 g.next.length, H ++ [some (.data (iL (plL g l g.next.length)))]) := by
  have ff : idFreeL [x, t] = true := by simp [idFreeL, hx.free, ht.free]
  simp [callPure, frzL_free H 40 [x, t] (by simp) ff, f32 hx ht hg hr hm, ff, shiftH, AV.ren, renH, renO]
end Go.AM.Pa
