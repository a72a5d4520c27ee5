/- A part of the proof: Q51. -/
import Derived.Test.YtmeajfgjbebkiaaQ48
import Derived.Test.YtmeajfgjbebkiaaQ16
set_option linter.unusedSectionVars false
set_option linter.unusedVariables false
set_option linter.unusedSimpArgs false
namespace Go.AM.Pa
attribute [local go_sem] gc subHeap reach_skip ren_free reach_new reach_newp reach_end rangeL roots boxCells nodupB posOf renL AV.ren pickO renH renO looks look bindEnv envOf reach_int reach_bool reach_nilS reach_rd putRow cells_sl cells_int cells_bool cells_nilS cells_rd cells_agg reach_agg reach_tup idFreeL idf_sl idf_ptr idf_int idf_bool idf_nilS idf_rd
/-! ref.Right -/
/-- what its first loop asks -/
def okR (g : Gm) (W M : List Int) (v : Nat) : Prop := (0 ≤ getI W v ∧ getI W v ≤ 1) ∧ (getI g.owner v = getI W v → getI M v ∈ getLL g.next v) ∧ (getI g.owner v ≠ getI W v → getI M v = -1)
/-- what its second loop asks of a position of the region -/
def clR (g : Gm) (W M : List Int) (p : Int) (v : Nat) : Prop := getI W v = p → ∀ u ∈ rgRow g W M p v, getI W u = p
theorem pre_iff {g : Gm} {W M : List Int} (hl : W.length = g.next.length ∧ M.length = g.next.length) (h1 : ∀ v : Nat, v < g.next.length → okR g W M v) : Pre g W M ↔ ∀ p : Int, p = 0 ∨ p = 1 → ∀ v : Nat, v < g.next.length → clR g W M p v := by
  constructor
  · rintro ⟨-, -, h⟩ p hp v hv hw u hu
    have hk := h v hv
    rw [rgRow, if_pos hw] at hu
    split at hu
    · rename_i ho
      simp at hu
      rw [hu]; exact (hk.2.1 (ho.trans hw.symm)).2.trans hw
    · rename_i ho
      exact ((hk.2.2 fun e => ho (e.trans hw)).2 u hu).trans hw
  · intro h
    refine ⟨hl.1, hl.2, fun v hv => ?_⟩
    obtain ⟨k1, k2, k3⟩ := h1 v hv
    have hc := h (getI W v) (by omega) v hv rfl
    rw [rgRow, if_pos rfl] at hc
    refine ⟨k1, fun ho => ⟨k2 ho, ?_⟩, fun ho => ⟨k3 ho, fun u hu => ?_⟩⟩
    · rw [if_pos ho] at hc
      exact hc _ List.mem_cons_self
    · rw [if_neg ho] at hc
      exact hc u hu
/-- the graph of a region, as far as it is made -/
def rgA (g : Gm) (W M : List Int) (p : Int) (i : Nat) : List AV := (List.range g.next.length).map fun j => if j < i then fzL (rgRow g W M p j) else .nilS
theorem rgA_len (g : Gm) (W M : List Int) (p : Int) (i : Nat) : (rgA g W M p i).length = g.next.length := by simp [rgA]
theorem rgA_zero (g : Gm) (W M : List Int) (p : Int) : rgA g W M p 0 = List.replicate g.next.length .nilS := by
  refine List.ext_getElem (by simp [rgA]) fun i h1 h2 => ?_
  simp [rgA]
theorem rgA_all (g : Gm) (W M : List Int) (p : Int) : rgA g W M p g.next.length = (rgN g W M p).map fzL := by
  refine List.ext_getElem (by simp [rgA, rgN]) fun i h1 h2 => ?_
  simp [rgN] at h2
  simp [rgA, rgN, h2]
theorem rgA_set {g : Gm} {W M : List Int} {p : Int} {i : Nat} {x : AV} (hx : fzL (rgRow g W M p i) = x) : (rgA g W M p i).set i x = rgA g W M p (i + 1) := by
  refine List.ext_getElem (by simp [rgA]) fun j h1 h2 => ?_
  rw [List.getElem_set]
  simp only [rgA, List.getElem_map, List.getElem_range]
  by_cases e : i = j
  · subst e; simp [hx]
  · rw [if_neg e]
    by_cases h : j < i
    · rw [if_pos h, if_pos (by omega)]
    · rw [if_neg h, if_neg (by omega)]
theorem rgA_skip {g : Gm} {W M : List Int} {p : Int} {i : Nat} (hx : rgRow g W M p i = []) : rgA g W M p i = rgA g W M p (i + 1) := by
  refine List.ext_getElem (by simp [rgA]) fun j h1 h2 => ?_
  simp only [rgA, List.getElem_map, List.getElem_range]
  by_cases h : j < i
  · rw [if_pos h, if_pos (by omega)]
  · rw [if_neg h]
    by_cases e : j = i
    · subst e; rw [if_pos (by omega), hx, fz_nil]
    · rw [if_neg (by omega)]
theorem e_mkN {call : CallF} {H : Heap} {n : Nat} (h : n ≤ most) : evE call H (.mkS 1 24 [.nilS]) [.int .i64 n, .int .i64 n] = some (.sl H.length 1 0 n, H ++ [some (.data (List.replicate n .nilS))]) := by
  have : (n : Int) ≤ most := by omega
  have h2 : ∀ n : Nat, repl n [.nilS] = List.replicate n .nilS := fun n => by
    induction n with
    | zero => rfl
    | succ n ih => simp [repl, ih, List.replicate_succ]
  simp [evE, this, h2]
theorem putRow_V {b : List AV} {i : Nat} {v : AV} (hi : i < b.length) : putRow b i [v] = b.set i v := by
  simp only [putRow, List.length_cons, List.length_nil]
  rw [List.set_eq_take_append_cons_drop]
  simp [hi]
theorem e_stV {call : CallF} {H : Heap} {id : Nat} {i : Int} {b : List AV} {v : AV} (h1 : v.cells = [v]) (h2 : v.one = true) (h4 : v.idFree = true) (hH : H.data? id = some b) (hi : i.toNat < b.length) : evE call H (.st 1) [.ptr id (0 + i.toNat * 1), v] = some (.undef, H.set id (some (.data (b.set i.toNat v)))) := by
  have h : 0 + i.toNat * 1 = i.toNat := by omega
  have h3 : H[id]? = some (some (.data b)) := by
    unfold Heap.data? at hH
    split at hH
    · rename_i e; cases hH; exact e
    · cases hH
  have h5 : i.toNat + 1 ≤ b.length := by omega
  simp [evE, stAt, h, h1, oneL, h2, h3, idFreeL, h4, h5, putRow_V hi]
theorem p_ldV {H : Heap} {id : Nat} {i : Int} {b : List AV} {v : AV} (hH : H.cells? id = some b) (hi : b[i.toNat]? = some v) : evP H (.ld false 1) [.ptr id (0 + i.toNat * 1)] = some v := by
  have h : 0 + i.toNat * 1 = i.toNat := by omega
  obtain ⟨h1, h2⟩ := List.getElem?_eq_some_iff.1 hi
  have h5 : i.toNat + 1 ≤ b.length := by omega
  simp only [evP, ldc, h, getRow, hH, Option.bind_some, if_pos h5]
  rw [List.drop_eq_getElem_cons h1, h2]
  simp [wholeOf]
theorem c56s {y : AV} {nx : List (List Int)} {rk : List Int} {p : Int} {id n : Nat} {H : Heap} (hy : IsL y rk) (hg : Gra nx rk) (hn : nx.length = n) (h1 : 1 ≤ n) {m : Nat} (hm : 70 ≤ m) (hH : H.data? id = some (nx.map fzL)) :
    callPure (evF tab it m) true 56 [.sl id 1 0 n, y, .int .i64 p] H = some (.rd 1 n (bL (badL nx rk p)), H) := by
  have hz := isLL_fz nx
  rw [fzLL_ne hn h1] at hz
  have e : frzL H 40 [.sl id 1 0 n, y, .int .i64 p] = some [.rd 1 n (nx.map fzL), y, .int .i64 p] := by
    have h2 : (nx.map fzL).take n = nx.map fzL := List.take_of_length_le (by simp; omega)
    simp [frzL_cons, frzL_nil, frzV_free, frzV_int, frzV_sl, hy.free, hH, hn, h2]
  have f := f56 hz hy hg (p := p) hm
  rw [hn] at f
  have h2 : (bL (badL nx rk p)).length = n := by rw [bL_len]; simp [badL, hn]
  have h3 : (bL (badL nx rk p)).take n = bL (badL nx rk p) := List.take_of_length_le (by omega)
  simp only [callPure, e, Option.bind_some, f]
  simp [AV.hasRd, HO.hasRd, bL_noRd, frzV, Heap.data?, h2, h3]
set_option maxHeartbeats 8000000
theorem f34 {x w mo : AV} {g : Gm} {W M : List Int} (hx : IsG x g) (hw : IsL w W) (hm : IsL mo M) (hg : Good g) (hr : ∀ l ∈ g.next, l.length < 50) (hl : W.length < 50 ∧ M.length < 50) {m : Nat} (hmm : 196 ≤ m) :
    evF tab it m 34 [x, .agg [w, mo]] [] = some (.bool (rightB g W M), []) := by
  obtain ⟨m, rfl⟩ : ∃ j, m = j + 1 := ⟨m - 1, by omega⟩
  have hx' := hx
  obtain ⟨xo, xr, xn, rfl, ho, hrr, hn⟩ := hx
  have fo := ho.free; have fr := hrr.free; have fn := hn.free; have fw := hw.free; have fm := hm.free
  have hg1 := hg.1; have hg2 := hg.2.1
  have ob : ∀ call, evE call [] (.box false) [.agg [xo, xr, xn]] = some (.ptr 0 0, [some (.box [xo, xr, xn])]) := fun call => by simp [evE, AV.cells, oneL, ho.one, hrr.one, hn.one, mkHO]
  have ob2 : ∀ call H, evE call H (.box false) [.agg [w, mo]] = some (.ptr H.length 0, H ++ [some (.box [w, mo])]) := fun call H => by simp [evE, AV.cells, oneL, hw.one, hm.one, mkHO]
  have hrow : ∀ v : Nat, v < g.next.length → IsL (llAt xn v) (getLL g.next v) ∧ (getLL g.next v).length < 50 ∧ llAt xn v = fzL (getLL g.next v) := fun v hv => by
    have := hn.at (i := (v : Int)) (by omega)
    exact ⟨this, getLL_lt hr (by omega) _, isL_ne this (row_ne hg rfl hv)⟩
  by_cases hlen : W.length = g.next.length ∧ M.length = g.next.length
  · obtain ⟨hWl, hMl⟩ := hlen
    have h47 := fun (y : AV) (l : List Int) (hy : IsL y l) (hl : l.length < 50) (v : Int) (H : Heap) => c47 hy (v := v) (by omega) (m := m) (by omega) H
    have h56 := fun {nx : List (List Int)} (hgr : Gra nx g.rank) (hn : nx.length = g.owner.length) (p : Int) (id : Nat) (H : Heap) (hH : H.data? id = some (nx.map fzL)) => c56s (p := p) hrr hgr hn (by omega) (m := m) (by omega) hH
    refine f_enter rfl rfl ?_
    generalize evF tab it m = call at *
    repeat' first
 | (apply s_mov; (focus ((conv => lhs; whnf); done)))
 | (apply s_gT; exact rfl)
 | (apply c_nil)
 | (apply s_pickF; exact rfl; (focus ((conv => lhs; whnf); done)))
 | ((first | apply s_lss | apply s_leq | apply s_gtr | apply s_geq | apply s_eql | apply s_neq); exact rfl; all_goals (intro _; try (exfalso; omega)))
 | (apply s_en; (focus (repeat (first | apply opds_nil | (apply opds_cons; (first | (focus ((conv => lhs; whnf); done)) | exact rfl))))); exact ob _)
 | (apply s_en; (focus (repeat (first | apply opds_nil | (apply opds_cons; (first | (focus ((conv => lhs; whnf); done)) | exact rfl))))); exact ob2 _ _)
 | (apply s_len; (focus ((conv => lhs; whnf); done)); (first | assumption | (apply IsLL.at; assumption; omega)))
 | (apply s_pd; (focus ((conv => lhs; whnf); done)))
 | (apply c_seq)
 | (apply c_reg)
 | (apply c_block)
 | (apply c_skip)
 | (apply c_condF; exact rfl)
 | (with_reducible apply k_c)
    refine c_loop ?_
    refine loop_gc (σ := Nat) (fun v => [.ptr 0 0, .ptr 1 0, .int .i64 g.owner.length, .int .i64 v]) (fun v => [some (.box [xo, xr, xn]), some (.box [w, mo])]) (fun v => v ≤ g.next.length ∧ ∀ j : Nat, j < v → okR g W M j) (fun v => g.next.length - v) ?_ _ 0 _ _ ⟨by omega, fun j hj => by omega⟩ (by omega) (by simp [go_sem, fo, fr, fn, fw, fm]; done)
    intro v ⟨hv, hok⟩ K hK
    have hrv := hrow v
    repeat' first
 | (apply s_mov; (focus ((conv => lhs; whnf); done)))
 | (apply s_gT; exact rfl)
 | (apply s_gF; exact rfl)
 | (apply s_gFD; exact rfl)
 | (apply c_nil)
 | (apply s_pickT; exact rfl; (focus ((conv => lhs; whnf); done)))
 | (apply s_pickF; exact rfl; (focus ((conv => lhs; whnf); done)))
 | (apply s_notT; exact rfl)
 | (apply s_notF; exact rfl)
 | ((first | apply s_lss | apply s_leq | apply s_gtr | apply s_geq | apply s_eql | apply s_neq); exact rfl; all_goals (intro _; try (exfalso; omega)))
 | ((first | apply s_add | apply s_sub); exact rfl; omega)
 | (apply isE; refine s_cB (by (focus (repeat (first | apply opds_nil | (apply opds_cons; (first | (focus ((conv => lhs; whnf); done)) | exact rfl)))))) (h47 _ _ (hrv (by omega)).1 (hrv (by omega)).2.1 _ _) (fun _ => ?_) (fun _ => ?_))
 | (apply s_idx; (focus ((conv => lhs; whnf); done)); exact rfl; (first | assumption | (apply IsLL.at; assumption; omega)); omega)
 | (apply s_idxLL; (focus ((conv => lhs; whnf); done)); exact rfl; assumption; omega)
 | (apply s_ldI; exact rfl; omega)
 | (apply s_ldLL; exact rfl; assumption; omega)
 | (apply s_pd; (focus ((conv => lhs; whnf); done)))
 | (apply c_seq)
 | (apply c_reg)
 | (apply c_block)
 | (apply c_exitH)
 | (apply c_skip)
 | (apply c_ret)
 | (apply c_condT; exact rfl)
 | (apply c_condF; exact rfl)
 | (with_reducible apply k_c)
    · rename_i q0 q1
      have hvn : v < g.next.length := by omega
      have hf : rightB g W M = false := rightB_f fun h => by
        have h2 := h.1.2.2 v hvn
        have := h2.1; omega
      exact fin_t (v := .bool false) rfl rfl (by rw [hf])
    · rename_i q0 q1 q2
      have hvn : v < g.next.length := by omega
      have hf : rightB g W M = false := rightB_f fun h => by
        have h2 := h.1.2.2 v hvn
        have := h2.1; omega
      exact fin_t (v := .bool false) rfl rfl (by rw [hf])
    · rename_i q0 q1 q2 q3 q4 q5
      refine hK (v + 1) _ _ ⟨by omega, fun j hj => ?_⟩ (by omega) (by simp [go_sem, fo, fr, fn, fw, fm]; done)
      rcases (by omega : j < v ∨ j = v) with h | rfl
      · exact hok j h
      · exact ⟨by omega, fun _ => q5, fun h => absurd q3 h⟩
    · rename_i q0 q1 q2 q3 q4 q5
      have hvn : v < g.next.length := by omega
      have hf : rightB g W M = false := rightB_f fun h => by
        have h2 := h.1.2.2 v hvn
        exact q5 (h2.2.1 q3).1
      exact fin_t (v := .bool false) rfl rfl (by rw [hf])
    · rename_i q0 q1 q2 q3 q4 q5
      refine hK (v + 1) _ _ ⟨by omega, fun j hj => ?_⟩ (by omega) (by simp [go_sem, fo, fr, fn, fw, fm]; done)
      rcases (by omega : j < v ∨ j = v) with h | rfl
      · exact hok j h
      · exact ⟨by omega, fun h => absurd h q3, fun _ => q4⟩
    · rename_i q0 q1 q2 q3 q4
      have hvn : v < g.next.length := by omega
      have hf : rightB g W M = false := rightB_f fun h => by
        have h2 := h.1.2.2 v hvn
        exact q4 (h2.2.2 q3).1
      exact fin_t (v := .bool false) rfl rfl (by rw [hf])
    have hokR : ∀ v : Nat, v < g.next.length → okR g W M v := fun j hj => hok j (by omega)
    have hpre := pre_iff ⟨hWl, hMl⟩ hokR
    have hgra := fun p => rg_gra hg hr (W := W) (M := M) (fun v hv => (hokR v hv).2.1) p
    clear hK hok hrv h47 hv
    refine c_pre (vs := [.ptr 0 0, .ptr 1 0, .int .i64 g.owner.length]) (H' := [some (.box [xo, xr, xn]), some (.box [w, mo])]) (by simp [go_sem, fo, fr, fn, fw, fm]; done) ?_
    repeat' first
 | (apply s_mov; (focus ((conv => lhs; whnf); done)))
 | (apply c_nil)
 | (apply c_seq)
 | (apply c_reg)
 | (apply c_block)
 | (with_reducible apply k_c)
    refine c_loop ?_
    refine loop_gc (σ := Nat) (fun p => [.ptr 0 0, .ptr 1 0, .int .i64 g.owner.length, .int .i64 p]) (fun p => [some (.box [xo, xr, xn]), some (.box [w, mo])]) (fun p => p ≤ 2 ∧ ∀ q : Nat, q < p → (∀ v : Nat, v < g.next.length → clR g W M q v) ∧ ∀ v : Nat, v < g.next.length → getI W v = q → badB (rgN g W M q) g.rank q v = false) (fun p => 2 - p) ?_ _ 0 _ _ ⟨by omega, fun j hj => by omega⟩ (by omega) (by simp [go_sem, fo, fr, fn, fw, fm]; done)
    intro p ⟨hp, hwin⟩ K hK
    repeat' first
 | (apply s_mov; (focus ((conv => lhs; whnf); done)))
 | (apply c_nil)
 | ((first | apply s_lss | apply s_leq | apply s_gtr | apply s_geq | apply s_eql | apply s_neq); exact rfl; all_goals (intro _; try (exfalso; omega)))
 | (apply s_en; (focus (repeat (first | apply opds_nil | (apply opds_cons; (first | (focus ((conv => lhs; whnf); done)) | exact rfl))))); exact e_mkN (by unfold most; omega))
 | (apply c_seq)
 | (apply c_reg)
 | (apply c_block)
 | (apply c_exitH)
 | (apply c_skip)
 | (apply c_ret)
 | (apply c_condT; exact rfl)
 | (apply c_condF; exact rfl)
 | (apply c_preF; (focus (repeat (first | apply looks_nil | (apply looks_cons; (focus ((conv => lhs; whnf); done)))))); (focus (simp [idFreeL, AV.idFree, *]; done)))
 | (with_reducible apply k_c)
    · rename_i q0
      have hp01 : (p : Int) = 0 ∨ (p : Int) = 1 := by omega
      have hz := rgA_zero g W M p
      rw [← hg2] at hz
      refine c_loop ?_
      refine loop_gc (σ := Nat) (fun v => [.ptr 0 0, .ptr 1 0, .int .i64 g.owner.length, .int .i64 p, .sl 2 1 0 g.owner.length, .int .i64 v]) (fun v => [some (.box [xo, xr, xn]), some (.box [w, mo]), some (.data (rgA g W M p v))]) (fun v => v ≤ g.next.length ∧ ∀ j : Nat, j < v → clR g W M p j) (fun v => g.next.length - v) ?_ _ 0 _ _ ⟨by omega, fun j hj => by omega⟩ (by omega) (by simp [go_sem, fo, fr, fn, fw, fm, hz]; done)
      intro v ⟨hv, hcl⟩ K2 hK2
      have hal := rgA_len g W M p v
      have hrv := hrow v
      repeat' first
 | (apply s_mov; (focus ((conv => lhs; whnf); done)))
 | (apply c_nil)
 | ((first | apply s_lss | apply s_leq | apply s_gtr | apply s_geq | apply s_eql | apply s_neq); exact rfl; all_goals (intro _; try (exfalso; omega)))
 | (apply s_en; (focus (repeat (first | apply opds_nil | (apply opds_cons; (first | (focus ((conv => lhs; whnf); done)) | exact rfl))))); exact e_bld1 rfl rfl rfl rfl)
 | (apply s_st; (focus (repeat (first | apply opds_nil | (apply opds_cons; (first | (focus ((conv => lhs; whnf); done)) | exact rfl))))); exact e_stV (hrv (by omega)).1.cellsV (hrv (by omega)).1.one (hrv (by omega)).1.free rfl (by first | omega | (simp; omega)))
 | (apply s_st; (focus (repeat (first | apply opds_nil | (apply opds_cons; (first | (focus ((conv => lhs; whnf); done)) | exact rfl))))); exact e_stV rfl rfl rfl rfl (by first | omega | (simp; omega)))
 | (apply s_idx; (focus ((conv => lhs; whnf); done)); exact rfl; (first | assumption | (apply IsLL.at; assumption; omega)); omega)
 | (apply s_idxLL; (focus ((conv => lhs; whnf); done)); exact rfl; assumption; omega)
 | (apply s_idxS; exact rfl; exact rfl; omega)
 | (apply s_ldI; exact rfl; omega)
 | (apply s_ldLL; exact rfl; assumption; omega)
 | (apply s_pd; (focus ((conv => lhs; whnf); done)))
 | (apply c_seq)
 | (apply c_reg)
 | (apply c_block)
 | (apply c_exitH)
 | (apply c_skip)
 | (apply c_condT; exact rfl)
 | (apply c_condF; exact rfl)
 | (with_reducible apply k_c)
      · rename_i q1 q2 q3
        have hvn : v < g.next.length := by omega
        have hset : (rgA g W M p v).set v (.rd 1 1 [.int .i64 (getI M v)]) = rgA g W M p (v + 1) := rgA_set (by rw [rgRow, if_pos q2, if_pos q3, fzL_one])
        have hget : (rgA g W M p (v + 1))[((v : Nat) : Int).toNat]? = some (fzL (rgRow g W M p v)) := by
          rw [Int.toNat_natCast]
          simp [rgA, hvn]
        have hrl := isL_fz (rgRow g W M p v)
        have hrlen : (rgRow g W M p v).length < 50 := by
          rw [rgRow, if_pos q2, if_pos q3]
          simp
        have hrin : ∀ k : Nat, k < (rgRow g W M p v).length → 0 ≤ getI (rgRow g W M p v) k ∧ getI (rgRow g W M p v) k < g.next.length := fun k hk => by
          have h1 := (hgra p).2.1 v (by simp [rgN]; exact hvn) (getI (rgRow g W M p v) k) (by rw [rg_ll hvn]; exact getI_memB hk)
          simpa [rgN] using h1
        have hal2 := rgA_len g W M p (v + 1)
        have gz := hrl.free
        refine c_loop ?_
        refine loop_gc (σ := Nat) (fun k => [.ptr 0 0, .ptr 1 0, .int .i64 g.owner.length, .int .i64 p, .sl 2 1 0 g.owner.length, .int .i64 v, .int .i64 k]) (fun k => [some (.box [xo, xr, xn]), some (.box [w, mo]), some (.data (rgA g W M p (v + 1)))]) (fun k => k ≤ (rgRow g W M p v).length ∧ ∀ j : Nat, j < k → getI W (getI (rgRow g W M p v) j) = p) (fun k => (rgRow g W M p v).length - k) ?_ _ 0 _ _ ⟨by omega, fun j hj => by omega⟩ (by omega) (by simp [go_sem, fo, fr, fn, fw, fm, Int.toNat_natCast, List.set_set, hset]; done)
        intro k ⟨hk, hin⟩ K3 hK3
        have hrk := hrin k
        repeat' first
 | (apply s_mov; (focus ((conv => lhs; whnf); done)))
 | (apply c_nil)
 | ((first | apply s_lss | apply s_leq | apply s_gtr | apply s_geq | apply s_eql | apply s_neq); exact rfl; all_goals (intro _; try (exfalso; omega)))
 | ((first | apply s_add | apply s_sub); exact rfl; omega)
 | (apply s_pn; (focus (repeat (first | apply opds_nil | (apply opds_cons; (first | (focus ((conv => lhs; whnf); done)) | exact rfl))))); exact p_ldV rfl hget)
 | (apply s_len; (focus ((conv => lhs; whnf); done)); (first | assumption | (apply IsLL.at; assumption; omega)))
 | (apply s_idx; (focus ((conv => lhs; whnf); done)); exact rfl; (first | assumption | (apply IsLL.at; assumption; omega)); omega)
 | (apply s_idxS; exact rfl; exact rfl; omega)
 | (apply s_ldI; exact rfl; omega)
 | (apply s_pd; (focus ((conv => lhs; whnf); done)))
 | (apply c_seq)
 | (apply c_reg)
 | (apply c_block)
 | (apply c_exitH)
 | (apply c_skip)
 | (apply c_ret)
 | (apply c_condT; exact rfl)
 | (apply c_condF; exact rfl)
 | (with_reducible apply k_c)
        · rename_i r1 r2
          refine hK3 (k + 1) _ _ ⟨by omega, fun j hj => ?_⟩ (by omega) (by simp [go_sem, fo, fr, fn, fw, fm]; done)
          rcases (by omega : j < k ∨ j = k) with h | rfl
          · exact hin j h
          · exact r2
        · rename_i r1 r2
          have hf : rightB g W M = false := rightB_f fun h => r2 (hpre.1 h.1 p hp01 v hvn q2 _ (getI_memB (by omega)))
          exact fin_t (v := .bool false) rfl rfl (by rw [hf])
        · refine c_pre (vs := [.ptr 0 0, .ptr 1 0, .int .i64 g.owner.length, .int .i64 p, .sl 2 1 0 g.owner.length, .int .i64 v]) (H' := [some (.box [xo, xr, xn]), some (.box [w, mo]), some (.data (rgA g W M p (v + 1)))]) (by simp [go_sem, fo, fr, fn, fw, fm]; done) ?_
          repeat' first
 | (apply s_mov; (focus ((conv => lhs; whnf); done)))
 | (apply c_nil)
 | ((first | apply s_add | apply s_sub); exact rfl; omega)
 | (apply c_reg)
          refine hK2 (v + 1) _ _ ⟨by omega, fun j hj => ?_⟩ (by omega) (by simp [go_sem, fo, fr, fn, fw, fm]; done)
          rcases (by omega : j < v ∨ j = v) with h | rfl
          · exact hcl j h
          · intro _ u hu
            obtain ⟨j2, hj2, e⟩ := List.getElem_of_mem hu
            have := hin j2 (by omega)
            rw [getI_nat] at this
            simpa [List.getD, hj2, e] using this
      · rename_i q1 q2 q3
        have hvn : v < g.next.length := by omega
        have hset : (rgA g W M p v).set v (llAt xn v) = rgA g W M p (v + 1) := rgA_set (by rw [rgRow, if_pos q2, if_neg q3, (hrv hvn).2.2])
        have hget : (rgA g W M p (v + 1))[((v : Nat) : Int).toNat]? = some (fzL (rgRow g W M p v)) := by
          rw [Int.toNat_natCast]
          simp [rgA, hvn]
        have hrl := isL_fz (rgRow g W M p v)
        have hrlen : (rgRow g W M p v).length < 50 := by
          rw [rgRow, if_pos q2, if_neg q3]
          exact (hrv hvn).2.1
        have hrin : ∀ k : Nat, k < (rgRow g W M p v).length → 0 ≤ getI (rgRow g W M p v) k ∧ getI (rgRow g W M p v) k < g.next.length := fun k hk => by
          have h1 := (hgra p).2.1 v (by simp [rgN]; exact hvn) (getI (rgRow g W M p v) k) (by rw [rg_ll hvn]; exact getI_memB hk)
          simpa [rgN] using h1
        have hal2 := rgA_len g W M p (v + 1)
        have gz := hrl.free
        refine c_loop ?_
        refine loop_gc (σ := Nat) (fun k => [.ptr 0 0, .ptr 1 0, .int .i64 g.owner.length, .int .i64 p, .sl 2 1 0 g.owner.length, .int .i64 v, .int .i64 k]) (fun k => [some (.box [xo, xr, xn]), some (.box [w, mo]), some (.data (rgA g W M p (v + 1)))]) (fun k => k ≤ (rgRow g W M p v).length ∧ ∀ j : Nat, j < k → getI W (getI (rgRow g W M p v) j) = p) (fun k => (rgRow g W M p v).length - k) ?_ _ 0 _ _ ⟨by omega, fun j hj => by omega⟩ (by omega) (by simp [go_sem, fo, fr, fn, fw, fm, Int.toNat_natCast, List.set_set, hset]; done)
        intro k ⟨hk, hin⟩ K3 hK3
        have hrk := hrin k
        repeat' first
 | (apply s_mov; (focus ((conv => lhs; whnf); done)))
 | (apply c_nil)
 | ((first | apply s_lss | apply s_leq | apply s_gtr | apply s_geq | apply s_eql | apply s_neq); exact rfl; all_goals (intro _; try (exfalso; omega)))
 | ((first | apply s_add | apply s_sub); exact rfl; omega)
 | (apply s_pn; (focus (repeat (first | apply opds_nil | (apply opds_cons; (first | (focus ((conv => lhs; whnf); done)) | exact rfl))))); exact p_ldV rfl hget)
 | (apply s_len; (focus ((conv => lhs; whnf); done)); (first | assumption | (apply IsLL.at; assumption; omega)))
 | (apply s_idx; (focus ((conv => lhs; whnf); done)); exact rfl; (first | assumption | (apply IsLL.at; assumption; omega)); omega)
 | (apply s_idxS; exact rfl; exact rfl; omega)
 | (apply s_ldI; exact rfl; omega)
 | (apply s_pd; (focus ((conv => lhs; whnf); done)))
 | (apply c_seq)
 | (apply c_reg)
 | (apply c_block)
 | (apply c_exitH)
 | (apply c_skip)
 | (apply c_ret)
 | (apply c_condT; exact rfl)
 | (apply c_condF; exact rfl)
 | (with_reducible apply k_c)
        · rename_i r1 r2
          refine hK3 (k + 1) _ _ ⟨by omega, fun j hj => ?_⟩ (by omega) (by simp [go_sem, fo, fr, fn, fw, fm]; done)
          rcases (by omega : j < k ∨ j = k) with h | rfl
          · exact hin j h
          · exact r2
        · rename_i r1 r2
          have hf : rightB g W M = false := rightB_f fun h => r2 (hpre.1 h.1 p hp01 v hvn q2 _ (getI_memB (by omega)))
          exact fin_t (v := .bool false) rfl rfl (by rw [hf])
        · refine c_pre (vs := [.ptr 0 0, .ptr 1 0, .int .i64 g.owner.length, .int .i64 p, .sl 2 1 0 g.owner.length, .int .i64 v]) (H' := [some (.box [xo, xr, xn]), some (.box [w, mo]), some (.data (rgA g W M p (v + 1)))]) (by simp [go_sem, fo, fr, fn, fw, fm]; done) ?_
          repeat' first
 | (apply s_mov; (focus ((conv => lhs; whnf); done)))
 | (apply c_nil)
 | ((first | apply s_add | apply s_sub); exact rfl; omega)
 | (apply c_reg)
          refine hK2 (v + 1) _ _ ⟨by omega, fun j hj => ?_⟩ (by omega) (by simp [go_sem, fo, fr, fn, fw, fm]; done)
          rcases (by omega : j < v ∨ j = v) with h | rfl
          · exact hcl j h
          · intro _ u hu
            obtain ⟨j2, hj2, e⟩ := List.getElem_of_mem hu
            have := hin j2 (by omega)
            rw [getI_nat] at this
            simpa [List.getD, hj2, e] using this
      · rename_i q1 q2
        refine c_pre (vs := [.ptr 0 0, .ptr 1 0, .int .i64 g.owner.length, .int .i64 p, .sl 2 1 0 g.owner.length, .int .i64 v]) (H' := [some (.box [xo, xr, xn]), some (.box [w, mo]), some (.data (rgA g W M p v))]) (by simp [go_sem, fo, fr, fn, fw, fm]; done) ?_
        repeat' first
 | (apply s_mov; (focus ((conv => lhs; whnf); done)))
 | (apply c_nil)
 | ((first | apply s_add | apply s_sub); exact rfl; omega)
 | (apply c_reg)
        refine hK2 (v + 1) _ _ ⟨by omega, fun j hj => ?_⟩ (by omega) ?_
        · rcases (by omega : j < v ∨ j = v) with h | rfl
          · exact hcl j h
          · exact fun h => absurd h q2
        · rw [← rgA_skip (i := v) (by rw [rgRow, if_neg q2])]
          exact (by simp [go_sem, fo, fr, fn, fw, fm]; done)
      · have hvn : v = g.next.length := by omega
        have hall := rgA_all g W M p
        rw [hvn, hall]
        have hNl : (rgN g W M p).length = g.next.length := by simp [rgN]
        have hb56 := fun H hH => h56 (hgra p) (hNl.trans hg2.symm) p 2 H hH
        have hBl : (badL (rgN g W M p) g.rank p).length = g.owner.length := by simp [badL, hNl, hg2]
        have hBg : ∀ v : Nat, v < g.next.length → getB (badL (rgN g W M p) g.rank p) v = badB (rgN g W M p) g.rank p v := fun v hv => getB_map (by rw [hNl]; exact hv)
        generalize badL (rgN g W M p) g.rank p = B at *
        refine c_pre (vs := [.ptr 0 0, .ptr 1 0, .int .i64 g.owner.length, .int .i64 p, .sl 2 1 0 g.owner.length]) (H' := [some (.box [xo, xr, xn]), some (.box [w, mo]), some (.data ((rgN g W M p).map fzL))]) (by simp [go_sem, fo, fr, fn, fw, fm]; done) ?_
        repeat' first
 | (apply s_mov; (focus ((conv => lhs; whnf); done)))
 | (apply c_nil)
 | (apply s_cn; (focus (repeat (first | apply opds_nil | (apply opds_cons; (first | (focus ((conv => lhs; whnf); done)) | exact rfl))))); exact hb56 _ rfl)
 | (apply s_pd; (focus ((conv => lhs; whnf); done)))
 | (apply c_seq)
 | (apply c_reg)
 | (apply c_block)
 | (with_reducible apply k_c)
        refine c_loop ?_
        refine loop_gc (σ := Nat) (fun v => [.ptr 0 0, .ptr 1 0, .int .i64 g.owner.length, .int .i64 p, .rd 1 g.owner.length (bL B), .int .i64 v]) (fun v => [some (.box [xo, xr, xn]), some (.box [w, mo])]) (fun v => v ≤ g.next.length ∧ ∀ j : Nat, j < v → getI W j = p → badB (rgN g W M p) g.rank p j = false) (fun v => g.next.length - v) ?_ _ 0 _ _ ⟨by omega, fun j hj => by omega⟩ (by omega) (by simp [go_sem, fo, fr, fn, fw, fm]; done)
        intro v2 ⟨hv2, hin⟩ K3 hK3
        repeat' first
 | (apply s_mov; (focus ((conv => lhs; whnf); done)))
 | (apply s_gT; exact rfl)
 | (apply s_gF; exact rfl)
 | (apply c_nil)
 | (apply s_pickT; exact rfl; (focus ((conv => lhs; whnf); done)))
 | (apply s_pickF; exact rfl; (focus ((conv => lhs; whnf); done)))
 | ((first | apply s_lss | apply s_leq | apply s_gtr | apply s_geq | apply s_eql | apply s_neq); exact rfl; all_goals (intro _; try (exfalso; omega)))
 | ((first | apply s_add | apply s_sub); exact rfl; omega)
 | (apply s_idx; (focus ((conv => lhs; whnf); done)); exact rfl; (first | assumption | (apply IsLL.at; assumption; omega)); omega)
 | (apply s_ldRB; exact rfl; omega; all_goals intro _)
 | (apply s_idxRB; exact rfl; exact rfl; omega)
 | (apply s_ldI; exact rfl; omega)
 | (apply s_pd; (focus ((conv => lhs; whnf); done)))
 | (apply c_seq)
 | (apply c_reg)
 | (apply c_block)
 | (apply c_exitH)
 | (apply c_skip)
 | (apply c_ret)
 | (apply c_condT; exact rfl)
 | (apply c_condF; exact rfl)
 | (with_reducible apply k_c)
        · rename_i q1 q2 q3
          have hvn2 : v2 < g.next.length := by omega
          rw [hBg v2 hvn2] at q3
          have hf : rightB g W M = false := rightB_f fun h => by
            have := (rg_win hg hr h.1 hp01).2 (h.2 p hp01) v2 hvn2 q2
            rw [this] at q3; cases q3
          exact fin_t (v := .bool false) rfl rfl (by rw [hf])
        · rename_i q1 q2 q3
          have hvn2 : v2 < g.next.length := by omega
          rw [hBg v2 hvn2] at q3
          refine hK3 (v2 + 1) _ _ ⟨by omega, fun j hj hw => ?_⟩ (by omega) (by simp [go_sem, fo, fr, fn, fw, fm]; done)
          rcases (by omega : j < v2 ∨ j = v2) with h | rfl
          · exact hin j h hw
          · exact q3
        · rename_i q1 q2
          refine hK3 (v2 + 1) _ _ ⟨by omega, fun j hj hw => ?_⟩ (by omega) (by simp [go_sem, fo, fr, fn, fw, fm]; done)
          rcases (by omega : j < v2 ∨ j = v2) with h | rfl
          · exact hin j h hw
          · exact absurd hw q2
        · refine c_pre (vs := [.ptr 0 0, .ptr 1 0, .int .i64 g.owner.length, .int .i64 p]) (H' := [some (.box [xo, xr, xn]), some (.box [w, mo])]) (by simp [go_sem, fo, fr, fn, fw, fm]; done) ?_
          repeat' first
 | (apply s_mov; (focus ((conv => lhs; whnf); done)))
 | (apply c_nil)
 | ((first | apply s_add | apply s_sub); exact rfl; omega)
 | (apply c_reg)
          refine hK (p + 1) _ _ ⟨by omega, fun q hq => ?_⟩ (by omega) (by simp [go_sem, fo, fr, fn, fw, fm]; done)
          rcases (by omega : q < p ∨ q = p) with h | rfl
          · exact hwin q h
          · exact ⟨fun j hj => hcl j (by omega), fun j hj hw => hin j (by omega) hw⟩
    · have ht : rightB g W M = true := rightB_t ⟨hpre.2 fun q hq v hv => by
        rcases hq with rfl | rfl
        · exact (hwin 0 (by omega)).1 v hv
        · exact (hwin 1 (by omega)).1 v hv, fun q hq => by
        have hP : Pre g W M := hpre.2 fun q hq v hv => by
          rcases hq with rfl | rfl
          · exact (hwin 0 (by omega)).1 v hv
          · exact (hwin 1 (by omega)).1 v hv
        refine (rg_win hg hr hP hq).1 ?_
        rcases hq with rfl | rfl
        · exact (hwin 0 (by omega)).2
        · exact (hwin 1 (by omega)).2⟩
      exact fin_t (v := .bool true) rfl rfl (by rw [ht])
  · refine f_enter rfl rfl ?_
    generalize evF tab it m = call at *
    have hfal : rightB g W M = false := rightB_f fun h => hlen ⟨h.1.1, h.1.2.1⟩
    repeat' first
 | (apply s_mov; (focus ((conv => lhs; whnf); done)))
 | (apply s_gT; exact rfl)
 | (apply s_gF; exact rfl)
 | (apply c_nil)
 | (apply s_pickT; exact rfl; (focus ((conv => lhs; whnf); done)))
 | (apply s_pickF; exact rfl; (focus ((conv => lhs; whnf); done)))
 | ((first | apply s_lss | apply s_leq | apply s_gtr | apply s_geq | apply s_eql | apply s_neq); exact rfl; all_goals (intro _; try (exfalso; omega)))
 | (apply s_en; (focus (repeat (first | apply opds_nil | (apply opds_cons; (first | (focus ((conv => lhs; whnf); done)) | exact rfl))))); exact ob _)
 | (apply s_en; (focus (repeat (first | apply opds_nil | (apply opds_cons; (first | (focus ((conv => lhs; whnf); done)) | exact rfl))))); exact ob2 _ _)
 | (apply s_len; (focus ((conv => lhs; whnf); done)); (first | assumption | (apply IsLL.at; assumption; omega)))
 | (apply s_pd; (focus ((conv => lhs; whnf); done)))
 | (apply c_seq)
 | (apply c_reg)
 | (apply c_ret)
 | (apply c_condT; exact rfl)
 | (with_reducible apply k_c)
    all_goals first
      | (exfalso; exact hlen ⟨by omega, by omega⟩)
      | exact fin_t (v := .bool false) rfl rfl (by rw [hfal])
end Go.AM.Pa
