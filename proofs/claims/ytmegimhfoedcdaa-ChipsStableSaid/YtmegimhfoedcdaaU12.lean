/- A part of the proof: U12. -/
import Derived.Test.YtmegimhfoedcdaaU11
set_option linter.unusedSectionVars false
set_option linter.unusedVariables false
set_option linter.unusedSimpArgs false
namespace Go.AM.Ch
attribute [local go_sem] gc subHeap reach_skip ren_free reach_new reach_newp reach_end rangeL roots boxCells nodupB posOf renL AV.ren pickO renH renO looks look bindEnv envOf reach_int reach_bool reach_nilS reach_rd putRow cells_sl cells_int cells_bool cells_nilS cells_rd cells_agg reach_agg reach_tup idFreeL idf_sl idf_ptr idf_int idf_bool idf_nilS idf_rd reach_fn reach_mp cells_fn cells_ptr cells_mp idf_mp idf_fn idf_agg idf_tup
set_option maxHeartbeats 4000000
def nI (l : List Nat) : List Int := l.map fun (k : Nat) => (k : Int)
theorem nI_len (l : List Nat) : (nI l).length = l.length := by simp [nI]
theorem nI_app (l r : List Nat) : nI (l ++ r) = nI l ++ nI r := by simp [nI]
theorem e_appO {call : CallF} {H : Heap} {id o k : Nat} {pr : List Int} {q : List Int} {a : Int} (hH : H.data? id = some (iL (pr ++ q))) (ho : pr.length = o) (hk : q.length = k) (hm : k + 1 ≤ most) :
    evE call H (.app false 1 8) [.sl id 1 o k, .rd 1 1 [.int .i64 a]] = some (.sl (H.set id none).length 1 0 (k + 1), H.set id none ++ [some (.data (iL (q ++ [a])))]) := by
  subst ho; subst hk
  have e1 : iL (pr ++ q) = iL pr ++ iL q := by simp [iL]
  have e2 : iL (q ++ [a]) = iL q ++ [.int .i64 a] := by simp [iL]
  have l1 := iL_len pr
  have l2 := iL_len q
  rw [e1] at hH
  rw [e2]
  have e3 : (List.drop pr.length (iL pr ++ iL q)) = iL q := by rw [← l1]; simp
  have e4 : (iL q).take q.length = iL q := by rw [← l2]; simp
  simp [evE, appOf, szOk, lenOf, rowOf, hm, killRow, newRow, hH, l1, l2, e3, e4]
theorem p_ixq {H : Heap} {id o k : Nat} : evP H (.idxA 1) [.sl id 1 o (k + 1), .int .i64 0] = some (.ptr id o) := by
  simp [evP, idxSl]
theorem p_ldq {H : Heap} {id : Nat} {pr q : List Int} {a : Int} (hH : H.data? id = some (iL (pr ++ a :: q))) : evP H (.ld false 1) [.ptr id pr.length] = some (.int .i64 a) := by
  rw [p_ldO hH (by simp), getI_nat]
  simp [List.getD]
theorem p_slq {H : Heap} {id k : Nat} {pr q : List Int} {a : Int} (hH : H.data? id = some (iL (pr ++ a :: q))) (hk : q.length = k) : evP H (.slc 1 true false) [.sl id 1 pr.length (k + 1), .int .i64 1] = some (.sl id 1 (pr ++ [a]).length k) := by
  subst hk
  have hc := cells_of_data hH
  have hl := iL_len (pr ++ a :: q)
  simp [evP, slcOf, natOf, lenOf]
/-- all unreached but one -/
def d0 (n q0 : Nat) : List Int := (List.replicate n (-1)).set q0 0
theorem d0_get {n q0 k : Nat} (hq : q0 < n) (hk : k < n) : getI (d0 n q0) (k : Int) = if k = q0 then 0 else -1 := by
  unfold d0
  rw [getI_set (by simpa using hq)]
  split
  · rfl
  · rw [getI_nat]; simp [List.getD, hk]
theorem Bfs.init {n q0 : Nat} (hq : q0 < n) : Bfs n (d0 n q0) [] [q0] := by
  refine ⟨by simp [d0], fun k hk => ?_, by simp, fun v hv => ?_, fun k hk => ?_, fun k hk => ?_⟩
  · rw [d0_get hq hk]; split <;> omega
  · simp at hv; omega
  · rw [d0_get hq hk]; split <;> simp <;> omega
  · rw [d0_get hq hk]; split <;> simp <;> omega
theorem negs_le (d : List Int) : negs d ≤ d.length := List.countP_le_length
/-- what going in breadth gives -/
def dist (b : List (List Int)) (q0 : Nat) : List Int × List Nat := bfsF b b.length (2 * b.length + 2) (d0 b.length q0) [] [q0]
set_option maxHeartbeats 8000000
/-- distances -/
theorem f84 {x : AV} {b : List (List Int)} (hx : IsLL x b) (hb : Bd b) {q0 : Nat} (hq : q0 < b.length) {m : Nat} (hm : 200 ≤ m) : evF tab it m 84 [x, .int .i64 (q0 : Int)] [] = some (.sl 0 1 0 b.length, [some (.data (iL (dist b q0).1))]) := by
  obtain ⟨m, rfl⟩ : ∃ j, m = j + 1 := ⟨m - 1, by omega⟩
  have fx := hx.free
  have hl12 := hb.len
  have mk := fun call H => @e_mkI call H b.length (by unfold most; omega)
  have lx : ∀ H, evP H .len [x] = some (.int .i64 ((b.length : Nat) : Int)) := fun H => by cases hx <;> rfl
  have bld : ∀ call H (a : Int), evE call H (.bldS true false 1 1 [.int .i64 0] [(0, 1)]) [.int .i64 a] = some (.sl H.length 1 0 1, H ++ [some (.data [.int .i64 a])]) := fun call H a => rfl
  generalize hR : dist b q0 = R
  refine f_enter rfl rfl ?_
  generalize evF tab it m = call at *
  have gcO : ∀ (v : Nat) (C : List AV), gc 0 [x, .int .i64 (q0 : Int), .sl 0 1 0 b.length, .int .i64 ((b.length : Nat) : Int), .int .i64 (v : Int)] [some (.data C)] = some ([x, .int .i64 (q0 : Int), .sl 0 1 0 b.length, .int .i64 ((b.length : Nat) : Int), .int .i64 (v : Int)], [some (.data C)]) := fun v C => by simp [go_sem, fx]
  repeat' first
 | (apply s_mov; (focus ((conv => lhs; whnf); done)))
 | (apply c_nil)
 | (apply s_pn; (focus (repeat (first | apply opds_nil | (apply opds_cons; (first | (focus ((conv => lhs; whnf); done)) | exact rfl))))); exact lx _)
 | (apply s_en; (focus (repeat (first | apply opds_nil | (apply opds_cons; (first | (focus ((conv => lhs; whnf); done)) | exact rfl))))); exact mk _ _)
 | (apply s_lenSl; exact rfl)
 | (apply c_seq)
 | (apply c_reg)
 | (apply c_block)
 | (with_reducible apply k_c)
  refine c_loop ?_
  refine loop_gc (σ := Nat × List Int) (fun p => [x, .int .i64 (q0 : Int), .sl 0 1 0 b.length, .int .i64 ((b.length : Nat) : Int), .int .i64 (p.1 : Int)]) (fun p => [some (.data (iL p.2))]) (fun p => p.1 ≤ b.length ∧ p.2.length = b.length ∧ ∀ i : Nat, i < p.1 → getI p.2 (i : Int) = -1) (fun p => b.length - p.1) ?_ _ (0, List.replicate b.length 0) _ _ ⟨by omega, by simp, by omega⟩ (by show b.length - 0 < _; omega) (gcO 0 _)
  intro ⟨v, out⟩ ⟨hv, hol, hout⟩ K hK
  dsimp only at hv hol hout hK ⊢
  by_cases hvn : v < b.length
  · have hs1 := fun (vv : Int) call H h => e_stO (call := call) (H := H) (id := 0) (l := out) (i := v) (v := vv) h (by omega)
    repeat' first
 | (apply s_mov; (focus ((conv => lhs; whnf); done)))
 | (apply c_nil)
 | ((first | apply s_lss | apply s_leq | apply s_gtr | apply s_geq | apply s_eql | apply s_neq); exact rfl; all_goals (intro _; try (exfalso; omega)))
 | ((first | apply s_add | apply s_sub); exact rfl; omega)
 | (apply s_pn; (focus (repeat (first | apply opds_nil | (apply opds_cons; (first | (focus ((conv => lhs; whnf); done)) | exact rfl))))); exact p_ixO hvn)
 | (apply s_st; (focus (repeat (first | apply opds_nil | (apply opds_cons; (first | (focus ((conv => lhs; whnf); done)) | exact rfl))))); exact hs1 _ _ _ rfl)
 | (apply c_seq)
 | (apply c_reg)
 | (apply c_block)
 | (apply c_skip)
 | (apply c_condT; exact rfl)
 | (with_reducible apply k_c)
    refine hK (v + 1, out.set v (-1)) _ _ ⟨by omega, by simp [hol], fun i hi => ?_⟩ (by show b.length - (v + 1) < _; omega) (gcO (v + 1) _)
    dsimp only
    rw [getI_set (by omega)]
    split
    · rfl
    · exact hout i (by omega)
  · obtain rfl : v = b.length := by omega
    obtain rfl : out = List.replicate b.length (-1) := by
      refine List.ext_getElem (by simp [hol]) fun j h1 h2 => ?_
      have := hout j (by omega)
      rw [getI_nat] at this
      simpa [List.getD, h1] using this
    have hs1 := fun (vv : Int) call H h => e_stO (call := call) (H := H) (id := 0) (l := List.replicate b.length (-1)) (i := q0) (v := vv) h (by simpa using hq)
    repeat' first
 | (apply c_nil)
 | ((first | apply s_lss | apply s_leq | apply s_gtr | apply s_geq | apply s_eql | apply s_neq); exact rfl; all_goals (intro _; try (exfalso; omega)))
 | (apply c_seq)
 | (apply c_reg)
 | (apply c_exitH)
 | (apply c_condF; exact rfl)
 | (with_reducible apply k_c)
    apply c_pre (vs := [x, .int .i64 (q0 : Int), .sl 0 1 0 b.length]) (H' := [some (.data (iL (List.replicate b.length (-1))))])
    · simp [go_sem, fx]
    repeat' first
 | (apply s_mov; (focus ((conv => lhs; whnf); done)))
 | (apply c_nil)
 | (apply s_pn; (focus (repeat (first | apply opds_nil | (apply opds_cons; (first | (focus ((conv => lhs; whnf); done)) | exact rfl))))); exact p_ixO hq)
 | (apply s_st; (focus (repeat (first | apply opds_nil | (apply opds_cons; (first | (focus ((conv => lhs; whnf); done)) | exact rfl))))); exact hs1 _ _ _ rfl)
 | (apply s_en; (focus (repeat (first | apply opds_nil | (apply opds_cons; (first | (focus ((conv => lhs; whnf); done)) | exact rfl))))); exact bld _ _ _)
 | (apply c_seq)
 | (apply c_reg)
 | (apply c_block)
 | (with_reducible apply k_c)
    have gcQ : ∀ (o k : Nat) (C D : List AV), gc 0 [x, .sl 0 1 0 b.length, .sl 1 1 o k] [some (.data C), some (.data D)] = some ([x, .sl 0 1 0 b.length, .sl 1 1 o k], [some (.data C), some (.data D)]) := fun o k C D => by simp [go_sem, fx]
    have hn0 := negs_le (d0 b.length q0)
    have hd0 : (d0 b.length q0).length = b.length := by simp [d0]
    refine c_loop ?_
    refine loop_gc (σ := List Int × List Nat × List Nat × List Int) (fun p => [x, .sl 0 1 0 b.length, .sl 1 1 p.2.2.2.length p.2.2.1.length]) (fun p => [some (.data (iL p.1)), some (.data (iL (p.2.2.2 ++ nI p.2.2.1)))]) (fun p => Bfs b.length p.1 p.2.1 p.2.2.1 ∧ ∃ f, 2 * negs p.1 + p.2.2.1.length ≤ f ∧ bfsF b b.length f p.1 p.2.1 p.2.2.1 = R) (fun p => 2 * negs p.1 + p.2.2.1.length) ?_ _ (d0 b.length q0, [], [q0], []) _ _ ⟨Bfs.init hq, 2 * b.length + 2, by simp only [List.length_cons, List.length_nil]; omega, hR⟩ (by simp only [List.length_cons, List.length_nil]; omega) (gcQ 0 1 _ _)
    intro ⟨d, dn, q, pr⟩ ⟨hB, f, hf, hfR⟩ K2 hK2
    dsimp only at hB hf hfR hK2 ⊢
    have hdl := hB.len
    rcases q with _ | ⟨v, q⟩
    · have : R = (d, dn) := by rw [← hfR]; cases f <;> rfl
      subst this
      simp only [List.length_nil]
      repeat' first
 | (apply s_mov; (focus ((conv => lhs; whnf); done)))
 | (apply c_nil)
 | ((first | apply s_lss | apply s_leq | apply s_gtr | apply s_geq | apply s_eql | apply s_neq); exact rfl; all_goals (intro _; try (exfalso; omega)))
 | (apply s_lenSl; exact rfl)
 | (apply c_seq)
 | (apply c_reg)
 | (apply c_exitH)
 | (apply c_condF; exact rfl)
 | (with_reducible apply k_c)
      apply c_pre (vs := [.sl 0 1 0 b.length]) (H' := [some (.data (iL d))])
      · simp [go_sem]
      repeat' first
 | (apply s_mov; (focus ((conv => lhs; whnf); done)))
 | (apply c_nil)
 | (apply c_seq)
 | (apply c_reg)
 | (apply c_ret)
 | (with_reducible apply k_c)
      simp [finish, ress, resOf, look, tupOf, go_sem]
    · have hv : v < b.length := hB.lt v (by simp)
      have hvd := (hB.iff v hv).2 (by simp)
      have e0 : dn ++ v :: q = dn ++ [v] ++ q := by simp
      have hB' : Bfs b.length d (dn ++ [v]) q := ⟨hB.len, hB.low, e0 ▸ hB.nd, e0 ▸ hB.lt, e0 ▸ hB.iff, e0 ▸ hB.far⟩
      have hfar := hB.far v hv
      have hcap : ∀ {d1 : List Int} {dn1 q1 : List Nat}, Bfs b.length d1 dn1 q1 → (dn1 ++ q1).length ≤ b.length := fun h => by
        have := nodup_len h.nd fun w hw => List.mem_range.2 (h.lt w hw)
        rwa [List.length_range] at this
      have hcap0 := hcap hB
      obtain ⟨f, rfl⟩ : ∃ j, f = j + 1 := ⟨f - 1, by simp only [List.length_cons] at hf; omega⟩
      simp only [bfsF] at hfR
      obtain ⟨hpop, hdec⟩ := Bfs.pop (b := b) hB
      have hrow := hx.at (i := (v : Int)) ⟨by omega, by omega⟩
      have hrl := hb.row v hv
      have lr : ∀ H, evP H .len [llAt x (v : Int)] = some (.int .i64 ((b.length : Nat) : Int)) := fun H => by rw [← hrl]; exact p_lenI hrow
      have fr := hrow.free
      have hld := fun (H : Heap) (h : H.data? 1 = some (iL (pr ++ (v : Int) :: nI q))) => p_ldq (id := 1) h
      have hsl := fun (H : Heap) (h : H.data? 1 = some (iL (pr ++ (v : Int) :: nI q))) => p_slq (id := 1) (k := q.length) h (nI_len q)
      have ixq := fun H => p_ixq (H := H) (id := 1) (o := pr.length) (k := q.length)
      have e1 : pr ++ nI (v :: q) = pr ++ (v : Int) :: nI q := rfl
      have e2 : pr ++ (v : Int) :: nI q = pr ++ [(v : Int)] ++ nI q := by simp
      rw [e1]
      simp only [List.length_cons]
      repeat' first
 | (apply s_mov; (focus ((conv => lhs; whnf); done)))
 | (apply c_nil)
 | ((first | apply s_lss | apply s_leq | apply s_gtr | apply s_geq | apply s_eql | apply s_neq); exact rfl; all_goals (intro _; try (exfalso; omega)))
 | (apply s_pn; (focus (repeat (first | apply opds_nil | (apply opds_cons; (first | (focus ((conv => lhs; whnf); done)) | exact rfl))))); exact ixq _)
 | (apply s_pn; (focus (repeat (first | apply opds_nil | (apply opds_cons; (first | (focus ((conv => lhs; whnf); done)) | exact rfl))))); exact hld _ rfl)
 | (apply s_pn; (focus (repeat (first | apply opds_nil | (apply opds_cons; (first | (focus ((conv => lhs; whnf); done)) | exact rfl))))); exact hsl _ rfl)
 | (apply s_pn; (focus (repeat (first | apply opds_nil | (apply opds_cons; (first | (focus ((conv => lhs; whnf); done)) | exact rfl))))); exact lr _)
 | (apply s_lenSl; exact rfl)
 | (apply s_idxLL; (focus ((conv => lhs; whnf); done)); exact rfl; assumption; omega)
 | (apply s_ldLL; exact rfl; assumption; omega)
 | (apply c_seq)
 | (apply c_reg)
 | (apply c_block)
 | (apply c_skip)
 | (apply c_condT; exact rfl)
 | (with_reducible apply k_c)
      have gcI : ∀ (o k j : Nat) (C D : List AV), gc 0 [x, .sl 0 1 0 b.length, .sl 1 1 o k, .int .i64 (v : Int), llAt x (v : Int), .int .i64 ((b.length : Nat) : Int), .int .i64 (j : Int)] [some (.data C), some (.data D)] = some ([x, .sl 0 1 0 b.length, .sl 1 1 o k, .int .i64 (v : Int), llAt x (v : Int), .int .i64 ((b.length : Nat) : Int), .int .i64 (j : Int)], [some (.data C), some (.data D)]) := fun o k j C D => by simp [go_sem, fx, fr]
      rw [e2]
      refine c_loop ?_
      refine loop_gc (σ := Nat × List Int) (fun p => [x, .sl 0 1 0 b.length, .sl 1 1 p.2.length (bIn b v p.1 (d, q)).2.length, .int .i64 (v : Int), llAt x (v : Int), .int .i64 ((b.length : Nat) : Int), .int .i64 (p.1 : Int)]) (fun p => [some (.data (iL (bIn b v p.1 (d, q)).1)), some (.data (iL (p.2 ++ nI (bIn b v p.1 (d, q)).2)))]) (fun p => p.1 ≤ b.length) (fun p => b.length - p.1) ?_ _ (0, pr ++ [(v : Int)]) _ _ (Nat.zero_le _) (by show b.length - 0 < _; omega) (gcI _ _ 0 _ _)
      intro ⟨j, pr1⟩ hj K3 hK3
      dsimp only at hj hK3 ⊢
      obtain ⟨hB1, hv1, hm1⟩ := bIn_ok (b := b) hB' hv hvd j hj
      by_cases hjn : j < b.length
      · have hcap1 := hcap hB1
        have hstep : bIn b v (j + 1) (d, q) = if 0 < getI (getLL b (v : Int)) (j : Int) ∧ getI (bIn b v j (d, q)).1 (j : Int) < 0 then ((bIn b v j (d, q)).1.set j (getI (bIn b v j (d, q)).1 (v : Int) + 1), (bIn b v j (d, q)).2 ++ [j]) else bIn b v j (d, q) := rfl
        have hK31 := fun pr2 : List Int => hK3 (j + 1, pr2)
        dsimp only at hK31
        simp only [hstep] at hK31
        have hlow := hB1.low j hjn
        have hlow2 := hB.far v hv
        generalize bIn b v j (d, q) = st at *
        obtain ⟨d1, q1⟩ := st
        dsimp only at *
        have hl1 := hB1.len
        have ldk := fun (H : Heap) (h : H.data? 0 = some (iL d1)) => p_ldO (id := 0) (i := j) h (by omega)
        have ldv := fun (H : Heap) (h : H.data? 0 = some (iL d1)) => p_ldO (id := 0) (i := v) h (by omega)
        have stk := fun (vv : Int) call (H : Heap) (h : H.data? 0 = some (iL d1)) => e_stO (call := call) (H := H) (id := 0) (l := d1) (i := j) (v := vv) h (by omega)
        have apq := fun call (H : Heap) (h : H.data? 1 = some (iL (pr1 ++ nI q1))) => e_appO (call := call) (a := (j : Int)) (id := 1) h rfl (nI_len q1) (by simp at hcap1; unfold most; omega)
        by_cases hc : 0 < getI (getLL b (v : Int)) (j : Int) ∧ getI d1 (j : Int) < 0
        · simp only [if_pos hc] at hK31
          obtain ⟨hc1, hc2⟩ := hc
          repeat' first
 | (apply s_mov; (focus ((conv => lhs; whnf); done)))
 | (apply s_gT; exact rfl)
 | (apply c_nil)
 | (apply s_pickT; exact rfl; (focus ((conv => lhs; whnf); done)))
 | ((first | apply s_lss | apply s_leq | apply s_gtr | apply s_geq | apply s_eql | apply s_neq); exact rfl; all_goals (intro _; try (exfalso; omega)))
 | ((first | apply s_add | apply s_sub); exact rfl; omega)
 | (apply s_pn; (focus (repeat (first | apply opds_nil | (apply opds_cons; (first | (focus ((conv => lhs; whnf); done)) | exact rfl))))); exact p_ixO hjn)
 | (apply s_pn; (focus (repeat (first | apply opds_nil | (apply opds_cons; (first | (focus ((conv => lhs; whnf); done)) | exact rfl))))); exact p_ixO hv)
 | (apply s_pn; (focus (repeat (first | apply opds_nil | (apply opds_cons; (first | (focus ((conv => lhs; whnf); done)) | exact rfl))))); exact ldk _ rfl)
 | (apply s_pn; (focus (repeat (first | apply opds_nil | (apply opds_cons; (first | (focus ((conv => lhs; whnf); done)) | exact rfl))))); exact ldv _ rfl)
 | (apply s_st; (focus (repeat (first | apply opds_nil | (apply opds_cons; (first | (focus ((conv => lhs; whnf); done)) | exact rfl))))); exact stk _ _ _ rfl)
 | (apply s_en; (focus (repeat (first | apply opds_nil | (apply opds_cons; (first | (focus ((conv => lhs; whnf); done)) | exact rfl))))); exact e_bld1 rfl rfl rfl rfl)
 | (apply s_en; (focus (repeat (first | apply opds_nil | (apply opds_cons; (first | (focus ((conv => lhs; whnf); done)) | exact rfl))))); exact apq _ _ rfl)
 | (apply s_idx; (focus ((conv => lhs; whnf); done)); exact rfl; (first | assumption | (apply IsLL.at; assumption; omega)); omega)
 | (apply s_ldI; exact rfl; omega)
 | (apply c_seq)
 | (apply c_reg)
 | (apply c_block)
 | (apply c_skip)
 | (apply c_condT; exact rfl)
 | (with_reducible apply k_c)
          have eq1 : nI q1 ++ [(j : Int)] = nI (q1 ++ [j]) := by simp [nI]
          rw [eq1] at *
          refine hK31 [] _ _ (by omega) (by show b.length - (j + 1) < _; omega) ?_
          simp [go_sem, fx, fr]
        · simp only [if_neg hc] at hK31
          repeat' first
 | (apply s_mov; (focus ((conv => lhs; whnf); done)))
 | (apply s_gT; exact rfl)
 | (apply s_gF; exact rfl)
 | (apply c_nil)
 | (apply s_pickT; exact rfl; (focus ((conv => lhs; whnf); done)))
 | (apply s_pickF; exact rfl; (focus ((conv => lhs; whnf); done)))
 | ((first | apply s_lss | apply s_leq | apply s_gtr | apply s_geq | apply s_eql | apply s_neq); exact rfl; all_goals (intro _; try (exfalso; omega)))
 | ((first | apply s_add | apply s_sub); exact rfl; omega)
 | (apply s_pn; (focus (repeat (first | apply opds_nil | (apply opds_cons; (first | (focus ((conv => lhs; whnf); done)) | exact rfl))))); exact p_ixO hjn)
 | (apply s_pn; (focus (repeat (first | apply opds_nil | (apply opds_cons; (first | (focus ((conv => lhs; whnf); done)) | exact rfl))))); exact ldk _ rfl)
 | (apply s_idx; (focus ((conv => lhs; whnf); done)); exact rfl; (first | assumption | (apply IsLL.at; assumption; omega)); omega)
 | (apply s_ldI; exact rfl; omega)
 | (apply c_seq)
 | (apply c_reg)
 | (apply c_block)
 | (apply c_skip)
 | (apply c_condT; exact rfl)
 | (apply c_condF; exact rfl)
 | (with_reducible apply k_c)
          all_goals first | exact hK31 pr1 _ _ (by omega) (by show b.length - (j + 1) < _; omega) (gcI _ _ (j + 1) _ _) | (exfalso; omega) | skip
      · obtain rfl : j = b.length := by omega
        repeat' first
 | (apply c_nil)
 | ((first | apply s_lss | apply s_leq | apply s_gtr | apply s_geq | apply s_eql | apply s_neq); exact rfl; all_goals (intro _; try (exfalso; omega)))
 | (apply c_seq)
 | (apply c_reg)
 | (apply c_exitH)
 | (apply c_condF; exact rfl)
 | (with_reducible apply k_c)
        exact hK2 ((bIn b v b.length (d, q)).1, dn ++ [v], (bIn b v b.length (d, q)).2, pr1) _ _ ⟨hpop, f, by dsimp only; omega, hfR⟩ (by dsimp only; exact hdec) (gcQ _ _ _ _)
end Go.AM.Ch
