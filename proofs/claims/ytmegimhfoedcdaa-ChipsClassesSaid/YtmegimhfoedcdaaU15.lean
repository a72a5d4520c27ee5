/- A part of the proof: U12 U13 U14 U24 U25 U15. -/
import Derived.Test.YtmegimhfoedcdaaU11
set_option linter.unusedVariables false
set_option linter.unusedSimpArgs false
set_option linter.unusedSectionVars false
namespace Go.AM.Ch
attribute [local go_sem] gc subHeap reach_skip ren_free reach_new reach_newp reach_end rangeL roots boxCells nodupB posOf renL AV.ren pickO renH renO looks look bindEnv envOf reach_int reach_bool reach_nilS reach_rd putRow cells_sl cells_int cells_bool cells_nilS cells_rd cells_agg reach_agg reach_tup idFreeL idf_sl idf_ptr idf_int idf_bool idf_nilS idf_rd reach_fn reach_mp cells_fn cells_ptr cells_mp idf_mp idf_fn idf_agg idf_tup
set_option maxHeartbeats 4000000
def nI (l : List Nat) : List Int := l.map fun (k : Nat) => (k : Int)
theorem nI_len (l : List Nat) : (nI l).length = l.length := by simp [nI]
theorem e_appO {call : CallF} {H : Heap} {id o k : Nat} {pr : List Int} {q : List Int} {a : Int} (hH : H.data? id = some (iL (pr ++ q))) (ho : pr.length = o) (hk : q.length = k) (hm : k + 1 ≤ most) :
    evE call H (.app false 1 8) [.sl id 1 o k, .rd 1 1 [.int .i64 a]] = some (.sl (H.set id none).length 1 0 (k + 1), H.set id none ++ [some (.data (iL (q ++ [a])))]) := by
  subst ho; subst hk
  have e1 : iL (pr ++ q) = iL pr ++ iL q := by simp [iL]
  have e2 : iL (q ++ [a]) = iL q ++ [.int .i64 a] := by simp [iL]
  have l1 := iL_len pr
  have l2 := iL_len q
  rw [e1] at hH
  rw [e2]
  have e3 : (List.drop pr.length (iL pr ++ iL q)) = iL q := by rw [← l1]; simp
  have e4 : (iL q).take q.length = iL q := by rw [← l2]; simp
  simp [evE, appOf, szOk, lenOf, rowOf, hm, killRow, newRow, hH, l1, l2, e3, e4]
theorem p_ixq {H : Heap} {id o k : Nat} : evP H (.idxA 1) [.sl id 1 o (k + 1), .int .i64 0] = some (.ptr id o) := by
  simp [evP, idxSl]
theorem p_ldq {H : Heap} {id : Nat} {pr q : List Int} {a : Int} (hH : H.data? id = some (iL (pr ++ a :: q))) : evP H (.ld false 1) [.ptr id pr.length] = some (.int .i64 a) := by
  rw [p_ldO hH (by simp), getI_nat]
  simp [List.getD]
theorem p_slq {H : Heap} {id k : Nat} {pr q : List Int} {a : Int} (hH : H.data? id = some (iL (pr ++ a :: q))) (hk : q.length = k) : evP H (.slc 1 true false) [.sl id 1 pr.length (k + 1), .int .i64 1] = some (.sl id 1 (pr ++ [a]).length k) := by
  subst hk
  have hc := cells_of_data hH
  have hl := iL_len (pr ++ a :: q)
  simp [evP, slcOf, natOf, lenOf]
def d0 (n q0 : Nat) : List Int := (List.replicate n (-1)).set q0 0
theorem d0_get {n q0 k : Nat} (hq : q0 < n) (hk : k < n) : getI (d0 n q0) (k : Int) = if k = q0 then 0 else -1 := by
  unfold d0
  rw [getI_set (by simpa using hq)]
  split
  · rfl
  · rw [getI_nat]; simp [List.getD, hk]
theorem Bfs.init {n q0 : Nat} (hq : q0 < n) : Bfs n (d0 n q0) [] [q0] := by
  refine ⟨by simp [d0], fun k hk => ?_, by simp, fun v hv => ?_, fun k hk => ?_, fun k hk => ?_⟩
  · rw [d0_get hq hk]; split <;> omega
  · simp at hv; omega
  · rw [d0_get hq hk]; split <;> simp <;> omega
  · rw [d0_get hq hk]; split <;> simp <;> omega
theorem negs_le (d : List Int) : negs d ≤ d.length := List.countP_le_length
def dist (b : List (List Int)) (q0 : Nat) : List Int × List Nat := bfsF b b.length (2 * b.length + 2) (d0 b.length q0) [] [q0]
set_option maxHeartbeats 8000000
theorem f84 {x : AV} {b : List (List Int)} (hx : IsLL x b) (hb : Bd b) {q0 : Nat} (hq : q0 < b.length) {m : Nat} (hm : 200 ≤ m) : evF tab it m 84 [x, .int .i64 (q0 : Int)] [] = some (.sl 0 1 0 b.length, [some (.data (iL (dist b q0).1))]) := by
  obtain ⟨m, rfl⟩ : ∃ j, m = j + 1 := ⟨m - 1, by omega⟩
  have fx := hx.free
  have hl12 := hb.len
  have mk := fun call H => @e_mkI call H b.length (by unfold most; omega)
  have lx : ∀ H, evP H .len [x] = some (.int .i64 ((b.length : Nat) : Int)) := fun H => by cases hx <;> rfl
  have bld : ∀ call H (a : Int), evE call H (.bldS true false 1 1 [.int .i64 0] [(0, 1)]) [.int .i64 a] = some (.sl H.length 1 0 1, H ++ [some (.data [.int .i64 a])]) := fun call H a => rfl
  generalize hR : dist b q0 = R
  refine f_enter rfl rfl ?_
  generalize evF tab it m = call at *
  have gcO : ∀ (v : Nat) (C : List AV), gc 0 [x, .int .i64 (q0 : Int), .sl 0 1 0 b.length, .int .i64 ((b.length : Nat) : Int), .int .i64 (v : Int)] [some (.data C)] = some ([x, .int .i64 (q0 : Int), .sl 0 1 0 b.length, .int .i64 ((b.length : Nat) : Int), .int .i64 (v : Int)], [some (.data C)]) := fun v C => by simp [go_sem, fx]
  repeat' first
 | (apply s_mov; exact aW)
 | (apply c_nil)
 | (apply s_pn; exact aO; exact lx _)
 | (apply s_en; exact aO; exact mk _ _)
 | (apply s_lenSl; exact rfl)
 | (apply c_seq)
 | (apply c_reg)
 | (apply c_block)
 | (with_reducible apply k_c)
  refine c_loop ?_
  refine loop_gc (σ := Nat × List Int) (fun p => [x, .int .i64 (q0 : Int), .sl 0 1 0 b.length, .int .i64 ((b.length : Nat) : Int), .int .i64 (p.1 : Int)]) (fun p => [some (.data (iL p.2))]) (fun p => p.1 ≤ b.length ∧ p.2.length = b.length ∧ ∀ i : Nat, i < p.1 → getI p.2 (i : Int) = -1) (fun p => b.length - p.1) ?_ _ (0, List.replicate b.length 0) _ _ ⟨by omega, by simp, by omega⟩ (by show b.length - 0 < _; omega) (gcO 0 _)
  intro ⟨v, out⟩ ⟨hv, hol, hout⟩ K hK
  dsimp only at hv hol hout hK ⊢
  by_cases hvn : v < b.length
  · have hs1 := fun (vv : Int) call H h => e_stO (call := call) (H := H) (id := 0) (l := out) (i := v) (v := vv) h (by omega)
    repeat' first
 | (apply s_mov; exact aW)
 | (apply c_nil)
 | (apply s_lss; exact rfl; all_goals (intro _; try (exfalso; omega)))
 | (apply s_add; exact rfl; omega)
 | (apply s_pn; exact aO; exact p_ixO hvn)
 | (apply s_st; exact aO; exact hs1 _ _ _ rfl)
 | (apply c_seq)
 | (apply c_reg)
 | (apply c_block)
 | (apply c_skip)
 | (apply c_condT; exact rfl)
 | (with_reducible apply k_c)
    refine hK (v + 1, out.set v (-1)) _ _ ⟨by omega, by simp [hol], fun i hi => ?_⟩ (by show b.length - (v + 1) < _; omega) (gcO (v + 1) _)
    dsimp only
    rw [getI_set (by omega)]
    split
    · rfl
    · exact hout i (by omega)
  · obtain rfl : v = b.length := by omega
    obtain rfl : out = List.replicate b.length (-1) := by
      refine List.ext_getElem (by simp [hol]) fun j h1 h2 => ?_
      have := hout j (by omega)
      rw [getI_nat] at this
      simpa [List.getD, h1] using this
    have hs1 := fun (vv : Int) call H h => e_stO (call := call) (H := H) (id := 0) (l := List.replicate b.length (-1)) (i := q0) (v := vv) h (by simpa using hq)
    repeat' first
 | (apply c_nil)
 | (apply s_lss; exact rfl; all_goals (intro _; try (exfalso; omega)))
 | (apply c_seq)
 | (apply c_reg)
 | (apply c_exitH)
 | (apply c_condF; exact rfl)
 | (with_reducible apply k_c)
    apply c_pre (vs := [x, .int .i64 (q0 : Int), .sl 0 1 0 b.length]) (H' := [some (.data (iL (List.replicate b.length (-1))))])
    · simp [go_sem, fx]
    repeat' first
 | (apply s_mov; exact aW)
 | (apply c_nil)
 | (apply s_pn; exact aO; exact p_ixO hq)
 | (apply s_st; exact aO; exact hs1 _ _ _ rfl)
 | (apply s_en; exact aO; exact bld _ _ _)
 | (apply c_seq)
 | (apply c_reg)
 | (apply c_block)
 | (with_reducible apply k_c)
    have gcQ : ∀ (o k : Nat) (C D : List AV), gc 0 [x, .sl 0 1 0 b.length, .sl 1 1 o k] [some (.data C), some (.data D)] = some ([x, .sl 0 1 0 b.length, .sl 1 1 o k], [some (.data C), some (.data D)]) := fun o k C D => by simp [go_sem, fx]
    have hn0 := negs_le (d0 b.length q0)
    have hd0 : (d0 b.length q0).length = b.length := by simp [d0]
    refine c_loop ?_
    refine loop_gc (σ := List Int × List Nat × List Nat × List Int) (fun p => [x, .sl 0 1 0 b.length, .sl 1 1 p.2.2.2.length p.2.2.1.length]) (fun p => [some (.data (iL p.1)), some (.data (iL (p.2.2.2 ++ nI p.2.2.1)))]) (fun p => Bfs b.length p.1 p.2.1 p.2.2.1 ∧ ∃ f, 2 * negs p.1 + p.2.2.1.length ≤ f ∧ bfsF b b.length f p.1 p.2.1 p.2.2.1 = R) (fun p => 2 * negs p.1 + p.2.2.1.length) ?_ _ (d0 b.length q0, [], [q0], []) _ _ ⟨Bfs.init hq, 2 * b.length + 2, by simp only [List.length_cons, List.length_nil]; omega, hR⟩ (by simp only [List.length_cons, List.length_nil]; omega) (gcQ 0 1 _ _)
    intro ⟨d, dn, q, pr⟩ ⟨hB, f, hf, hfR⟩ K2 hK2
    dsimp only at hB hf hfR hK2 ⊢
    have hdl := hB.len
    rcases q with _ | ⟨v, q⟩
    · have : R = (d, dn) := by rw [← hfR]; cases f <;> rfl
      subst this
      simp only [List.length_nil]
      repeat' first
 | (apply s_mov; exact aW)
 | (apply c_nil)
 | (apply s_gtr; exact rfl; all_goals (intro _; try (exfalso; omega)))
 | (apply s_lenSl; exact rfl)
 | (apply c_seq)
 | (apply c_reg)
 | (apply c_exitH)
 | (apply c_condF; exact rfl)
 | (with_reducible apply k_c)
      apply c_pre (vs := [.sl 0 1 0 b.length]) (H' := [some (.data (iL d))])
      · simp [go_sem]
      repeat' first
 | (apply s_mov; exact aW)
 | (apply c_nil)
 | (apply c_seq)
 | (apply c_reg)
 | (apply c_ret)
 | (with_reducible apply k_c)
      simp [finish, ress, resOf, look, tupOf, go_sem]
    · have hv : v < b.length := hB.lt v (by simp)
      have hvd := (hB.iff v hv).2 (by simp)
      have e0 : dn ++ v :: q = dn ++ [v] ++ q := by simp
      have hB' : Bfs b.length d (dn ++ [v]) q := ⟨hB.len, hB.low, e0 ▸ hB.nd, e0 ▸ hB.lt, e0 ▸ hB.iff, e0 ▸ hB.far⟩
      have hfar := hB.far v hv
      have hcap : ∀ {d1 : List Int} {dn1 q1 : List Nat}, Bfs b.length d1 dn1 q1 → (dn1 ++ q1).length ≤ b.length := fun h => by
        have := nodup_len h.nd fun w hw => List.mem_range.2 (h.lt w hw)
        rwa [List.length_range] at this
      have hcap0 := hcap hB
      obtain ⟨f, rfl⟩ : ∃ j, f = j + 1 := ⟨f - 1, by simp only [List.length_cons] at hf; omega⟩
      simp only [bfsF] at hfR
      obtain ⟨hpop, hdec⟩ := Bfs.pop (b := b) hB
      have hrow := hx.at (i := (v : Int)) ⟨by omega, by omega⟩
      have hrl := hb.row v hv
      have lr : ∀ H, evP H .len [llAt x (v : Int)] = some (.int .i64 ((b.length : Nat) : Int)) := fun H => by rw [← hrl]; exact p_lenI hrow
      have fr := hrow.free
      have hld := fun (H : Heap) (h : H.data? 1 = some (iL (pr ++ (v : Int) :: nI q))) => p_ldq (id := 1) h
      have hsl := fun (H : Heap) (h : H.data? 1 = some (iL (pr ++ (v : Int) :: nI q))) => p_slq (id := 1) (k := q.length) h (nI_len q)
      have ixq := fun H => p_ixq (H := H) (id := 1) (o := pr.length) (k := q.length)
      have e1 : pr ++ nI (v :: q) = pr ++ (v : Int) :: nI q := rfl
      have e2 : pr ++ (v : Int) :: nI q = pr ++ [(v : Int)] ++ nI q := by simp
      rw [e1]
      simp only [List.length_cons]
      repeat' first
 | (apply s_mov; exact aW)
 | (apply c_nil)
 | (apply s_gtr; exact rfl; all_goals (intro _; try (exfalso; omega)))
 | (apply s_pn; exact aO; exact ixq _)
 | (apply s_pn; exact aO; exact hld _ rfl)
 | (apply s_pn; exact aO; exact hsl _ rfl)
 | (apply s_pn; exact aO; exact lr _)
 | (apply s_lenSl; exact rfl)
 | (apply s_idxLL; exact aW; exact rfl; assumption; omega)
 | (apply s_ldLL; exact rfl; assumption; omega)
 | (apply c_seq)
 | (apply c_reg)
 | (apply c_block)
 | (apply c_skip)
 | (apply c_condT; exact rfl)
 | (with_reducible apply k_c)
      have gcI : ∀ (o k j : Nat) (C D : List AV), gc 0 [x, .sl 0 1 0 b.length, .sl 1 1 o k, .int .i64 (v : Int), llAt x (v : Int), .int .i64 ((b.length : Nat) : Int), .int .i64 (j : Int)] [some (.data C), some (.data D)] = some ([x, .sl 0 1 0 b.length, .sl 1 1 o k, .int .i64 (v : Int), llAt x (v : Int), .int .i64 ((b.length : Nat) : Int), .int .i64 (j : Int)], [some (.data C), some (.data D)]) := fun o k j C D => by simp [go_sem, fx, fr]
      rw [e2]
      refine c_loop ?_
      refine loop_gc (σ := Nat × List Int) (fun p => [x, .sl 0 1 0 b.length, .sl 1 1 p.2.length (bIn b v p.1 (d, q)).2.length, .int .i64 (v : Int), llAt x (v : Int), .int .i64 ((b.length : Nat) : Int), .int .i64 (p.1 : Int)]) (fun p => [some (.data (iL (bIn b v p.1 (d, q)).1)), some (.data (iL (p.2 ++ nI (bIn b v p.1 (d, q)).2)))]) (fun p => p.1 ≤ b.length) (fun p => b.length - p.1) ?_ _ (0, pr ++ [(v : Int)]) _ _ (Nat.zero_le _) (by show b.length - 0 < _; omega) (gcI _ _ 0 _ _)
      intro ⟨j, pr1⟩ hj K3 hK3
      dsimp only at hj hK3 ⊢
      obtain ⟨hB1, hv1, hm1⟩ := bIn_ok (b := b) hB' hv hvd j hj
      by_cases hjn : j < b.length
      · have hcap1 := hcap hB1
        have hstep : bIn b v (j + 1) (d, q) = if 0 < getI (getLL b (v : Int)) (j : Int) ∧ getI (bIn b v j (d, q)).1 (j : Int) < 0 then ((bIn b v j (d, q)).1.set j (getI (bIn b v j (d, q)).1 (v : Int) + 1), (bIn b v j (d, q)).2 ++ [j]) else bIn b v j (d, q) := rfl
        have hK31 := fun pr2 : List Int => hK3 (j + 1, pr2)
        dsimp only at hK31
        simp only [hstep] at hK31
        have hlow := hB1.low j hjn
        have hlow2 := hB.far v hv
        generalize bIn b v j (d, q) = st at *
        obtain ⟨d1, q1⟩ := st
        dsimp only at *
        have hl1 := hB1.len
        have ldk := fun (H : Heap) (h : H.data? 0 = some (iL d1)) => p_ldO (id := 0) (i := j) h (by omega)
        have ldv := fun (H : Heap) (h : H.data? 0 = some (iL d1)) => p_ldO (id := 0) (i := v) h (by omega)
        have stk := fun (vv : Int) call (H : Heap) (h : H.data? 0 = some (iL d1)) => e_stO (call := call) (H := H) (id := 0) (l := d1) (i := j) (v := vv) h (by omega)
        have apq := fun call (H : Heap) (h : H.data? 1 = some (iL (pr1 ++ nI q1))) => e_appO (call := call) (a := (j : Int)) (id := 1) h rfl (nI_len q1) (by simp at hcap1; unfold most; omega)
        by_cases hc : 0 < getI (getLL b (v : Int)) (j : Int) ∧ getI d1 (j : Int) < 0
        · simp only [if_pos hc] at hK31
          obtain ⟨hc1, hc2⟩ := hc
          repeat' first
 | (apply s_mov; exact aW)
 | (apply s_gT; exact rfl)
 | (apply c_nil)
 | (apply s_pickT; exact rfl; exact aW)
 | (apply s_lss; exact rfl; all_goals (intro _; try (exfalso; omega)))
 | (apply s_gtr; exact rfl; all_goals (intro _; try (exfalso; omega)))
 | (apply s_add; exact rfl; omega)
 | (apply s_pn; exact aO; exact p_ixO hjn)
 | (apply s_pn; exact aO; exact p_ixO hv)
 | (apply s_pn; exact aO; exact ldk _ rfl)
 | (apply s_pn; exact aO; exact ldv _ rfl)
 | (apply s_st; exact aO; exact stk _ _ _ rfl)
 | (apply s_en; exact aO; exact e_bld1 rfl rfl rfl rfl)
 | (apply s_en; exact aO; exact apq _ _ rfl)
 | (apply s_idx; exact aW; exact rfl; exact aI; omega)
 | (apply s_ldI; exact rfl; omega)
 | (apply c_seq)
 | (apply c_reg)
 | (apply c_block)
 | (apply c_skip)
 | (apply c_condT; exact rfl)
 | (with_reducible apply k_c)
          have eq1 : nI q1 ++ [(j : Int)] = nI (q1 ++ [j]) := by simp [nI]
          rw [eq1] at *
          refine hK31 [] _ _ (by omega) (by show b.length - (j + 1) < _; omega) ?_
          simp [go_sem, fx, fr]
        · simp only [if_neg hc] at hK31
          repeat' first
 | (apply s_mov; exact aW)
 | (apply s_gT; exact rfl)
 | (apply s_gF; exact rfl)
 | (apply c_nil)
 | (apply s_pickT; exact rfl; exact aW)
 | (apply s_pickF; exact rfl; exact aW)
 | (apply s_lss; exact rfl; all_goals (intro _; try (exfalso; omega)))
 | (apply s_gtr; exact rfl; all_goals (intro _; try (exfalso; omega)))
 | (apply s_add; exact rfl; omega)
 | (apply s_pn; exact aO; exact p_ixO hjn)
 | (apply s_pn; exact aO; exact ldk _ rfl)
 | (apply s_idx; exact aW; exact rfl; exact aI; omega)
 | (apply s_ldI; exact rfl; omega)
 | (apply c_seq)
 | (apply c_reg)
 | (apply c_block)
 | (apply c_skip)
 | (apply c_condT; exact rfl)
 | (apply c_condF; exact rfl)
 | (with_reducible apply k_c)
          all_goals first | exact hK31 pr1 _ _ (by omega) (by show b.length - (j + 1) < _; omega) (gcI _ _ (j + 1) _ _) | (exfalso; omega) | skip
      · obtain rfl : j = b.length := by omega
        repeat' first
 | (apply c_nil)
 | (apply s_lss; exact rfl; all_goals (intro _; try (exfalso; omega)))
 | (apply c_seq)
 | (apply c_reg)
 | (apply c_exitH)
 | (apply c_condF; exact rfl)
 | (with_reducible apply k_c)
        exact hK2 ((bIn b v b.length (d, q)).1, dn ++ [v], (bIn b v b.length (d, q)).2, pr1) _ _ ⟨hpop, f, by dsimp only; omega, hfR⟩ (by dsimp only; exact hdec) (gcQ _ _ _ _)
set_option maxHeartbeats 4000000
theorem bIn_len {b : List (List Int)} {v : Nat} : ∀ (k : Nat) (st : List Int × List Nat), (bIn b v k st).1.length = st.1.length
  | 0, st => rfl
  | k + 1, st => by
    simp only [bIn]
    split
    · simp [bIn_len k st]
    · exact bIn_len k st
theorem bfsF_len {b : List (List Int)} {n : Nat} : ∀ (f : Nat) (d : List Int) (dn q : List Nat), (bfsF b n f d dn q).1.length = d.length
  | 0, d, dn, q => rfl
  | f + 1, d, dn, [] => rfl
  | f + 1, d, dn, v :: q => by
    simp only [bfsF]
    rw [bfsF_len f, bIn_len]
theorem dist_len (b : List (List Int)) (q0 : Nat) : (dist b q0).1.length = b.length := by
  unfold dist
  rw [bfsF_len]
  simp [d0]
theorem isL_rd {l : List Int} : IsL (.rd 1 l.length (iL l)) l := .rd l
theorem c84 {x : AV} {b : List (List Int)} (hx : IsLL x b) (hb : Bd b) {q0 : Nat} (hq : q0 < b.length) {m : Nat} (hm : 200 ≤ m) (H : Heap) : callPure (evF tab it m) true 84 [x, .int .i64 (q0 : Int)] H = some (.rd 1 (dist b q0).1.length (iL (dist b q0).1), H) := by
  refine callPure_frz (by simp [idFreeL, AV.idFree, hx.free]) (by simp) (f84 hx hb hq hm) ?_
  have h1 := iL_len (dist b q0).1
  rw [dist_len] at h1 ⊢
  simp [frzV_sl, Heap.data?, h1, List.take_of_length_le]
theorem bfsF_end {b : List (List Int)} {n : Nat} : ∀ (f : Nat) (d : List Int) (dn q : List Nat), Bfs n d dn q → 2 * negs d + q.length ≤ f → Bfs n (bfsF b n f d dn q).1 (bfsF b n f d dn q).2 []
  | 0, d, dn, q, h, hf => by
    have : q = [] := List.eq_nil_of_length_eq_zero (by omega)
    subst this
    exact h
  | f + 1, d, dn, [], h, hf => h
  | f + 1, d, dn, v :: q, h, hf => by
    obtain ⟨a, c⟩ := Bfs.pop (b := b) h
    simp only [bfsF]
    exact bfsF_end f _ _ _ a (by omega)
def Conn (b : List (List Int)) : Prop := (dist b 0).2.length = b.length
instance (b : List (List Int)) : Decidable (Conn b) := by unfold Conn; infer_instance
theorem conn_iff {b : List (List Int)} (hn : 0 < b.length) : (-1 : Int) ∉ (dist b 0).1 ↔ Conn b := by
  have hB : Bfs b.length (dist b 0).1 (dist b 0).2 [] := bfsF_end _ _ _ _ (Bfs.init hn) (by
    have := negs_le (d0 b.length 0)
    have hl : (d0 b.length 0).length = b.length := by simp [d0]
    simp only [List.length_cons, List.length_nil]
    omega)
  have hl := dist_len b 0
  unfold Conn
  rw [← hB.done]
  constructor
  · intro h k hk e
    refine h ?_
    rw [← e, getI_nat]
    simp [List.getD, show k < (dist b 0).1.length by omega]
  · intro h hm
    obtain ⟨k, hk, e⟩ := List.getElem_of_mem hm
    refine h k (by omega) ?_
    rw [getI_nat]
    simp [List.getD, hk, e]
set_option maxHeartbeats 8000000
def Ed (b : List (List Int)) (i k : Nat) : Prop := (0 ≤ getI (getLL b (i : Int)) (k : Int) ∧ getI (getLL b (i : Int)) (k : Int) ≤ 3) ∧ getI (getLL b (i : Int)) (k : Int) = getI (getLL b (k : Int)) (i : Int) ∧ (i = k → getI (getLL b (i : Int)) (k : Int) = 0)
structure IsB (b : List (List Int)) : Prop where
  n1 : 1 ≤ b.length
  n2 : b.length ≤ 10
  row : ∀ v : Nat, v < b.length → (getLL b (v : Int)).length = b.length
  ed : ∀ i k : Nat, i < b.length → k < b.length → Ed b i k
  con : Conn b
noncomputable instance (b : List (List Int)) : Decidable (IsB b) := Classical.propDecidable _
theorem IsB.bd {b : List (List Int)} (h : IsB b) : Bd b := ⟨by have := h.n2; omega, h.row, fun v k hv hk => (h.ed v k hv hk).1⟩
theorem IsB.sym {b : List (List Int)} (h : IsB b) : Sym b := fun v k hv hk => (h.ed v k hv hk).2.1
theorem f60 {x : AV} {b : List (List Int)} (hx : IsLL x b) (hl : b.length < 100) {m : Nat} (hm : 2100 ≤ m) : evF tab it m 60 [x] [] = some (.bool (decide (IsB b)), []) := by
  obtain ⟨m, rfl⟩ : ∃ j, m = j + 1 := ⟨m - 1, by omega⟩
  have fx := hx.free
  have lx : ∀ H, evP H .len [x] = some (.int .i64 ((b.length : Nat) : Int)) := fun H => by cases hx <;> rfl
  have e53 := fun (a lo hi : Int) H => c53 (m := m) (by omega) a lo hi H
  have e84 := fun (hb : Bd b) (hn : 0 < b.length) H => c84 (m := m) hx hb (q0 := 0) hn (by omega) H
  have e83 := fun (hb : Bd b) (hn : 0 < b.length) H => c83 (m := m) (isL_rd (l := (dist b 0).1)) (w := -1) (by rw [dist_len]; omega) (by omega) H
  have lr := fun {i : Nat} (hi : i < b.length) H => p_lenI (H := H) (hx.at (i := (i : Int)) ⟨by omega, by omega⟩)
  have fr := fun {i : Nat} (hi : i < b.length) => (hx.at (i := (i : Int)) ⟨by omega, by omega⟩).free
  refine f_enter rfl rfl ?_
  generalize evF tab it m = call at *
  repeat' first
 | (apply s_mov; exact aW)
 | (apply c_nil)
 | (apply s_notT; exact rfl)
 | (apply s_notF; exact rfl)
 | (apply s_pn; exact aO; exact lx _)
 | (apply isE; refine s_cB (by exact aO) (e53 _ _ _ _) (fun _ => ?_) (fun _ => ?_))
 | (apply c_seq)
 | (apply c_reg)
 | (apply c_block)
 | (apply c_skip)
 | (apply c_ret)
 | (apply c_condT; exact rfl)
 | (apply c_condF; exact rfl)
 | (with_reducible apply k_c)
  · refine c_loop ?_
    refine loop_gc (σ := Nat) (fun i => [x, .int .i64 ((b.length : Nat) : Int), x, .int .i64 ((b.length : Nat) : Int), .int .i64 (i : Int)]) (fun _ => []) (fun i => i ≤ b.length ∧ ∀ v : Nat, v < i → (getLL b (v : Int)).length = b.length) (fun i => b.length - i) ?_ _ 0 _ _ ⟨by omega, by omega⟩ (by omega) (gc_to rfl (by simp [idFreeL, AV.idFree, *]; done))
    intro i ⟨hi, hrow⟩ K hK
    by_cases hin : i < b.length
    · have lri := fun H => lr hin H
      repeat' first
 | (apply s_mov; exact aW)
 | (apply c_nil)
 | (apply s_lss; exact rfl; all_goals (intro _; try (exfalso; omega)))
 | (apply s_neq; exact rfl; all_goals (intro _; try (exfalso; omega)))
 | (apply s_add; exact rfl; omega)
 | (apply s_pn; exact aO; exact lri _)
 | (apply s_idxLL; exact aW; exact rfl; assumption; omega)
 | (apply s_ldLL; exact rfl; assumption; omega)
 | (apply c_seq)
 | (apply c_reg)
 | (apply c_block)
 | (apply c_skip)
 | (apply c_ret)
 | (apply c_condT; exact rfl)
 | (apply c_condF; exact rfl)
 | (with_reducible apply k_c)
      all_goals first
        | (refine hK (i + 1) _ _ ⟨by omega, fun v hv => ?_⟩ (by omega) (gc_to rfl (by simp [idFreeL, AV.idFree, *]; done))
           rcases (by omega : v < i ∨ v = i) with h | rfl
           · exact hrow v h
           · omega)
        | (refine fin_t (by (conv => lhs; whnf)) (by rfl) (leafF fun h => ?_); have := h.row i hin; omega)
    · obtain rfl : i = b.length := by omega
      repeat' first
 | (apply s_mov; exact aW)
 | (apply c_nil)
 | (apply s_lss; exact rfl; all_goals (intro _; try (exfalso; omega)))
 | (apply s_pn; exact aO; exact lx _)
 | (apply c_seq)
 | (apply c_reg)
 | (apply c_block)
 | (apply c_exitH)
 | (apply c_condF; exact rfl)
 | (apply c_preF; exact aK; exact aF)
 | (with_reducible apply k_c)
      refine c_loop ?_
      refine loop_gc (σ := Nat) (fun i => [x, x, .int .i64 ((b.length : Nat) : Int), .int .i64 (i : Int)]) (fun _ => []) (fun i => i ≤ b.length ∧ ∀ v k : Nat, v < i → k < b.length → Ed b v k) (fun i => b.length - i) ?_ _ 0 _ _ ⟨by omega, by omega⟩ (by omega) (gc_to rfl (by simp [idFreeL, AV.idFree, *]; done))
      intro i ⟨hi, hed⟩ K hK
      by_cases hin : i < b.length
      · have lri := fun H => lr hin H
        have fri := fr hin
        have hri := hrow i hin
        rw [hri] at lri
        repeat' first
 | (apply s_mov; exact aW)
 | (apply c_nil)
 | (apply s_lss; exact rfl; all_goals (intro _; try (exfalso; omega)))
 | (apply s_pn; exact aO; exact lri _)
 | (apply s_idxLL; exact aW; exact rfl; assumption; omega)
 | (apply s_ldLL; exact rfl; assumption; omega)
 | (apply c_seq)
 | (apply c_reg)
 | (apply c_block)
 | (apply c_skip)
 | (apply c_condT; exact rfl)
 | (with_reducible apply k_c)
        refine c_loop ?_
        refine loop_gc (σ := Nat) (fun k => [x, .int .i64 (i : Int), x, .int .i64 ((b.length : Nat) : Int), .int .i64 (i : Int), llAt x (i : Int), .int .i64 ((b.length : Nat) : Int), .int .i64 (k : Int)]) (fun _ => []) (fun k => k ≤ b.length ∧ ∀ k' : Nat, k' < k → Ed b i k') (fun k => b.length - k) ?_ _ 0 _ _ ⟨by omega, by omega⟩ (by omega) (gc_to rfl (by simp [idFreeL, AV.idFree, *]; done))
        intro k ⟨hk, hek⟩ K2 hK2
        by_cases hkn : k < b.length
        · have hrk := hrow k hkn
          have hLi := hx.at (i := (i : Int)) ⟨by omega, by omega⟩
          repeat' first
 | (apply s_mov; exact aW)
 | (apply s_gT; exact rfl)
 | (apply s_gF; exact rfl)
 | (apply c_nil)
 | (apply s_pickT; exact rfl; exact aW)
 | (apply s_pickF; exact rfl; exact aW)
 | (apply s_notT; exact rfl)
 | (apply s_notF; exact rfl)
 | (apply s_lss; exact rfl; all_goals (intro _; try (exfalso; omega)))
 | (apply s_eql; exact rfl; all_goals (intro _; try (exfalso; omega)))
 | (apply s_neq; exact rfl; all_goals (intro _; try (exfalso; omega)))
 | (apply s_add; exact rfl; omega)
 | (apply isE; refine s_cB (by exact aO) (e53 _ _ _ _) (fun _ => ?_) (fun _ => ?_))
 | (apply s_idx; exact aW; exact rfl; exact aI; omega)
 | (apply s_idxLL; exact aW; exact rfl; assumption; omega)
 | (apply s_ldI; exact rfl; omega)
 | (apply s_ldLL; exact rfl; assumption; omega)
 | (apply c_seq)
 | (apply c_reg)
 | (apply c_block)
 | (apply c_skip)
 | (apply c_ret)
 | (apply c_condT; exact rfl)
 | (apply c_condF; exact rfl)
 | (with_reducible apply k_c)
          all_goals first
            | (refine hK2 (k + 1) _ _ ⟨by omega, fun k' hk' => ?_⟩ (by omega) (gc_to rfl (by simp [idFreeL, AV.idFree, *]; done))
               rcases (by omega : k' < k ∨ k' = k) with h | rfl
               · exact hek k' h
               · unfold Ed; omega)
            | (refine fin_t (by (conv => lhs; whnf)) (by rfl) (leafF fun h => ?_); have := h.ed i k hin hkn; unfold Ed at this; omega)
        · obtain rfl : k = b.length := by omega
          repeat' first
 | (apply s_mov; exact aW)
 | (apply c_nil)
 | (apply s_lss; exact rfl; all_goals (intro _; try (exfalso; omega)))
 | (apply s_add; exact rfl; omega)
 | (apply c_seq)
 | (apply c_reg)
 | (apply c_exitH)
 | (apply c_condF; exact rfl)
 | (apply c_preF; exact aK; exact aF)
 | (with_reducible apply k_c)
          exact hK (i + 1) _ _ ⟨by omega, fun v k hv hk => by
            rcases (by omega : v < i ∨ v = i) with h | rfl
            · exact hed v k h hk
            · exact hek k hk⟩ (by omega) (gc_to rfl (by simp [idFreeL, AV.idFree, *]; done))
      · obtain rfl : i = b.length := by omega
        have hbd : Bd b := ⟨by omega, hrow, fun v k hv hk => (hed v k hv hk).1⟩
        have hci := conn_iff (b := b) (by omega)
        have e84' := e84 hbd (by omega)
        have e83' := e83 hbd (by omega)
        repeat' first
 | (apply s_mov; exact aW)
 | (apply c_nil)
 | (apply s_notT; exact rfl)
 | (apply s_notF; exact rfl)
 | (apply s_lss; exact rfl; all_goals (intro _; try (exfalso; omega)))
 | (apply s_cn; exact aO; exact e84' _)
 | (apply isE; refine s_cB (by exact aO) (e83' _) (fun _ => ?_) (fun _ => ?_))
 | (apply c_seq)
 | (apply c_reg)
 | (apply c_exitH)
 | (apply c_ret)
 | (apply c_condF; exact rfl)
 | (apply c_preF; exact aK; exact aF)
 | (with_reducible apply k_c)
        · exact fin_t (by (conv => lhs; whnf)) (by rfl) (leafF fun h => absurd (by assumption) (hci.2 h.con))
        · exact fin_t (by (conv => lhs; whnf)) (by rfl) (leafT ⟨by omega, by omega, hrow, hed, hci.1 (by assumption)⟩)
  · exact fin_t (by (conv => lhs; whnf)) (by rfl) (leafF fun h => by have := h.n1; have := h.n2; omega)
theorem c60 {x : AV} {b : List (List Int)} (hx : IsLL x b) (hl : b.length < 100) {m : Nat} (hm : 2100 ≤ m) (H : Heap) : callPure (evF tab it m) true 60 [x] H = some (.bool (decide (IsB b)), H) :=
  callPure_free (by simp [idFreeL, hx.free]) (by simp) (f60 hx hl hm) rfl
set_option maxHeartbeats 1000000
theorem sumTo_add (f g : Nat → Int) : ∀ n, sumTo (fun i => f i + g i) n = sumTo f n + sumTo g n
  | 0 => rfl
  | n + 1 => by simp only [sumTo]; rw [sumTo_add f g n]; omega
theorem sumTo_sub (f g : Nat → Int) : ∀ n, sumTo (fun i => f i - g i) n = sumTo f n - sumTo g n
  | 0 => rfl
  | n + 1 => by simp only [sumTo]; rw [sumTo_sub f g n]; omega
theorem sumTo_neg (f : Nat → Int) : ∀ n, sumTo (fun i => - f i) n = - sumTo f n
  | 0 => rfl
  | n + 1 => by simp only [sumTo]; rw [sumTo_neg f n]; omega
theorem sumTo_zero : ∀ n, sumTo (fun _ => 0) n = 0
  | 0 => rfl
  | n + 1 => by simp only [sumTo]; rw [sumTo_zero n]; omega
theorem sumTo_mono {f g : Nat → Int} : ∀ {n : Nat}, (∀ j, j < n → f j ≤ g j) → sumTo f n ≤ sumTo g n
  | 0, _ => Int.le_refl _
  | n + 1, h => by
    have a := sumTo_mono (n := n) fun j hj => h j (by omega)
    have b := h n (by omega)
    simp only [sumTo]
    omega
theorem sumTo_term {f : Nat → Int} : ∀ {n k : Nat}, (∀ j, j < n → 0 ≤ f j) → k < n → f k ≤ sumTo f n
  | n + 1, k, h, hk => by
    simp only [sumTo]
    rcases (by omega : k < n ∨ k = n) with h1 | rfl
    · have a := sumTo_term (n := n) (k := k) (fun j hj => h j (by omega)) h1
      have b := h n (by omega)
      omega
    · have a := sumTo_nn (f := f) (n := k) fun j hj => h j (by omega)
      omega
theorem sumTo_comm (f : Nat → Nat → Int) (m : Nat) : ∀ n, sumTo (fun i => sumTo (fun j => f i j) m) n = sumTo (fun j => sumTo (fun i => f i j) n) m
  | 0 => by simp only [sumTo]; rw [sumTo_zero]
  | n + 1 => by simp only [sumTo]; rw [sumTo_comm f m n, ← sumTo_add]
structure Gr (n : Nat) (E : Nat → Nat → Int) : Prop where
  sz : n ≤ 12
  nn : ∀ i j, i < n → j < n → 0 ≤ E i j
  le : ∀ i j, i < n → j < n → E i j ≤ 3
  sy : ∀ i j, i < n → j < n → E i j = E j i
def net (n : Nat) (E : Nat → Nat → Int) (t : Nat → Int) (i : Nat) : Int := sumTo (fun j => E i j * (t i - t j)) n
def ap (n : Nat) (E : Nat → Nat → Int) (s t : Nat → Int) (i : Nat) : Int := s i - net n E t i
def deg (n : Nat) (E : Nat → Nat → Int) (i : Nat) : Int := sumTo (fun j => E i j) n
theorem net_add (n : Nat) (E : Nat → Nat → Int) (t u : Nat → Int) (i : Nat) : net n E (fun j => t j + u j) i = net n E t i + net n E u i := by
  unfold net
  rw [← sumTo_add]
  refine sumTo_congr fun j _ => ?_
  rw [← Int.mul_add]
  congr 1
  dsimp only
  omega
theorem net_neg (n : Nat) (E : Nat → Nat → Int) (t : Nat → Int) (i : Nat) : net n E (fun j => - t j) i = - net n E t i := by
  unfold net
  rw [← sumTo_neg]
  refine sumTo_congr fun j _ => ?_
  rw [← Int.mul_neg]
  congr 1
  dsimp only
  omega
theorem net_const (n : Nat) (E : Nat → Nat → Int) (a : Int) (i : Nat) : net n E (fun _ => a) i = 0 := by
  unfold net
  simp only [Int.sub_self, Int.mul_zero]
  exact sumTo_zero n
theorem net_congr {n : Nat} {E : Nat → Nat → Int} {t u : Nat → Int} {i : Nat} (hi : i < n) (h : ∀ j, j < n → t j = u j) : net n E t i = net n E u i := by
  unfold net
  exact sumTo_congr fun j hj => by rw [h i hi, h j hj]
theorem net_mul (n : Nat) (E : Nat → Nat → Int) (a : Int) (t : Nat → Int) (i : Nat) : net n E (fun j => a * t j) i = a * net n E t i := by
  unfold net
  rw [sumTo_mul]
  refine sumTo_congr fun j _ => ?_
  rw [← Int.mul_sub, Int.mul_left_comm]
theorem net_self {n : Nat} {E : Nat → Nat → Int} (g : Gr n E) (w t : Nat → Int) : sumTo (fun i => w i * net n E t i) n = sumTo (fun i => t i * net n E w i) n := by
  have e : ∀ w t : Nat → Int, sumTo (fun i => w i * net n E t i) n = sumTo (fun i => sumTo (fun j => E i j * (w i * t i)) n) n - sumTo (fun i => sumTo (fun j => E i j * (w i * t j)) n) n := fun w t => by
    rw [← sumTo_sub]
    refine sumTo_congr fun i _ => ?_
    rw [← sumTo_sub]
    unfold net
    rw [sumTo_mul]
    refine sumTo_congr fun j _ => ?_
    rw [Int.mul_left_comm, Int.mul_sub, Int.mul_sub]
  rw [e w t, e t w]
  congr 1
  · exact sumTo_congr fun i _ => sumTo_congr fun j _ => by rw [Int.mul_comm (w i)]
  · rw [sumTo_comm]
    refine sumTo_congr fun i hi => sumTo_congr fun j hj => ?_
    rw [g.sy j i hj hi, Int.mul_comm (w j)]
theorem net_sum {n : Nat} {E : Nat → Nat → Int} (g : Gr n E) (t : Nat → Int) : sumTo (fun i => net n E t i) n = 0 := by
  have h := net_self g (fun _ => 1) t
  simp only [Int.one_mul] at h
  rw [h]
  have : ∀ i, net n E (fun _ => 1) i = 0 := fun i => net_const n E 1 i
  simp only [this, Int.mul_zero]
  exact sumTo_zero n
theorem ap_ap (n : Nat) (E : Nat → Nat → Int) (s t u : Nat → Int) (i : Nat) : ap n E (ap n E s t) u i = ap n E s (fun j => t j + u j) i := by
  show (s i - net n E t i) - net n E u i = s i - net n E (fun j => t j + u j) i
  rw [net_add]; omega
theorem ap_sum {n : Nat} {E : Nat → Nat → Int} (g : Gr n E) (s t : Nat → Int) : sumTo (ap n E s t) n = sumTo s n := by
  have : sumTo (ap n E s t) n = sumTo s n - sumTo (fun i => net n E t i) n := by rw [← sumTo_sub]; rfl
  rw [this, net_sum g]; omega
theorem deg_nn {n : Nat} {E : Nat → Nat → Int} (g : Gr n E) {i : Nat} (hi : i < n) : 0 ≤ deg n E i ∧ deg n E i ≤ 36 := by
  have a := sumTo_nn (f := fun j => E i j) (n := n) fun j hj => g.nn i j hi hj
  have b := sumTo_le (f := fun j => E i j) (M := 3) (n := n) fun j hj => by have := g.nn i j hi hj; have := g.le i j hi hj; omega
  have := g.sz
  unfold deg
  omega
def outE (n : Nat) (E : Nat → Nat → Int) (S : Nat → Bool) (i : Nat) : Int := sumTo (fun j => if S j = true then 0 else E i j) n
def Red (n : Nat) (E : Nat → Nat → Int) (q : Nat) (c : Nat → Int) : Prop :=
  (∀ v, v < n → v ≠ q → 0 ≤ c v) ∧ ∀ S : Nat → Bool, S q = false → (∃ v, v < n ∧ S v = true) → ∃ v, v < n ∧ S v = true ∧ c v < outE n E S v
theorem ex_max (t : Nat → Int) : ∀ {n : Nat}, 0 < n → ∃ v, v < n ∧ ∀ u, u < n → t u ≤ t v
  | 1, _ => ⟨0, by omega, fun u hu => by obtain rfl : u = 0 := by omega
                                         exact Int.le_refl _⟩
  | n + 2, _ => by
    obtain ⟨v, hv, h⟩ := ex_max t (n := n + 1) (by omega)
    rcases Int.lt_or_le (t v) (t (n + 1)) with g | g
    · refine ⟨n + 1, by omega, fun u hu => ?_⟩
      rcases (by omega : u < n + 1 ∨ u = n + 1) with h1 | rfl
      · have := h u h1; omega
      · exact Int.le_refl _
    · refine ⟨v, by omega, fun u hu => ?_⟩
      rcases (by omega : u < n + 1 ∨ u = n + 1) with h1 | rfl
      · exact h u h1
      · exact g
theorem red_top {n : Nat} {E : Nat → Nat → Int} (g : Gr n E) {q : Nat} (hq : q < n) {c t : Nat → Int} (hc : Red n E q c) (h : ∀ v, v < n → v ≠ q → 0 ≤ ap n E c t v) : ∀ v, v < n → t v ≤ t q := by
  obtain ⟨m, hm, hmax⟩ := ex_max t (n := n) (by omega)
  by_cases hqm : t q = t m
  · intro v hv; rw [hqm]; exact hmax v hv
  · exfalso
    obtain ⟨v, hv, hS, hlt⟩ := hc.2 (fun v => decide (t v = t m)) (by simpa using hqm) ⟨m, hm, by simp⟩
    simp only [decide_eq_true_eq] at hS
    have hvq : v ≠ q := fun e => hqm (e ▸ hS)
    have h1 := h v hv hvq
    have h2 : outE n E (fun v => decide (t v = t m)) v ≤ net n E t v := by
      refine sumTo_mono fun u hu => ?_
      have hn := g.nn v u hv hu
      have hmu := hmax u hu
      simp only [decide_eq_true_eq]
      split
      · rename_i e; rw [hS, e, Int.sub_self, Int.mul_zero]; exact Int.le_refl _
      · rename_i e
        have h3 : 1 ≤ t v - t u := by omega
        have := Int.mul_le_mul_of_nonneg_left h3 hn
        omega
    unfold ap at h1
    omega
theorem red_uniq {n : Nat} {E : Nat → Nat → Int} (g : Gr n E) {q : Nat} (hq : q < n) {c c' t : Nat → Int} (hc : Red n E q c) (hc' : Red n E q c') (h : ∀ v, v < n → c' v = ap n E c t v) : ∀ v, v < n → c' v = c v ∧ t v = t q := by
  have a := red_top g hq hc (t := t) fun v hv hvq => by rw [← h v hv]; exact hc'.1 v hv hvq
  have b := red_top g hq hc' (t := fun j => - t j) fun v hv hvq => by
    have := hc.1 v hv hvq
    unfold ap
    rw [net_neg, h v hv]
    unfold ap
    omega
  have hk : ∀ v, v < n → t v = t q := fun v hv => by have := a v hv; have := b v hv; omega
  intro v hv
  refine ⟨?_, hk v hv⟩
  rw [h v hv]
  unfold ap
  rw [net_congr hv (u := fun _ => t q) hk, net_const]
  omega
theorem flow {n : Nat} {E : Nat → Nat → Int} (g : Gr n E) (t : Nat → Int) (S : Nat → Bool) :
    sumTo (fun i => if S i = true then net n E t i else 0) n = sumTo (fun i => sumTo (fun j => if S i = true ∧ S j = false then E i j * (t i - t j) else 0) n) n := by
  have e1 : sumTo (fun i => if S i = true then net n E t i else 0) n = sumTo (fun i => sumTo (fun j => if S i = true ∧ S j = false then E i j * (t i - t j) else 0) n) n + sumTo (fun i => sumTo (fun j => if S i = true ∧ S j = true then E i j * (t i - t j) else 0) n) n := by
    rw [← sumTo_add]
    refine sumTo_congr fun i _ => ?_
    rw [← sumTo_add]
    unfold net
    cases hS : S i with
    | false => simp only [Bool.false_eq_true, if_false, false_and, Int.add_zero]; rw [sumTo_zero]
    | true =>
      simp only [if_true, true_and]
      refine sumTo_congr fun j _ => ?_
      cases S j <;> simp
  have e2 : sumTo (fun i => sumTo (fun j => if S i = true ∧ S j = true then E i j * (t i - t j) else 0) n) n = 0 := by
    have h1 := sumTo_comm (fun i j => if S i = true ∧ S j = true then E i j * (t i - t j) else 0) n n
    have h2 : sumTo (fun j => sumTo (fun i => if S i = true ∧ S j = true then E i j * (t i - t j) else 0) n) n = - sumTo (fun i => sumTo (fun j => if S i = true ∧ S j = true then E i j * (t i - t j) else 0) n) n := by
      rw [← sumTo_neg]
      refine sumTo_congr fun j hj => ?_
      rw [← sumTo_neg]
      refine sumTo_congr fun i hi => ?_
      rw [g.sy i j hi hj]
      by_cases hij : S i = true ∧ S j = true
      · rw [if_pos hij, if_pos ⟨hij.2, hij.1⟩, ← Int.mul_neg]; congr 1; omega
      · rw [if_neg hij, if_neg (fun h => hij ⟨h.2, h.1⟩)]; rfl
    omega
  omega
theorem sumS_le {S : Nat → Bool} {f : Nat → Int} {B : Int} {q : Nat} (hB : 0 ≤ B) (hS : S q = false) : ∀ {n : Nat}, (∀ v, v < n → v ≠ q → f v ≤ B) → sumTo (fun i => if S i = true then f i else 0) n ≤ n * B
  | 0, _ => by simp [sumTo]
  | n + 1, h => by
    have a := sumS_le (n := n) hB hS fun v hv => h v (by omega)
    have e : ((n + 1 : Nat) : Int) * B = n * B + B := by push_cast; rw [Int.add_mul, Int.one_mul]
    simp only [sumTo]
    rw [e]
    split
    · rename_i hs
      have := h n (by omega) (fun e => by rw [e, hS] at hs; cases hs)
      omega
    · omega
theorem edge_le {n : Nat} {E : Nat → Nat → Int} (g : Gr n E) {q : Nat} {t : Nat → Int} {B : Int} (hB : 0 ≤ B) (h : ∀ v, v < n → v ≠ q → -B ≤ net n E t v ∧ net n E t v ≤ B) {v u : Nat} (hv : v < n) (hu : u < n) (he : 1 ≤ E v u) : t v - t u ≤ n * B := by
  rcases Int.lt_or_le (t u) (t v) with hlt | hle
  · cases hq : decide (t v ≤ t q) with
    | false =>
      have f := flow g t (fun w => decide (t v ≤ t w))
      have s := sumS_le (S := fun w => decide (t v ≤ t w)) (f := net n E t) (n := n) hB hq fun w hw hwq => (h w hw hwq).2
      have nn : ∀ i, i < n → ∀ j, j < n → 0 ≤ (if decide (t v ≤ t i) = true ∧ decide (t v ≤ t j) = false then E i j * (t i - t j) else 0) := fun i hi j hj => by
        split
        · rename_i hc
          simp only [decide_eq_true_eq, decide_eq_false_iff_not] at hc
          exact Int.mul_nonneg (g.nn i j hi hj) (by omega)
        · exact Int.le_refl _
      have a := sumTo_term (n := n) (k := u) (nn v hv) hu
      have b := sumTo_term (f := fun i => sumTo (fun j => if decide (t v ≤ t i) = true ∧ decide (t v ≤ t j) = false then E i j * (t i - t j) else 0) n) (n := n) (k := v) (fun i hi => sumTo_nn fun j hj => nn i hi j hj) hv
      try dsimp only at a b
      rw [if_pos ⟨by simp, by simp; omega⟩] at a
      have c := Int.mul_le_mul_of_nonneg_right he (show 0 ≤ t v - t u by omega)
      omega
    | true =>
      simp only [decide_eq_true_eq] at hq
      have hq' : decide (t q < t v) = false := by simp; omega
      have f := flow g (fun w => - t w) (fun w => decide (t w < t v))
      have s := sumS_le (S := fun w => decide (t w < t v)) (f := net n E (fun w => - t w)) (n := n) hB hq' fun w hw hwq => by rw [net_neg]; have := (h w hw hwq).1; omega
      have nn : ∀ i, i < n → ∀ j, j < n → 0 ≤ (if decide (t i < t v) = true ∧ decide (t j < t v) = false then E i j * ((- t i) - (- t j)) else 0) := fun i hi j hj => by
        split
        · rename_i hc
          simp only [decide_eq_true_eq, decide_eq_false_iff_not] at hc
          exact Int.mul_nonneg (g.nn i j hi hj) (by omega)
        · exact Int.le_refl _
      have a := sumTo_term (n := n) (k := v) (nn u hu) hv
      have b := sumTo_term (f := fun i => sumTo (fun j => if decide (t i < t v) = true ∧ decide (t j < t v) = false then E i j * ((- t i) - (- t j)) else 0) n) (n := n) (k := u) (fun i hi => sumTo_nn fun j hj => nn i hi j hj) hu
      try dsimp only at a b
      rw [if_pos ⟨by simp; omega, by simp⟩] at a
      have he' : 1 ≤ E u v := by rw [g.sy u v hu hv]; exact he
      have c := Int.mul_le_mul_of_nonneg_right he' (show 0 ≤ (- t u) - (- t v) by omega)
      omega
  · have : 0 ≤ (n : Int) * B := Int.mul_nonneg (by omega) hB
    omega
structure Dst (n : Nat) (E : Nat → Nat → Int) (q : Nat) (D : Nat → Int) : Prop where
  zero : D q = 0
  pos : ∀ v, v < n → v ≠ q → 1 ≤ D v
  le : ∀ v, v < n → D v ≤ n
  near : ∀ v, v < n → v ≠ q → ∃ u, u < n ∧ 1 ≤ E v u ∧ D u < D v
theorem Dst.nn {n : Nat} {E : Nat → Nat → Int} {q : Nat} {D : Nat → Int} (d : Dst n E q D) {v : Nat} (hv : v < n) : 0 ≤ D v := by
  by_cases h : v = q
  · rw [h, d.zero]; exact Int.le_refl _
  · have := d.pos v hv h; omega
theorem script_le {n : Nat} {E : Nat → Nat → Int} (g : Gr n E) {q : Nat} {D : Nat → Int} (d : Dst n E q D) {t : Nat → Int} {B : Int} (hB : 0 ≤ B) (hq : t q = 0) (h : ∀ v, v < n → v ≠ q → -B ≤ net n E t v ∧ net n E t v ≤ B) :
    ∀ k : Nat, ∀ v, v < n → D v ≤ k → -(k * (n * B)) ≤ t v ∧ t v ≤ k * (n * B)
  | k, v, hv, hk => by
    have hnB : 0 ≤ (n : Int) * B := Int.mul_nonneg (by omega) hB
    by_cases hvq : v = q
    · subst hvq
      have : 0 ≤ (k : Int) * (n * B) := Int.mul_nonneg (by omega) hnB
      omega
    · obtain ⟨u, hu, he, hlt⟩ := d.near v hv hvq
      have hu0 := d.nn hu
      obtain ⟨j, rfl⟩ : ∃ j, k = j + 1 := ⟨k - 1, by have := d.pos v hv hvq; omega⟩
      have ih := script_le g d hB hq h j u hu (by omega)
      have a := edge_le g hB h hv hu he
      have he' : 1 ≤ E u v := by rw [g.sy u v hu hv]; exact he
      have b := edge_le g hB h hu hv he'
      have e : ((j + 1 : Nat) : Int) * (n * B) = j * (n * B) + n * B := by push_cast; rw [Int.add_mul, Int.one_mul]
      rw [e]
      omega
def wgt (n : Nat) (D : Nat → Int) (v : Nat) : Int := 40 ^ n - 40 ^ (n - (D v).toNat)
theorem pow_le40 {a b : Nat} (h : a ≤ b) : (40 : Int) ^ a ≤ 40 ^ b := by
  have := Nat.pow_le_pow_right (show 0 < 40 by omega) h
  exact_mod_cast this
theorem pow_pos40 (a : Nat) : (1 : Int) ≤ 40 ^ a := by
  have := Nat.pow_pos (n := a) (show 0 < 40 by omega)
  exact_mod_cast this
theorem wgt_nn {n : Nat} {E : Nat → Nat → Int} {q : Nat} {D : Nat → Int} (d : Dst n E q D) (v : Nat) : 0 ≤ wgt n D v := by
  have := pow_le40 (show n - (D v).toNat ≤ n by omega)
  unfold wgt
  omega
theorem wgt_zero {n : Nat} {E : Nat → Nat → Int} {q : Nat} {D : Nat → Int} (d : Dst n E q D) : wgt n D q = 0 := by
  unfold wgt
  rw [d.zero]
  simp
theorem wgt_net {n : Nat} {E : Nat → Nat → Int} (g : Gr n E) {q : Nat} {D : Nat → Int} (d : Dst n E q D) {v : Nat} (hv : v < n) (hvq : v ≠ q) : 1 ≤ net n E (wgt n D) v := by
  obtain ⟨u, hu, he, hlt⟩ := d.near v hv hvq
  have hu0 := d.nn hu
  have hvn := d.le v hv
  have hv1 := d.pos v hv hvq
  generalize hP : (40 : Int) ^ (n - (D v).toNat) = P
  have hP1 : 1 ≤ P := by rw [← hP]; exact pow_pos40 _
  have low : ∀ j, j < n → -(E v j * P) ≤ E v j * (wgt n D v - wgt n D j) := fun j hj => by
    rw [← Int.mul_neg]
    refine Int.mul_le_mul_of_nonneg_left ?_ (g.nn v j hv hj)
    unfold wgt
    rw [hP]
    have := pow_pos40 (n - (D j).toNat)
    omega
  have hi : 39 * P ≤ E v u * (wgt n D v - wgt n D u) := by
    have h1 : 39 * P ≤ wgt n D v - wgt n D u := by
      unfold wgt
      rw [hP]
      have := pow_le40 (show n - (D v).toNat + 1 ≤ n - (D u).toNat by omega)
      rw [Int.pow_succ, hP] at this
      omega
    have := Int.mul_le_mul_of_nonneg_right he (show 0 ≤ wgt n D v - wgt n D u by omega)
    omega
  have key : ∀ m, m ≤ n → (if u < m then 39 * P else 0) - sumTo (fun j => E v j) m * P ≤ sumTo (fun j => E v j * (wgt n D v - wgt n D j)) m := by
    intro m
    induction m with
    | zero => intro _; simp [sumTo]
    | succ m ih =>
      intro hm
      have a := ih (by omega)
      have b := low m (by omega)
      have e : sumTo (fun j => E v j) (m + 1) * P = sumTo (fun j => E v j) m * P + E v m * P := by simp only [sumTo]; rw [Int.add_mul]
      rw [e]
      simp only [sumTo]
      by_cases hum : u = m
      · subst hum
        rw [if_neg (by omega)] at a
        rw [if_pos (by omega)]
        have := Int.mul_nonneg (g.nn v u hv hu) (show 0 ≤ P by omega)
        omega
      · by_cases h2 : u < m
        · rw [if_pos h2] at a; rw [if_pos (by omega)]; omega
        · rw [if_neg h2] at a; rw [if_neg (by omega)]; omega
  have k := key n (Nat.le_refl _)
  rw [if_pos hu] at k
  have dg := (deg_nn g hv).2
  have : sumTo (fun j => E v j) n * P ≤ 36 * P := Int.mul_le_mul_of_nonneg_right dg (by omega)
  unfold net
  omega
def pot (n : Nat) (D : Nat → Int) (c : Nat → Int) : Int := sumTo (fun i => wgt n D i * c i) n
theorem pot_ap {n : Nat} {E : Nat → Nat → Int} (g : Gr n E) {q : Nat} {D : Nat → Int} (d : Dst n E q D) (c t : Nat → Int) (ht : ∀ v, v < n → 0 ≤ t v) (hq : t q = 0) : pot n D (ap n E c t) + sumTo t n ≤ pot n D c := by
  have e1 : pot n D (ap n E c t) = pot n D c - sumTo (fun i => wgt n D i * net n E t i) n := by
    unfold pot
    rw [← sumTo_sub]
    exact sumTo_congr fun i _ => by unfold ap; rw [Int.mul_sub]
  have e2 := net_self g (wgt n D) t
  have e3 : sumTo t n ≤ sumTo (fun i => t i * net n E (wgt n D) i) n := sumTo_mono fun v hv => by
    by_cases h : v = q
    · rw [h, hq, Int.zero_mul]; exact Int.le_refl _
    · have := Int.mul_le_mul_of_nonneg_left (wgt_net g d hv h) (ht v hv)
      omega
  omega
theorem pot_nn {n : Nat} {E : Nat → Nat → Int} {q : Nat} {D : Nat → Int} (d : Dst n E q D) {c : Nat → Int} (h : ∀ v, v < n → v ≠ q → 0 ≤ c v) : 0 ≤ pot n D c := by
  refine sumTo_nn fun v hv => ?_
  by_cases hvq : v = q
  · rw [hvq, wgt_zero d, Int.zero_mul]; exact Int.le_refl _
  · exact Int.mul_nonneg (wgt_nn d v) (h v hv hvq)
theorem least {n : Nat} {E : Nat → Nat → Int} (g : Gr n E) {c s t : Nat → Int} (hst : ∀ v, v < n → s v ≤ t v) {v : Nat} (hv : v < n) (hstab : ap n E c t v < deg n E v) {k : Int} (hk : 1 ≤ k) (hl : k * deg n E v ≤ ap n E c s v) : s v + k ≤ t v := by
  apply Classical.byContradiction
  intro hcon
  have h1 : ap n E c t v = ap n E c s v - net n E (fun j => t j - s j) v := by
    have : ap n E c t v = ap n E c (fun j => s j + (t j - s j)) v := by unfold ap; congr 1; exact net_congr hv fun j _ => by omega
    rw [this]
    unfold ap
    rw [net_add]
    omega
  have h2 : net n E (fun j => t j - s j) v ≤ (t v - s v) * deg n E v := by
    unfold net deg
    rw [sumTo_mul]
    refine sumTo_mono fun j hj => ?_
    dsimp only
    rw [Int.mul_comm]
    exact Int.mul_le_mul_of_nonneg_right (by have := hst j hj; omega) (g.nn v j hv hj)
  have h3 : (t v - s v) * deg n E v ≤ (k - 1) * deg n E v := Int.mul_le_mul_of_nonneg_right (by omega) (deg_nn g hv).1
  rw [Int.sub_mul k, Int.one_mul] at h3
  omega
set_option maxHeartbeats 1000000
def ed (b : List (List Int)) (i j : Nat) : Int := getI (getLL b (i : Int)) (j : Int)
def gf (l : List Int) (i : Nat) : Int := getI l (i : Int)
theorem gr_of {b : List (List Int)} (h : IsB b) : Gr b.length (ed b) :=
  ⟨h.bd.len, fun i j hi hj => (h.bd.val i j hi hj).1, fun i j hi hj => (h.bd.val i j hi hj).2, fun i j hi hj => h.sym i j hi hj⟩
theorem deg_sumI {b : List (List Int)} (h : Bd b) {i : Nat} (hi : i < b.length) : sumI (getLL b (i : Int)) = deg b.length (ed b) i := by
  unfold sumI deg
  rw [h.row i hi]
  rfl
theorem apl_ap {b : List (List Int)} (h : IsB b) (s t : List Int) {i : Nat} (hi : i < b.length) : getI (apl b s t) (i : Int) = ap b.length (ed b) (gf s) (gf t) i := by
  have e : getI (apl b s t) (i : Int) = mid b s t b.length 0 i := by
    rw [getI_nat]
    simp [apl, List.getD, hi]
  rw [e, apl_ref h.bd h.sym s t hi, deg_sumI h.bd hi]
  have e2 : sumTo (fun j => getI t (j : Int) * getI (getLL b (i : Int)) (j : Int)) b.length = sumTo (fun j => ed b i j * gf t j) b.length := sumTo_congr fun j _ => Int.mul_comm _ _
  have e3 : net b.length (ed b) (gf t) i = gf t i * deg b.length (ed b) i - sumTo (fun j => ed b i j * gf t j) b.length := by
    unfold net deg
    rw [sumTo_mul, ← sumTo_sub]
    exact sumTo_congr fun j _ => by rw [Int.mul_sub, Int.mul_comm (gf t i)]
  rw [e2]
  show _ = gf s i - net b.length (ed b) (gf t) i
  rw [e3]
  show gf s i - gf t i * _ + _ = _
  omega
structure Nr (b : List (List Int)) (n q0 : Nat) (d : List Int) : Prop where
  zero : getI d (q0 : Int) = 0
  near : ∀ k : Nat, k < n → k ≠ q0 → 0 ≤ getI d (k : Int) → ∃ v : Nat, v < n ∧ 1 ≤ ed b v k ∧ 0 ≤ getI d (v : Int) ∧ getI d (v : Int) < getI d (k : Int)
theorem bIn_near {b : List (List Int)} {n q0 : Nat} {d : List Int} {q : List Nat} {v : Nat} (hl : d.length = n) (hq0 : q0 < n) (h : Nr b n q0 d) (hv : v < n) (hvd : 0 ≤ getI d (v : Int)) : ∀ k, k ≤ n →
    Nr b n q0 (bIn b v k (d, q)).1 ∧ (∀ j : Nat, j < n → 0 ≤ getI d (j : Int) → getI (bIn b v k (d, q)).1 (j : Int) = getI d (j : Int)) ∧ (∀ j : Nat, j < k → 0 < ed b v j → 0 ≤ getI (bIn b v k (d, q)).1 (j : Int))
  | 0, _ => ⟨h, fun _ _ _ => rfl, fun j hj => by omega⟩
  | k + 1, hk => by
    obtain ⟨h1, h2, h3⟩ := bIn_near (q := q) hl hq0 h hv hvd k (by omega)
    have hl' : (bIn b v k (d, q)).1.length = n := by rw [bIn_len]; exact hl
    simp only [bIn]
    generalize bIn b v k (d, q) = r at *
    split
    · rename_i hc
      have hkl : k < r.1.length := by omega
      have hrv := h2 v hv hvd
      have hg := fun (j : Nat) => getI_set (l := r.1) (i := k) (j := j) (v := getI r.1 (v : Int) + 1) hkl
      refine ⟨⟨?_, fun j hj hjq hj0 => ?_⟩, fun j hj hjd => ?_, fun j hj hjv => ?_⟩
      · rw [hg]
        split
        · rename_i e; subst e; have := h1.zero; omega
        · exact h1.zero
      · rw [hg] at hj0
        by_cases e : j = k
        · subst e
          have hvj : v ≠ j := fun e => by subst e; omega
          exact ⟨v, hv, by unfold ed; omega, by rw [hg, if_neg hvj]; omega, by rw [hg, if_neg hvj, hg, if_pos rfl]; omega⟩
        · rw [if_neg e] at hj0
          obtain ⟨u, hu, a1, a2, a3⟩ := h1.near j hj hjq hj0
          have huk : u ≠ k := fun e => by subst e; omega
          exact ⟨u, hu, a1, by rw [hg, if_neg huk]; exact a2, by rw [hg, if_neg huk, hg, if_neg e]; exact a3⟩
      · have := h2 j hj hjd
        rw [hg, if_neg (fun e => by subst e; omega)]
        exact this
      · rw [hg]
        split
        · omega
        · exact h3 j (by omega) hjv
    · rename_i hc
      refine ⟨h1, h2, fun j hj hjv => ?_⟩
      by_cases e : j = k
      · subst e
        unfold ed at hjv
        omega
      · exact h3 j (by omega) hjv
theorem bfsF_near {b : List (List Int)} {n q0 : Nat} (hq0 : q0 < n) : ∀ (f : Nat) (d : List Int) (dn q : List Nat), Bfs n d dn q → Nr b n q0 d → (∀ v ∈ dn, ∀ k : Nat, k < n → 0 < ed b v k → 0 ≤ getI d (k : Int)) →
    Nr b n q0 (bfsF b n f d dn q).1 ∧ (∀ v ∈ (bfsF b n f d dn q).2, ∀ k : Nat, k < n → 0 < ed b v k → 0 ≤ getI (bfsF b n f d dn q).1 (k : Int))
  | 0, d, dn, q, _, h, c => ⟨h, c⟩
  | f + 1, d, dn, [], _, h, c => ⟨h, c⟩
  | f + 1, d, dn, v :: q, hB, h, c => by
    have hv : v < n := hB.lt v (by simp)
    have hvd : 0 ≤ getI d (v : Int) := (hB.iff v hv).2 (by simp)
    obtain ⟨a1, a2, a3⟩ := bIn_near (q := q) hB.len hq0 h hv hvd n (Nat.le_refl _)
    obtain ⟨p, -⟩ := Bfs.pop (b := b) hB
    simp only [bfsF]
    refine bfsF_near hq0 f _ _ _ p a1 fun w hw k hk hwk => ?_
    rcases List.mem_append.1 hw with hw | hw
    · have := c w hw k hk hwk
      rw [a2 k hk this]
      exact this
    · simp only [List.mem_singleton] at hw
      subst hw
      exact a3 k hk hwk
theorem dist_all (b : List (List Int)) {q : Nat} (hq : q < b.length) :
    Bfs b.length (dist b q).1 (dist b q).2 [] ∧ Nr b b.length q (dist b q).1 ∧ (∀ v k : Nat, v < b.length → k < b.length → 0 ≤ getI (dist b q).1 (v : Int) → 0 < ed b v k → 0 ≤ getI (dist b q).1 (k : Int)) := by
  have hB : Bfs b.length (dist b q).1 (dist b q).2 [] := bfsF_end _ _ _ _ (Bfs.init hq) (by
    have := negs_le (d0 b.length q)
    have hl : (d0 b.length q).length = b.length := by simp [d0]
    simp only [List.length_cons, List.length_nil]
    omega)
  obtain ⟨h1, h2⟩ := bfsF_near (b := b) hq (2 * b.length + 2) _ _ _ (Bfs.init hq) ⟨by rw [d0_get hq hq]; simp, fun k hk hkq h0 => by rw [d0_get hq hk, if_neg hkq] at h0; omega⟩ (by simp)
  refine ⟨hB, h1, fun v k hv hk hv0 he => ?_⟩
  have hm := (hB.iff v hv).1 hv0
  rw [List.append_nil] at hm
  exact h2 v hm k hk he
theorem all_of_zero {b : List (List Int)} (h : IsB b) {P : Nat → Prop} (hcl : ∀ v k : Nat, v < b.length → k < b.length → P v → 0 < ed b v k → P k) (h0 : P 0) : ∀ k : Nat, k < b.length → P k := by
  have hn := h.n1
  obtain ⟨hB, hN, -⟩ := dist_all b (q := 0) (by omega)
  have hall := (conn_iff (b := b) (by omega)).2 h.con
  have hr : ∀ k : Nat, k < b.length → 0 ≤ getI (dist b 0).1 (k : Int) := fun k hk => by
    have := hB.low k hk
    have := (hB.done.2 h.con) k hk
    omega
  have key : ∀ m : Nat, ∀ k : Nat, k < b.length → getI (dist b 0).1 (k : Int) ≤ m → P k := by
    intro m
    induction m with
    | zero =>
      intro k hk hm
      by_cases e : k = 0
      · subst e; exact h0
      · obtain ⟨v, hv, _, a, c⟩ := hN.near k hk e (hr k hk)
        omega
    | succ m ih =>
      intro k hk hm
      by_cases e : k = 0
      · subst e; exact h0
      · obtain ⟨v, hv, a0, a, c⟩ := hN.near k hk e (hr k hk)
        exact hcl v k hv hk (ih v hv (by omega)) (by omega)
  intro k hk
  have := hB.far k hk
  exact key ((dist b 0).2 ++ []).length k hk (by omega)
theorem far_le {n : Nat} {d : List Int} {dn : List Nat} (hB : Bfs n d dn []) {v : Nat} (hv : v < n) : getI d (v : Int) ≤ n := by
  have := hB.far v hv
  have h2 := nodup_len hB.nd fun w hw => List.mem_range.2 (hB.lt w hw)
  rw [List.length_range] at h2
  omega
theorem dist_dst {b : List (List Int)} (h : IsB b) {q : Nat} (hq : q < b.length) : Dst b.length (ed b) q (gf (dist b q).1) := by
  obtain ⟨hB, hN, hC⟩ := dist_all b hq
  have hsy := (gr_of h).sy
  have hR : ∀ k : Nat, k < b.length → 0 ≤ getI (dist b q).1 (k : Int) := by
    apply Classical.byContradiction
    intro hcon
    have h0 : ¬ 0 ≤ getI (dist b q).1 ((0 : Nat) : Int) := fun h0 => hcon (all_of_zero h (P := fun k => 0 ≤ getI (dist b q).1 (k : Int)) (fun v k hv hk a e => hC v k hv hk a e) h0)
    have hn := all_of_zero h (P := fun k => ¬ 0 ≤ getI (dist b q).1 (k : Int)) (fun v k hv hk a e c => a (hC k v hk hv c (by rw [hsy k v hk hv]; exact e))) h0 q hq
    exact hn (by rw [hN.zero]; exact Int.le_refl _)
  refine ⟨hN.zero, fun v hv hvq => ?_, fun v hv => far_le hB hv, fun v hv hvq => ?_⟩
  · obtain ⟨u, hu, _, a, c⟩ := hN.near v hv hvq (hR v hv)
    unfold gf
    omega
  · obtain ⟨u, hu, a0, a, c⟩ := hN.near v hv hvq (hR v hv)
    exact ⟨u, hu, by rw [hsy v u hv hu]; exact a0, c⟩
set_option maxHeartbeats 4000000
theorem c52 {x y : AV} {b : List (List Int)} {s : List Int} (hx : IsLL x b) (hy : IsL y s) (hl : b.length < 100) (hs : s.length ≤ 1000) {m : Nat} (hm : 2110 ≤ m) (H : Heap) : callPure (evF tab it m) true 52 [x, y] H = some (.int .i64 (if IsB b ∧ InR b.length 1048576 s then 0 else 2), H) := by
  have f52 : evF tab it m 52 [x, y] [] = some (.int .i64 (if IsB b ∧ InR b.length 1048576 s then 0 else 2), []) := by
    obtain ⟨m, rfl⟩ : ∃ j, m = j + 1 := ⟨m - 1, by omega⟩
    have fx := hx.free; have fy := hy.free
    have e60 := fun H => c60 hx hl (m := m) (by omega) H
    have e80 := fun H => c80 hx hy hs (m := m) (by omega) H
    refine f_enter rfl rfl ?_
    generalize evF tab it m = call at *
    by_cases h1 : IsB b <;> by_cases h2 : InR b.length 1048576 s <;> simp only [h1, h2, decide_true, decide_false, and_self, and_true, and_false, true_and, false_and, if_true, if_false] at e60 e80 ⊢
    all_goals
      repeat' first
 | (apply s_mov; exact aW)
 | (apply s_gT; exact rfl)
 | (apply s_gF; exact rfl)
 | (apply s_gFD; exact rfl)
 | (apply c_nil)
 | (apply s_pickT; exact rfl; exact aW)
 | (apply s_pickF; exact rfl; exact aW)
 | (apply s_notT; exact rfl)
 | (apply s_notF; exact rfl)
 | (apply s_cn; exact aO; exact e60 _)
 | (apply s_cn; exact aO; exact e80 _)
 | (apply c_seq)
 | (apply c_reg)
 | (apply c_skip)
 | (apply c_ret)
 | (apply c_condT; exact rfl)
 | (apply c_condF; exact rfl)
 | (with_reducible apply k_c)
    all_goals exact fin_t (by (conv => lhs; whnf)) (by rfl) rfl
  exact callPure_free (by simp [idFreeL, hx.free, hy.free]) (by simp) f52 rfl
theorem inR_get {n : Nat} {M : Int} {l : List Int} (h : InR n M l) : ∀ v : Nat, v < n → -M ≤ getI l (v : Int) ∧ getI l (v : Int) ≤ M := fun v hv => h.2 _ (by rw [getI_nat]; simp [List.getD, show v < l.length by rw [h.1]; exact hv])
theorem callPure_own {call : CallF} {f : Nat} {args args' : List AV} {H H1 : Heap} {r v : AV} (ha : frzL H 40 args = some args') (hc : call f args' [] = some (r, H1)) (hr : r.hasRd = false) (hh : (H1.all fun o => !HO.hasRd o) = true) (hf : frzV H1 40 r = some v) :
    callPure call true f args H = some (v, H) := by
  unfold callPure
  rw [ha, Option.bind_some, hc, Option.bind_some]
  dsimp only
  rw [hr, hh, hf]
  simp
end Go.AM.Ch
