/- A part of the proof: U37. -/
import Derived.Test.YtmegimhfoedcdaaU36
set_option linter.unusedSectionVars false
set_option linter.unusedVariables false
set_option linter.unusedSimpArgs false
namespace Go.AM.Ch
attribute [local go_sem] gc subHeap reach_skip ren_free reach_new reach_newp reach_end rangeL roots boxCells nodupB posOf renL AV.ren pickO renH renO looks look bindEnv envOf reach_int reach_bool reach_nilS reach_rd putRow cells_sl cells_int cells_bool cells_nilS cells_rd cells_agg reach_agg reach_tup idFreeL idf_sl idf_ptr idf_int idf_bool idf_nilS idf_rd reach_fn reach_mp cells_fn cells_ptr cells_mp idf_mp idf_fn idf_agg idf_tup
set_option maxHeartbeats 8000000
theorem e_stBo {call : CallF} {H : Heap} {id : Nat} {l : List Bool} {i : Nat} {v : Bool} (h : H.data? id = some (bL l)) (hi : i < l.length) : evE call H (.st 1) [.ptr id i, .bool v] = some (.undef, H.set id (some (.data (bL (l.set i v))))) := by
  have := e_stB (call := call) (v := v) (i := (i : Int)) h (by simpa using hi)
  simpa using this
theorem p_ldBo {H : Heap} {id : Nat} {l : List Bool} {i : Nat} (h : H.data? id = some (bL l)) (hi : i < l.length) : evP H (.ld false 1) [.ptr id i] = some (.bool (getB l (i : Int))) := by
  have := p_ldB (i := (i : Int)) (cells_of_data h) (by simpa using hi)
  simpa using this
theorem p_neqI {H : Heap} {a c : Int} : evP H (.bin .neq) [.int .i64 a, .int .i64 c] = some (.bool (a != c)) := rfl
/-- places not burnt -/
def leftB (n : Nat) (ord : List Nat) : List Bool := (List.range n).map fun v => !ord.contains v
theorem leftB_len (n : Nat) (ord : List Nat) : (leftB n ord).length = n := by simp [leftB]
theorem leftB_get {n : Nat} {ord : List Nat} {v : Nat} (h : v < n) : getB (leftB n ord) (v : Int) = !ord.contains v := by
  rw [getB_nat]
  simp [leftB, List.getD, h]
theorem extB {a c : List Bool} (h : a.length = c.length) (h2 : ∀ i : Nat, i < a.length → getB a (i : Int) = getB c (i : Int)) : a = c := by
  refine List.ext_getElem h fun j h1 h3 => ?_
  have := h2 j h1
  rw [getB_nat, getB_nat] at this
  simpa [List.getD, h1, h3] using this
theorem getB_set {l : List Bool} {i j : Nat} {v : Bool} (hi : i < l.length) : getB (l.set i v) (j : Int) = if j = i then v else getB l (j : Int) := by
  rw [getB_nat, getB_nat]
  by_cases h : j = i
  · subst h; simp [List.getD, hi]
  · rw [if_neg h]; simp [List.getD, List.getElem?_set_ne (Ne.symm h)]
theorem leftB_set {n : Nat} {ord : List Nat} {v : Nat} (hv : v < n) : (leftB n ord).set v false = leftB n (ord ++ [v]) := by
  refine extB (by simp [leftB_len]) fun i hi => ?_
  rw [List.length_set, leftB_len] at hi
  rw [getB_set (by rw [leftB_len]; exact hv), leftB_get hi, leftB_get hi]
  by_cases e : i = v
  · subst e; simp
  · simp [e]
/-- burn -/
theorem f99 {x y : AV} {b : List (List Int)} {l : List Int} {q : Nat} (hx : IsLL x b) (hy : IsL y l) (hB : IsB b) (hq : q < b.length) (hln : l.length = b.length) {m : Nat} (hm : 300 ≤ m) :
    evF tab it m 99 [x, y, .int .i64 (q : Int)] [] = some (.tup [.sl 0 1 0 b.length, .sl 1 1 0 (burnL b l q).length], [some (.data (bL (leftB b.length (burnL b l q)))), some (.data (iL (nI (burnL b l q))))]) := by
  obtain ⟨m, rfl⟩ : ∃ j, m = j + 1 := ⟨m - 1, by omega⟩
  have fx := hx.free; have fy := hy.free
  have hn1 := hB.n1; have hn2 := hB.n2
  have hbd := hB.bd
  have lx : ∀ H, evP H .len [x] = some (.int .i64 ((b.length : Nat) : Int)) := fun H => by cases hx <;> rfl
  have mk := fun call H => @e_mkB call H b.length (by unfold most; omega)
  have bld : ∀ call H (a : Int), evE call H (.bldS true false 1 1 [.int .i64 0] [(0, 1)]) [.int .i64 a] = some (.sl H.length 1 0 1, H ++ [some (.data [.int .i64 a])]) := fun call H a => rfl
  generalize hR : burnL b l q = R
  refine f_enter rfl rfl ?_
  generalize evF tab it m = call at *
  have gcO : ∀ (v : Nat) (C : List AV), gc 0 [x, y, .int .i64 (q : Int), .sl 0 1 0 b.length, .int .i64 ((b.length : Nat) : Int), .int .i64 (v : Int)] [some (.data C)] = some ([x, y, .int .i64 (q : Int), .sl 0 1 0 b.length, .int .i64 ((b.length : Nat) : Int), .int .i64 (v : Int)], [some (.data C)]) := fun v C => by simp [go_sem, fx, fy]
  have gcF : ∀ (k : Nat) (C D : List AV), gc 0 [x, y, .sl 0 1 0 b.length, .sl 1 1 0 k] [some (.data C), some (.data D)] = some ([x, y, .sl 0 1 0 b.length, .sl 1 1 0 k], [some (.data C), some (.data D)]) := fun k C D => by simp [go_sem, fx, fy]
  have gcF2 : ∀ (k : Nat) (C D : List AV), gc 0 [x, y, .sl 0 1 0 b.length, .sl 2 1 0 k] [some (.data C), none, some (.data D)] = some ([x, y, .sl 0 1 0 b.length, .sl 1 1 0 k], [some (.data C), some (.data D)]) := fun k C D => by simp [go_sem, fx, fy]
  have gcV : ∀ (k v : Nat) (C D : List AV), gc 0 [x, y, .sl 0 1 0 b.length, .sl 1 1 0 k, .sl 0 1 0 b.length, .int .i64 ((b.length : Nat) : Int), .int .i64 (v : Int)] [some (.data C), some (.data D)] = some ([x, y, .sl 0 1 0 b.length, .sl 1 1 0 k, .sl 0 1 0 b.length, .int .i64 ((b.length : Nat) : Int), .int .i64 (v : Int)], [some (.data C), some (.data D)]) := fun k v C D => by simp [go_sem, fx, fy]
  have gcE : ∀ (k v j : Nat) (e : Int) (C D : List AV), gc 0 [x, y, .sl 0 1 0 b.length, .sl 1 1 0 k, .int .i64 (v : Int), .int .i64 e, .sl 0 1 0 b.length, .int .i64 ((b.length : Nat) : Int), .int .i64 (v : Int), .sl 1 1 0 k, .int .i64 (k : Int), .int .i64 (j : Int)] [some (.data C), some (.data D)] = some ([x, y, .sl 0 1 0 b.length, .sl 1 1 0 k, .int .i64 (v : Int), .int .i64 e, .sl 0 1 0 b.length, .int .i64 ((b.length : Nat) : Int), .int .i64 (v : Int), .sl 1 1 0 k, .int .i64 (k : Int), .int .i64 (j : Int)], [some (.data C), some (.data D)]) := fun k v j e C D => by simp [go_sem, fx, fy]
  skip
  repeat' first
 | (apply s_mov; (focus ((conv => lhs; whnf); done)))
 | (apply c_nil)
 | (apply s_pn; (focus (repeat (first | apply opds_nil | (apply opds_cons; (first | (focus ((conv => lhs; whnf); done)) | exact rfl))))); exact lx _)
 | (apply s_en; (focus (repeat (first | apply opds_nil | (apply opds_cons; (first | (focus ((conv => lhs; whnf); done)) | exact rfl))))); exact mk _ _)
 | (apply s_lenSl; exact rfl)
 | (apply c_seq)
 | (apply c_reg)
 | (apply c_block)
 | (apply c_skip)
 | (with_reducible apply k_c)
  refine c_loop ?_
  refine loop_gc (σ := Nat × List Bool) (fun p => [x, y, .int .i64 (q : Int), .sl 0 1 0 b.length, .int .i64 ((b.length : Nat) : Int), .int .i64 (p.1 : Int)]) (fun p => [some (.data (bL p.2))]) (fun p => p.1 ≤ b.length ∧ p.2.length = b.length ∧ ∀ i : Nat, i < p.1 → getB p.2 (i : Int) = !([q] : List Nat).contains i) (fun p => b.length - p.1) ?_ _ (0, List.replicate b.length false) _ _ ⟨by omega, by simp, fun i hi => by omega⟩ (by show b.length - 0 < _; omega) (gcO 0 _)
  intro ⟨v, L⟩ ⟨hv, hLl, hL⟩ K hK
  dsimp only at hv hLl hL hK ⊢
  by_cases hvn : v < b.length
  · have st := fun (vv : Bool) call H h => e_stBo (call := call) (H := H) (id := 0) (l := L) (i := v) (v := vv) h (by omega)
    repeat' first
 | (apply s_mov; (focus ((conv => lhs; whnf); done)))
 | (apply c_nil)
 | ((first | apply s_lss | apply s_leq | apply s_gtr | apply s_geq | apply s_eql | apply s_neq); exact rfl; all_goals (intro _; try (exfalso; omega)))
 | ((first | apply s_add | apply s_sub); exact rfl; omega)
 | (apply s_pn; (focus (repeat (first | apply opds_nil | (apply opds_cons; (first | (focus ((conv => lhs; whnf); done)) | exact rfl))))); exact p_ixO hvn)
 | (apply s_st; (focus (repeat (first | apply opds_nil | (apply opds_cons; (first | (focus ((conv => lhs; whnf); done)) | exact rfl))))); exact st _ _ _ rfl)
 | (apply c_seq)
 | (apply c_reg)
 | (apply c_block)
 | (apply c_skip)
 | (apply c_condT; exact rfl)
 | (with_reducible apply k_c)
    · refine hK (v + 1, L.set v false) _ _ ⟨by omega, by simpa using hLl, fun i hi => ?_⟩ (by show b.length - (v + 1) < _; omega) (gcO (v + 1) _)
      dsimp only
      rw [getB_set (by omega)]
      by_cases e : i = v
      · subst e; rw [if_pos rfl]; symm; simp; omega
      · rw [if_neg e]; exact hL i (by omega)
    · refine hK (v + 1, L.set v true) _ _ ⟨by omega, by simpa using hLl, fun i hi => ?_⟩ (by show b.length - (v + 1) < _; omega) (gcO (v + 1) _)
      dsimp only
      rw [getB_set (by omega)]
      by_cases e : i = v
      · subst e; rw [if_pos rfl]; symm; simp; omega
      · rw [if_neg e]; exact hL i (by omega)
  · obtain rfl : v = b.length := by omega
    obtain rfl : L = leftB b.length [q] := extB (by rw [leftB_len]; exact hLl) fun i hi => by rw [leftB_get (by omega)]; exact hL i (by omega)
    repeat' first
 | (apply c_nil)
 | ((first | apply s_lss | apply s_leq | apply s_gtr | apply s_geq | apply s_eql | apply s_neq); exact rfl; all_goals (intro _; try (exfalso; omega)))
 | (apply c_seq)
 | (apply c_reg)
 | (apply c_exitH)
 | (apply c_condF; exact rfl)
 | (with_reducible apply k_c)
    apply c_pre (vs := [x, y, .int .i64 (q : Int), .sl 0 1 0 b.length]) (H' := [some (.data (bL (leftB b.length [q])))])
    · simp [go_sem, fx, fy]
    repeat' first
 | (apply s_mov; (focus ((conv => lhs; whnf); done)))
 | (apply c_nil)
 | (apply s_en; (focus (repeat (first | apply opds_nil | (apply opds_cons; (first | (focus ((conv => lhs; whnf); done)) | exact rfl))))); exact bld _ _ _)
 | (apply c_seq)
 | (apply c_reg)
 | (apply c_block)
 | (apply c_skip)
 | (with_reducible apply k_c)
    refine c_loop ?_
    refine loop_gc (σ := List Nat × Nat) (fun p => [x, y, .sl 0 1 0 b.length, .sl 1 1 0 p.1.length]) (fun p => [some (.data (bL (leftB b.length p.1))), some (.data (iL (nI p.1)))]) (fun p => BrnOk b l q p.1 ∧ b.length ≤ p.2 + p.1.length ∧ burnF b l p.2 p.1 = R) (fun p => b.length - p.1.length) ?_ _ ([q], b.length) _ _ ⟨BrnOk.init hq, by dsimp only; omega, hR⟩ (by show b.length - 1 < _; omega) (gcF 1 _ _)
    intro ⟨ord, f⟩ ⟨hok, hf, hfR⟩ K2 hK2
    dsimp only at hok hf hfR hK2 ⊢
    have hol := hok.len
    repeat' first
 | (apply s_mov; (focus ((conv => lhs; whnf); done)))
 | (apply c_nil)
 | (apply s_lenSl; exact rfl)
 | (apply c_seq)
 | (apply c_reg)
 | (apply c_block)
 | (with_reducible apply k_c)
    refine c_loop ?_
    refine loop_gc (σ := Nat) (fun v => [x, y, .sl 0 1 0 b.length, .sl 1 1 0 ord.length, .sl 0 1 0 b.length, .int .i64 ((b.length : Nat) : Int), .int .i64 (v : Int)]) (fun _ => [some (.data (bL (leftB b.length ord))), some (.data (iL (nI ord)))]) (fun v => v ≤ b.length ∧ ∀ w, w < v → bP b l ord w = false) (fun v => b.length - v) ?_ _ 0 _ _ ⟨by omega, fun w hw => by omega⟩ (by omega) (gcV _ 0 _ _)
    intro v ⟨hv, hno⟩ K3 hK3
    by_cases hvn : v < b.length
    · have ldl := fun H h => p_ldBo (H := H) (id := 0) (l := leftB b.length ord) (i := v) h (by rw [leftB_len]; exact hvn)
      rw [leftB_get hvn] at ldl
      cases hc : ord.contains v with
      | true =>
        rw [hc] at ldl
        have hbp : bP b l ord v = false := by unfold bP; rw [hc]; rfl
        simp only [Bool.not_true] at ldl
        repeat' first
 | (apply s_mov; (focus ((conv => lhs; whnf); done)))
 | (apply c_nil)
 | (apply s_notF; exact rfl)
 | ((first | apply s_lss | apply s_leq | apply s_gtr | apply s_geq | apply s_eql | apply s_neq); exact rfl; all_goals (intro _; try (exfalso; omega)))
 | (apply s_pn; (focus (repeat (first | apply opds_nil | (apply opds_cons; (first | (focus ((conv => lhs; whnf); done)) | exact rfl))))); exact p_ixO hvn)
 | (apply s_pn; (focus (repeat (first | apply opds_nil | (apply opds_cons; (first | (focus ((conv => lhs; whnf); done)) | exact rfl))))); exact ldl _ rfl)
 | (apply c_seq)
 | (apply c_reg)
 | (apply c_block)
 | (apply c_exitH)
 | (apply c_skip)
 | (apply c_condT; exact rfl)
 | (with_reducible apply k_c)
        all_goals first
          | (apply c_pre (vs := [x, y, .sl 0 1 0 b.length, .sl 1 1 0 ord.length, .sl 0 1 0 b.length, .int .i64 ((b.length : Nat) : Int), .int .i64 (v : Int)]) (H' := [some (.data (bL (leftB b.length ord))), some (.data (iL (nI ord)))])
             · exact gcV _ v _ _)
          | skip
        repeat' first
 | (apply s_mov; (focus ((conv => lhs; whnf); done)))
 | (apply c_nil)
 | ((first | apply s_add | apply s_sub); exact rfl; omega)
 | (apply c_reg)
        refine hK3 (v + 1) _ _ ⟨by omega, fun w hw => ?_⟩ (by omega) (gcV _ (v + 1) _ _)
        rcases (by omega : w < v ∨ w = v) with h | rfl
        · exact hno w h
        · exact hbp
      | false =>
        rw [hc] at ldl
        simp only [Bool.not_false] at ldl
        have hrow := hx.at (i := (v : Int)) ⟨by omega, by omega⟩
        have hrl := hbd.row v hvn
        have fr := hrow.free
        repeat' first
 | (apply s_mov; (focus ((conv => lhs; whnf); done)))
 | (apply c_nil)
 | (apply s_notT; exact rfl)
 | ((first | apply s_lss | apply s_leq | apply s_gtr | apply s_geq | apply s_eql | apply s_neq); exact rfl; all_goals (intro _; try (exfalso; omega)))
 | (apply s_pn; (focus (repeat (first | apply opds_nil | (apply opds_cons; (first | (focus ((conv => lhs; whnf); done)) | exact rfl))))); exact p_ixO hvn)
 | (apply s_pn; (focus (repeat (first | apply opds_nil | (apply opds_cons; (first | (focus ((conv => lhs; whnf); done)) | exact rfl))))); exact ldl _ rfl)
 | (apply s_lenSl; exact rfl)
 | (apply c_seq)
 | (apply c_reg)
 | (apply c_block)
 | (apply c_skip)
 | (apply c_condT; exact rfl)
 | (apply c_condF; exact rfl)
 | (with_reducible apply k_c)
        refine c_loop ?_
        refine loop_gc (σ := Nat) (fun j => [x, y, .sl 0 1 0 b.length, .sl 1 1 0 ord.length, .int .i64 (v : Int), .int .i64 (sumTo (fun j => getI (getLL b (v : Int)) (getI (nI ord) (j : Int))) j), .sl 0 1 0 b.length, .int .i64 ((b.length : Nat) : Int), .int .i64 (v : Int), .sl 1 1 0 ord.length, .int .i64 (ord.length : Int), .int .i64 (j : Int)]) (fun _ => [some (.data (bL (leftB b.length ord))), some (.data (iL (nI ord)))]) (fun j => j ≤ ord.length) (fun j => ord.length - j) ?_ _ 0 _ _ (by omega) (by omega) (gcE _ v 0 _ _ _)
        intro j hj K4 hK4
        have hval : ∀ j : Nat, j < ord.length → (0 ≤ getI (nI ord) (j : Int) ∧ getI (nI ord) (j : Int) < b.length) ∧ 0 ≤ getI (getLL b (v : Int)) (getI (nI ord) (j : Int)) ∧ getI (getLL b (v : Int)) (getI (nI ord) (j : Int)) ≤ 3 := fun j hj => by
          rw [nI_get hj]
          have := hok.lt _ (List.getElem_mem hj)
          have := hbd.val v ord[j] hvn this
          omega
        have hsl := sumTo_le (f := fun j => getI (getLL b (v : Int)) (getI (nI ord) (j : Int))) (M := 3) (n := j) fun t ht => by have := hval t (by omega); omega
        have hK41 := hK4 (j + 1)
        simp only [sumTo] at hK41
        have hbrn : j = ord.length → sumTo (fun j => getI (getLL b (v : Int)) (getI (nI ord) (j : Int))) j = brn b ord v := fun e => by subst e; rfl
        generalize hZ : sumTo (fun j => getI (getLL b (v : Int)) (getI (nI ord) (j : Int))) j = Z at *
        by_cases hjn : j < ord.length
        · have h1 := hval j hjn
          have ldo := fun H h => p_ldO (H := H) (id := 1) (l := nI ord) (i := j) h (by rw [nI_len]; exact hjn)
          repeat' first
 | (apply s_mov; (focus ((conv => lhs; whnf); done)))
 | (apply c_nil)
 | ((first | apply s_lss | apply s_leq | apply s_gtr | apply s_geq | apply s_eql | apply s_neq); exact rfl; all_goals (intro _; try (exfalso; omega)))
 | ((first | apply s_add | apply s_sub); exact rfl; omega)
 | (apply s_pn; (focus (repeat (first | apply opds_nil | (apply opds_cons; (first | (focus ((conv => lhs; whnf); done)) | exact rfl))))); exact p_ixO hjn)
 | (apply s_pn; (focus (repeat (first | apply opds_nil | (apply opds_cons; (first | (focus ((conv => lhs; whnf); done)) | exact rfl))))); exact ldo _ rfl)
 | (apply s_idx; (focus ((conv => lhs; whnf); done)); exact rfl; (first | assumption | (apply IsLL.at; assumption; omega)); omega)
 | (apply s_idxLL; (focus ((conv => lhs; whnf); done)); exact rfl; assumption; omega)
 | (apply s_ldI; exact rfl; omega)
 | (apply s_ldLL; exact rfl; assumption; omega)
 | (apply c_seq)
 | (apply c_reg)
 | (apply c_block)
 | (apply c_skip)
 | (apply c_condT; exact rfl)
 | (with_reducible apply k_c)
          exact hK41 _ _ (by omega) (by omega) (gcE _ v (j + 1) _ _ _)
        · obtain rfl : j = ord.length := by omega
          have hZb := hbrn rfl
          repeat' first
 | (apply c_nil)
 | ((first | apply s_lss | apply s_leq | apply s_gtr | apply s_geq | apply s_eql | apply s_neq); exact rfl; all_goals (intro _; try (exfalso; omega)))
 | (apply c_seq)
 | (apply c_reg)
 | (apply c_exitH)
 | (apply c_condF; exact rfl)
 | (with_reducible apply k_c)
          apply c_pre (vs := [x, y, .sl 0 1 0 b.length, .sl 1 1 0 ord.length, .int .i64 (v : Int), .int .i64 Z, .sl 0 1 0 b.length, .int .i64 ((b.length : Nat) : Int), .int .i64 (v : Int)]) (H' := [some (.data (bL (leftB b.length ord))), some (.data (iL (nI ord)))])
          · simp [go_sem, fx, fy]
          by_cases hlt : getI l (v : Int) < Z
          · have hbp : bP b l ord v = true := by unfold bP; rw [hc, ← hZb]; simpa using hlt
            have hfind : (List.range b.length).find? (bP b l ord) = some v := by
              rw [List.find?_range_eq_some]
              exact ⟨hbp, List.mem_range.2 hvn, fun w hw => by simpa using hno w hw⟩
            have hst := hok.step hvn hbp
            have hcap := hst.len
            simp only [List.length_append, List.length_cons, List.length_nil] at hcap
            obtain ⟨f, rfl⟩ : ∃ j, f = j + 1 := ⟨f - 1, by omega⟩
            simp only [burnF, hfind] at hfR
            have st := fun call H h => e_stBo (call := call) (H := H) (id := 0) (l := leftB b.length ord) (i := v) (v := false) h (by rw [leftB_len]; exact hvn)
            rw [leftB_set hvn] at st
            have apq := fun call (H : Heap) (h : H.data? 1 = some (iL ([] ++ nI ord))) => e_appO (call := call) (a := (v : Int)) (id := 1) h rfl (nI_len ord) (by unfold most; omega)
            rw [show nI ord ++ [(v : Int)] = nI (ord ++ [v]) from by simp [nI]] at apq
            have hK21 := hK2 (ord ++ [v], f)
            dsimp only at hK21
            rw [show (ord ++ [v]).length = ord.length + 1 by simp] at hK21
            repeat' first
 | (apply s_mov; (focus ((conv => lhs; whnf); done)))
 | (apply c_nil)
 | ((first | apply s_lss | apply s_leq | apply s_gtr | apply s_geq | apply s_eql | apply s_neq); exact rfl; all_goals (intro _; try (exfalso; omega)))
 | (apply s_pn; (focus (repeat (first | apply opds_nil | (apply opds_cons; (first | (focus ((conv => lhs; whnf); done)) | exact rfl))))); exact p_ixO hvn)
 | (apply s_st; (focus (repeat (first | apply opds_nil | (apply opds_cons; (first | (focus ((conv => lhs; whnf); done)) | exact rfl))))); exact st _ _ rfl)
 | (apply s_en; (focus (repeat (first | apply opds_nil | (apply opds_cons; (first | (focus ((conv => lhs; whnf); done)) | exact rfl))))); exact e_bld1 rfl rfl rfl rfl)
 | (apply s_en; (focus (repeat (first | apply opds_nil | (apply opds_cons; (first | (focus ((conv => lhs; whnf); done)) | exact rfl))))); exact apq _ _ rfl)
 | (apply s_idx; (focus ((conv => lhs; whnf); done)); exact rfl; (first | assumption | (apply IsLL.at; assumption; omega)); omega)
 | (apply s_ldI; exact rfl; omega)
 | (apply c_seq)
 | (apply c_reg)
 | (apply c_exitH)
 | (apply c_condT; exact rfl)
 | (apply c_exitM; exact rfl)
 | (with_reducible apply k_c)
            all_goals first
              | (exfalso; omega)
              | (refine hK21 _ _ ⟨hst, by omega, hfR⟩ (by omega) (gcF2 _ _ _); done)
              | skip
          · have hbp : bP b l ord v = false := by unfold bP; rw [hc, ← hZb]; simpa using hlt
            repeat' first
 | (apply s_mov; (focus ((conv => lhs; whnf); done)))
 | (apply c_nil)
 | ((first | apply s_lss | apply s_leq | apply s_gtr | apply s_geq | apply s_eql | apply s_neq); exact rfl; all_goals (intro _; try (exfalso; omega)))
 | (apply s_idx; (focus ((conv => lhs; whnf); done)); exact rfl; (first | assumption | (apply IsLL.at; assumption; omega)); omega)
 | (apply s_ldI; exact rfl; omega)
 | (apply c_seq)
 | (apply c_reg)
 | (apply c_skip)
 | (apply c_condF; exact rfl)
 | (with_reducible apply k_c)
            all_goals first
              | (exfalso; omega)
              | skip
            apply c_pre (vs := [x, y, .sl 0 1 0 b.length, .sl 1 1 0 ord.length, .sl 0 1 0 b.length, .int .i64 ((b.length : Nat) : Int), .int .i64 (v : Int)]) (H' := [some (.data (bL (leftB b.length ord))), some (.data (iL (nI ord)))])
            · exact gcV _ v _ _
            repeat' first
 | (apply s_mov; (focus ((conv => lhs; whnf); done)))
 | (apply c_nil)
 | ((first | apply s_add | apply s_sub); exact rfl; omega)
 | (apply c_reg)
            refine hK3 (v + 1) _ _ ⟨by omega, fun w hw => ?_⟩ (by omega) (gcV _ (v + 1) _ _)
            rcases (by omega : w < v ∨ w = v) with h | rfl
            · exact hno w h
            · exact hbp
    · obtain rfl : v = b.length := by omega
      have hfind : (List.range b.length).find? (bP b l ord) = none := by
        rw [List.find?_eq_none]
        intro w hw
        rw [hno w (List.mem_range.1 hw)]
        simp
      have : ord = R := by
        rw [← hfR]
        cases f with
        | zero => rfl
        | succ f => simp only [burnF, hfind]
      subst this
      repeat' first
 | (apply c_nil)
 | ((first | apply s_lss | apply s_leq | apply s_gtr | apply s_geq | apply s_eql | apply s_neq); exact rfl; all_goals (intro _; try (exfalso; omega)))
 | (apply c_seq)
 | (apply c_reg)
 | (apply c_exitH)
 | (apply c_condF; exact rfl)
 | (with_reducible apply k_c)
      apply c_pre (vs := [.sl 0 1 0 b.length, .sl 1 1 0 ord.length]) (H' := [some (.data (bL (leftB b.length ord))), some (.data (iL (nI ord)))])
      · simp [go_sem]
      repeat' first
 | (apply s_mov; (focus ((conv => lhs; whnf); done)))
 | (apply c_nil)
 | (apply c_seq)
 | (apply c_reg)
 | (apply c_ret)
 | (with_reducible apply k_c)
      simp [finish, ress, resOf, look, tupOf, go_sem]
end Go.AM.Ch
