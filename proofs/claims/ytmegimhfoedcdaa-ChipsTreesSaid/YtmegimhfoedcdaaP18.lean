/- A part of the proof: E8 J7 P16 P17 P18. -/
import Derived.Test.YtmegimhfoedcdaaE7
import Derived.Test.YtmegimhfoedcdaaD5
import Derived.Test.YtmegimhfoedcdaaU53a
import Derived.Test.YtmegimhfoedcdaaU14
set_option linter.unusedVariables false
set_option linter.unusedSimpArgs false
set_option linter.unusedSectionVars false
namespace Go.AM.Ch
set_option maxHeartbeats 8000000
theorem LB3 {call : CallF} {N : Nat} {K0 : KT} {X : Nat → KT} {Rt : KT} {res : R} {env : Env} {H : Heap} {x : AV} {b : List (List Int)} {n i : Nat} {p : Int} {rows0 : List (List Int)}
    (hN : 100 ≤ N) (hx : IsLL x b) (hB : IsB b) (hbn : b.length = n + 1) (hin : i < n) (hp : 2 ≤ p ∧ p ≤ 2147483647) (hr0 : RowsP (i + 1) n rows0)
    (h0 : gc 0 (looks env [0, 1, 5, 6, 7, 23, 24, 36, 37]) H = some ([x, .int .i64 p, .int .i64 (n : Int), .sl 0 1 0 n, .int .i64 (i : Int), .int .i64 (n : Int), .int .i64 (i : Int), .int .i64 (n : Int), .int .i64 0], HP n rows0))
    (hK : ∀ rows, RowsP (i + 1) n rows → (∀ u v : Nat, u < i → v < n → getI (getLL rows (u : Int)) (v : Int) = getI (getLL rows0 (u : Int)) (v : Int)) → (∀ v : Nat, v < n → getI (getLL rows (i : Int)) (v : Int) = (p - ed b (i + 1) (v + 1)).tmod p) →
      ∀ env' H', gc 0 (looks env' [0, 1, 5, 6, 7, 23, 24]) H' = some ([x, .int .i64 p, .int .i64 (n : Int), .sl 0 1 0 n, .int .i64 (i : Int), .int .i64 (n : Int), .int .i64 (i : Int)], HP n rows) → K0 env' H' = res) :
    loopIt N (fun K => evC call it N lb61_3 0 K (blkX 2 K0 X) Rt) env H = res := by
  have fx := hx.free
  have hn10 := hB.n2
  refine loop_gc (σ := Nat × List (List Int)) (fun s => [x, .int .i64 p, .int .i64 (n : Int), .sl 0 1 0 n, .int .i64 (i : Int), .int .i64 (n : Int), .int .i64 (i : Int), .int .i64 (n : Int), .int .i64 (s.1 : Int)]) (fun s => HP n s.2) (fun s => s.1 ≤ n ∧ RowsP (i + 1) n s.2 ∧ (∀ u v : Nat, u < i → v < n → getI (getLL s.2 (u : Int)) (v : Int) = getI (getLL rows0 (u : Int)) (v : Int)) ∧ (∀ v : Nat, v < s.1 → getI (getLL s.2 (i : Int)) (v : Int) = (p - ed b (i + 1) (v + 1)).tmod p)) (fun s => n - s.1) ?_ _ (0, rows0) _ _ ⟨by dsimp only; omega, hr0, fun _ _ _ _ => rfl, fun v hv => by dsimp only at hv; omega⟩ (by show n - 0 < _; omega) h0
  clear h0
  intro ⟨k, rows⟩ ⟨hk, hr, hv1, hv2⟩ K hKl
  dsimp only at hk hr hv1 hv2 hKl ⊢
  by_cases hkn : k < n
  · have hrow : (getLL b ((i : Int) + 1)).length = b.length := hB.row (i + 1) (by omega)
    have he := hB.ed (i + 1) (k + 1) (by omega) (by omega)
    have hee : getI (getLL b ((i : Int) + 1)) ((k : Int) + 1) = ed b (i + 1) (k + 1) := rfl
    have he2 : 0 ≤ ed b (i + 1) (k + 1) ∧ ed b (i + 1) (k + 1) ≤ 3 := ⟨he.1.1, he.1.2⟩
    have hI := hx.at (i := (i : Int) + 1) ⟨by omega, by omega⟩
    have l1 := hp_ld hr (i := i) (by omega)
    have st := fun (v : Int) call => hp_st (call := call) (x := v) hr (i := i) (by omega) hkn
    have hr' := fun v : Int => hr.set (x := v) (j := k) (i := i) (by omega)
    have hK1 := fun v : Int => hKl (k + 1, setLL rows i k v)
    dsimp only at hK1
    have hg := fun (v : Int) => gcHP (pre := [x, .int .i64 p, .int .i64 (n : Int)]) (gs := [.int .i64 (i : Int), .int .i64 (n : Int), .int .i64 (i : Int), .int .i64 (n : Int), .int .i64 ((k + 1 : Nat) : Int)]) (M := n) (hr' v) (by omega) (by omega) (by simp [idFreeL, AV.idFree, fx]) (by simp) rfl
    have hn1 := fun v : Int => fun (u w : Nat) (hu : u < i) (hw : w < n) => (hr.setget (x := v) (p := u) (q := w) (i := i) (by omega) hkn)
    have hnext : (∀ u v : Nat, u < i → v < n → getI (getLL (setLL rows i k ((p - ed b (i + 1) (k + 1)).tmod p)) (u : Int)) (v : Int) = getI (getLL rows0 (u : Int)) (v : Int)) ∧ (∀ v : Nat, v < k + 1 → getI (getLL (setLL rows i k ((p - ed b (i + 1) (k + 1)).tmod p)) (i : Int)) (v : Int) = (p - ed b (i + 1) (v + 1)).tmod p) := by
      constructor
      · intro u v hu hv
        rw [hr.setget (by omega) hkn, if_neg (by omega)]
        exact hv1 u v hu hv
      · intro v hv
        rw [hr.setget (by omega) hkn]
        by_cases e : v = k
        · rw [if_pos ⟨rfl, e⟩, e]
        · rw [if_neg (fun h => e h.2)]
          exact hv2 v (by omega)
    clear hv1 hv2 hKl hK hn1 he
    repeat' first
 | (apply s_mov; exact aW)
 | (apply c_nil)
 | (apply s_lss; exact rfl; all_goals (intro _; try (exfalso; omega)))
 | (apply s_add; exact rfl; omega)
 | (apply s_sub; exact rfl; omega)
 | (apply s_pn; exact aO; exact p_ixO hin)
 | (apply s_pn; exact aO; exact p_ixO hkn)
 | (apply s_pn; exact aO; exact l1)
 | (apply s_rem; exact rfl; omega)
 | (apply s_st; exact aO; exact (st _ _))
 | (apply s_idx; exact aW; exact rfl; exact aI; omega)
 | (apply s_idxLL; exact aW; exact rfl; assumption; omega)
 | (apply s_ldI; exact rfl; omega)
 | (apply s_ldLL; exact rfl; assumption; omega)
 | (apply c_seq)
 | (apply c_reg)
 | (apply c_block)
 | (apply c_skip)
 | (apply c_condT; exact rfl)
 | (with_reducible apply k_c)
    all_goals try (exfalso; omega)
    refine hK1 _ _ _ ⟨by omega, hr' _, hnext.1, hnext.2⟩ (by omega) ?_
    exact hg _
  · obtain rfl : k = n := by omega
    clear hKl
    repeat' first
 | (apply c_nil)
 | (apply s_lss; exact rfl; all_goals (intro _; try (exfalso; omega)))
 | (apply c_seq)
 | (apply c_reg)
 | (apply c_exitH)
 | (apply c_condF; exact rfl)
 | (with_reducible apply k_c)
    refine hK rows hr hv1 hv2 _ _ ?_
    exact gcHP (pre := [x, .int .i64 p, .int .i64 (k : Int)]) (gs := [.int .i64 (i : Int), .int .i64 (k : Int), .int .i64 (i : Int)]) (M := k) hr (by omega) (by omega) (by simp [idFreeL, AV.idFree, fx]) (by simp) rfl
theorem repl_nil : ∀ n : Nat, repl n [AV.nilS] = List.replicate n .nilS
  | 0 => rfl
  | n + 1 => by
    show [AV.nilS] ++ repl n [AV.nilS] = _
    rw [repl_nil n, List.replicate_succ]
    rfl
theorem e_mkBn {call : CallF} {n : Nat} (h : n ≤ most) : evE call [] (.mkB 1 24 [.nilS]) [.int .i64 (n : Int), .int .i64 (n : Int)] = some (.sl 0 1 0 n, HP n []) := by
  have h2 : 0 ≤ (n : Int) ∧ (n : Int) = (n : Int) ∧ (n : Int) ≤ most := ⟨by omega, rfl, by omega⟩
  show (if 0 ≤ (n : Int) ∧ (n : Int) = (n : Int) ∧ (n : Int) ≤ most then some (newBox 1 (n : Int).toNat (repl (n : Int).toNat [.nilS]) []) else none) = _
  rw [if_pos h2]
  simp only [Int.toNat_natCast, newBox, repl_nil]
  simp [HP, refs, rowsH]
def MatB (n : Nat) (p : Int) (b rows : List (List Int)) (i : Nat) : Prop := ∀ u v : Nat, u < i → v < n → getI (getLL rows (u : Int)) (v : Int) = if u = v then deg b.length (ed b) (u + 1) else (p - ed b (u + 1) (v + 1)).tmod p
theorem getLL_app {rows : List (List Int)} {z : List Int} {u : Nat} (h : u < rows.length) : getLL (rows ++ [z]) (u : Int) = getLL rows (u : Int) := by
  rw [getLL_nat, getLL_nat]
  simp [List.getD, List.getElem?_append_left h]
theorem gau_mat {b rows : List (List Int)} {n : Nat} {p : Int} (hB : IsB b) (hbn : b.length = n + 1) (hp : 40 ≤ p) (hr : Rows n rows) (h : MatB n p b rows n) : Gau n p (trN b) 0 rows 1 := by
  have g := gr_of hB
  have hval : ∀ u v : Nat, u < n → v < n → 0 ≤ getI (getLL rows (u : Int)) (v : Int) ∧ getI (getLL rows (u : Int)) (v : Int) < p := fun u v hu hv => by
    rw [h u v hu hv]
    split
    · have := deg_nn g (i := u + 1) (by omega); omega
    · have he := (hB.ed (u + 1) (v + 1) (by omega) (by omega)).1
      have he2 : 0 ≤ ed b (u + 1) (v + 1) ∧ ed b (u + 1) (v + 1) ≤ 3 := ⟨he.1, he.2⟩
      have := tmod_in (p := p) (x := p - ed b (u + 1) (v + 1)) (by omega) (by omega)
      exact ⟨this.1, this.2.1⟩
  refine ⟨hr, hval, ⟨by omega, by omega⟩, ?_⟩
  unfold trN
  rw [hbn, show n + 1 - 1 = n by omega, Nat.sub_zero, Int.one_mul]
  refine det_mod fun u v hu hv => ?_
  unfold blk
  rw [Nat.zero_add, Nat.zero_add, h u v hu hv]
  unfold lap
  by_cases e : u = v
  · subst e
    rw [if_pos rfl, if_pos rfl, deg_wB hB (by omega), hbn, show n + 1 - 1 = n by omega, Int.sub_self]
    exact Int.dvd_zero _
  · rw [if_neg e, if_neg (fun h => e h.symm)]
    have he := (hB.ed (u + 1) (v + 1) (by omega) (by omega)).1
    have he2 : 0 ≤ ed b (u + 1) (v + 1) ∧ ed b (u + 1) (v + 1) ≤ 3 := ⟨he.1, he.2⟩
    obtain ⟨z, hz⟩ := (tmod_in (p := p) (x := p - ed b (u + 1) (v + 1)) (by omega) (by omega)).2.2
    unfold eB
    refine ⟨z - 1, ?_⟩
    rw [Int.mul_sub]
    omega
theorem f61 {x : AV} {b : List (List Int)} {p : Int} (hx : IsLL x b) (hB : IsB b) (hp : 40 ≤ p ∧ p ≤ 2147483647) (hnd : allND p.toNat 16 2 = true) {m : Nat} (hm : 400 ≤ m) :
    evF tab it m 61 [x, .int .i64 p] [] = some (.int .i64 (trN b % p), []) := by
  obtain ⟨m, rfl⟩ : ∃ j, m = j + 1 := ⟨m - 1, by omega⟩
  have fx := hx.free
  have hn1 := hB.n1
  have hn10 := hB.n2
  obtain ⟨n, hbn⟩ : ∃ n, b.length = n + 1 := ⟨b.length - 1, by omega⟩
  have lx : ∀ H, evP H .len [x] = some (.int .i64 ((b.length : Nat) : Int)) := fun H => by cases hx <;> rfl
  have sb : ∀ H, evP H (.bin .sub) [.int .i64 ((b.length : Nat) : Int), .int .i64 1] = some (.int .i64 (n : Int)) := fun H => by
    have e : ((b.length : Nat) : Int) - 1 = (n : Int) := by omega
    simp only [evP, binV, isShift, binInt, Bool.false_eq_true, if_false, if_true, e]
    rw [wrapI (by omega)]
  have mk := fun call => @e_mkBn call n (by unfold most; omega)
  have mkI := fun call H => @e_mkI call H n (by unfold most; omega)
  have e74 := fun (i : Nat) (hi : i < n) H => c74 hx hB.bd (i := i + 1) (by omega) (m := m) (by omega) H
  have hL29 := fun (K0 : KT) (X : Nat → KT) (Rt : KT) (res : R) (env : Env) (H : Heap) (rows : List (List Int)) (hr : Rows n rows) (h : MatB n p b rows n) => L29 (N := m) (m := m) (K0 := K0) (X := X) (Rt := Rt) (res := res) (env := env) (H := H) (n := n) (by omega) (by omega) (by omega) ⟨by omega, hp.2⟩ hnd (gau_mat hB hbn hp.1 hr h)
  have hres : ∀ r : Int, 0 ≤ r ∧ r < p → p ∣ trN b - r → r = trN b % p := fun r h1 h2 => by
    have := Int.emod_emod_of_dvd (trN b) (Int.dvd_refl p)
    rw [← Int.emod_eq_of_lt h1.1 h1.2]
    exact ((Int.emod_emod_of_dvd _ (Int.dvd_refl p)).symm.trans (Int.emod_emod_of_dvd _ (Int.dvd_refl p))).trans (Int.emod_eq_emod_iff_emod_sub_eq_zero.2 (by
      have : p ∣ r - trN b := by obtain ⟨z, hz⟩ := h2; exact ⟨-z, by rw [Int.mul_neg]; omega⟩
      exact Int.emod_eq_zero_of_dvd this))
  have hdeg := fun (i : Nat) (hi : i < n) => deg_nn (gr_of hB) (i := i + 1) (by omega)
  refine f_enter rfl rfl ?_
  generalize trN b % p = res0 at *
  have hfin : ∀ (env : Env) (H : Heap) (r : Int), look env 4 = .int .i64 r → r = res0 → finish 0 [.t 4] env H = some (.int .i64 res0, []) := fun env H r h1 h2 => fin_t h1 rfl (by rw [h2])
  have hLL : ∀ (K0 : KT) (X : Nat → KT) (env : Env) (H : Heap) (rows : List (List Int)) (hr : Rows n rows) (h : MatB n p b rows n), _ := fun K0 X env H rows hr h => hL29 K0 X (finish 0 [.t 4]) (some (.int .i64 res0, [])) env H rows hr h
  clear hL29
  generalize hcall : evF tab it m = call at *
  repeat' first
 | (apply s_mov; exact aW)
 | (apply c_nil)
 | (apply s_pn; exact aO; exact lx _)
 | (apply s_pn; exact aO; exact sb _)
 | (apply s_en; exact aO; exact mk _)
 | (apply s_lenSl; exact rfl)
 | (apply c_seq)
 | (apply c_reg)
 | (apply c_block)
 | (with_reducible apply k_c)
  refine c_loop ?_
  refine loop_gc (σ := Nat × List (List Int)) (fun s => [x, .int .i64 p, .int .i64 (n : Int), .sl 0 1 0 n, .int .i64 (n : Int), .int .i64 (s.1 : Int)]) (fun s => HP n s.2) (fun s => s.1 ≤ n ∧ RowsP s.1 n s.2 ∧ MatB n p b s.2 s.1) (fun s => n - s.1) ?_ _ (0, []) _ _ ⟨by dsimp only; omega, ⟨rfl, fun r hr => by cases hr⟩, fun u v hu hv => by dsimp only at hu; omega⟩ (by show n - 0 < _; omega) (gcHP (pre := [x, .int .i64 p, .int .i64 (n : Int)]) (gs := [.int .i64 (n : Int), .int .i64 0]) (M := n) (i := 0) ⟨rfl, fun r hr => by cases hr⟩ (by omega) (by omega) (by simp [idFreeL, AV.idFree, fx]) (by simp) rfl)
  intro ⟨i, rows⟩ ⟨hi, hr, hv⟩ K hKl
  dsimp only at hi hr hv hKl ⊢
  by_cases hin : i < n
  · have hlen : (HP n rows).length = 1 + i := by simp [HP, rowsH, hr.len]; omega
    have e1 : evE call (HP n rows) (.mkS 1 8 [.int .i64 0]) [.int .i64 (n : Int), .int .i64 (n : Int)] = some (.sl (1 + i) 1 0 n, HP n rows ++ [some (.data (iL (List.replicate n 0)))]) := by rw [mkI, hlen]
    have e2 := fun call => hp_new (call := call) hr hin
    have hr1 : RowsP (i + 1) n (rows ++ [List.replicate n 0]) := ⟨by simp [hr.len], fun r h => by
      rcases List.mem_append.1 h with h | h
      · exact hr.each r h
      · rw [List.mem_singleton.1 h]; simp⟩
    have l1 := hp_ld hr1 (i := i) (by omega)
    have hK1 := fun rows => hKl (i + 1, rows)
    dsimp only at hK1
    have hd := hdeg i hin
    have e74i := e74 i hin
    have hgl : ∀ u : Nat, u < i → getLL (rows ++ [List.replicate n 0]) (u : Int) = getLL rows (u : Int) := fun u hu => getLL_app (by rw [hr.len]; exact hu)
    have hnx : ∀ rows', RowsP (i + 1) n rows' → (∀ u v : Nat, u < i → v < n → getI (getLL rows' (u : Int)) (v : Int) = getI (getLL (rows ++ [List.replicate n 0]) (u : Int)) (v : Int)) → (∀ v : Nat, v < n → getI (getLL rows' (i : Int)) (v : Int) = (p - ed b (i + 1) (v + 1)).tmod p) → MatB n p b (setLL rows' i i (deg b.length (ed b) (i + 1))) (i + 1) := fun rows' h1 h2 h3 u v hu hv' => by
      rw [h1.setget (by omega) hin]
      by_cases c1 : u = i
      · subst c1
        by_cases c2 : v = u
        · rw [if_pos ⟨rfl, c2⟩, if_pos c2.symm]
        · rw [if_neg (fun h => c2 h.2), if_neg (fun h => c2 h.symm)]
          exact h3 v hv'
      · rw [if_neg (fun h => c1 h.1), h2 u v (by omega) hv', hgl u (by omega)]
        exact hv u v (by omega) hv'
    have hB3 := fun (K0 : KT) (X : Nat → KT) (Rt : KT) (res : R) (env : Env) (H : Heap) => LB3 (call := call) (N := m) (K0 := K0) (X := X) (Rt := Rt) (res := res) (env := env) (H := H) (i := i) (by omega) hx hB hbn hin ⟨by omega, hp.2⟩ hr1
    clear hv hLL hKl hres hfin hgl hdeg
    repeat' first
 | (apply s_mov; exact aW)
 | (apply c_nil)
 | (apply s_lss; exact rfl; all_goals (intro _; try (exfalso; omega)))
 | (apply s_en; exact aO; exact e1)
 | (apply s_pn; exact aO; exact p_ixO hin)
 | (apply s_st; exact aO; exact (e2 _))
 | (apply s_pn; exact aO; exact l1)
 | (apply s_lenSl; exact rfl)
 | (apply c_seq)
 | (apply c_reg)
 | (apply c_block)
 | (apply c_skip)
 | (apply c_condT; exact rfl)
 | (with_reducible apply k_c)
    refine c_loop ?_
    refine hB3 _ _ _ _ _ _ ?_ ?_
    · exact gcHP (pre := [x, .int .i64 p, .int .i64 (n : Int)]) (gs := [.int .i64 (i : Int), .int .i64 (n : Int), .int .i64 (i : Int), .int .i64 (n : Int), .int .i64 0]) (M := n) hr1 (by omega) (by omega) (by simp [idFreeL, AV.idFree, fx]) (by simp) rfl
    · intro rows' hr' h2 h3 env' H' hgc
      refine k_c (c_pre hgc ?_)
      have l2 := hp_ld hr' (i := i) (by omega)
      have st := fun (v : Int) call => hp_st (call := call) (x := v) hr' (i := i) (by omega) hin
      have hr2 := hr'.set (x := deg b.length (ed b) (i + 1)) (j := i) (i := i) (by omega)
      have hM := hnx rows' hr' h2 h3
      repeat' first
 | (apply s_mov; exact aW)
 | (apply c_nil)
 | (apply s_add; exact rfl; omega)
 | (apply s_cn; exact aO; exact e74i _)
 | (apply s_pn; exact aO; exact p_ixO hin)
 | (apply s_pn; exact aO; exact l2)
 | (apply s_st; exact aO; exact (st _ _))
 | (apply c_reg)
 | (with_reducible apply k_c)
      refine c_pre (gcHP (pre := [x, .int .i64 p, .int .i64 (n : Int)]) (gs := [.int .i64 (n : Int), .int .i64 (i : Int)]) (M := n) hr2 (by omega) (by omega) (by simp [idFreeL, AV.idFree, fx]) (by simp) rfl) ?_
      repeat' first
 | (apply s_mov; exact aW)
 | (apply c_nil)
 | (apply s_add; exact rfl; omega)
 | (apply c_reg)
      refine hK1 _ _ _ ⟨by omega, hr2, hM⟩ (by omega) ?_
      exact gcHP (pre := [x, .int .i64 p, .int .i64 (n : Int)]) (gs := [.int .i64 (n : Int), .int .i64 ((i + 1 : Nat) : Int)]) (M := n) hr2 (by omega) (by omega) (by simp [idFreeL, AV.idFree, fx]) (by simp) rfl
  · obtain rfl : i = n := by omega
    have hrr : Rows i rows := ⟨hr.len, hr.each⟩
    have hg0 := hp_full hrr
    have hLr := fun K0 X env H => hLL K0 X env H rows hrr hv
    clear hKl hv hLL hdeg e74
    subst hcall
    repeat' first
 | (apply c_nil)
 | (apply s_lss; exact rfl; all_goals (intro _; try (exfalso; omega)))
 | (apply c_seq)
 | (apply c_reg)
 | (apply c_exitH)
 | (apply c_condF; exact rfl)
 | (with_reducible apply k_c)
    refine c_pre (gcHP (pre := [.int .i64 p, .int .i64 (i : Int)]) (gs := []) (M := i) hr (by omega) (by omega) rfl (by simp) rfl) ?_
    rw [hg0]
    repeat' first
 | (apply s_mov; exact aW)
 | (apply c_nil)
 | (apply c_seq)
 | (apply c_reg)
 | (apply c_block)
 | (with_reducible apply k_c)
    refine c_loop ?_
    refine hLr _ _ _ _ ?_ ?_ ?_
    · exact gcHB (pre := [.int .i64 p, .int .i64 (i : Int)]) (gs := [.int .i64 1, .int .i64 (i : Int), .int .i64 0]) (M := i) hrr (by omega) rfl (by simp) rfl
    · intro hd env' H' hl
      exact hfin _ _ 0 hl (hres 0 ⟨by omega, by omega⟩ hd)
    · intro rows' out hG env' H' hgc
      refine k_c (c_pre hgc ?_)
      have hd := hG.d
      rw [Nat.sub_self] at hd
      have e1 : det 0 (blk i rows') = 1 := rfl
      rw [e1, Int.mul_one] at hd
      repeat' first
 | (apply s_mov; exact aW)
 | (apply c_nil)
 | (apply c_seq)
 | (apply c_reg)
 | (apply c_ret)
 | (with_reducible apply k_c)
      exact hfin _ _ out rfl (hres out hG.o hd)
set_option maxHeartbeats 8000000
theorem c19o {x : AV} {l : List Int} (hx : IsL x l) (h1 : 1 ≤ l.length) (h2 : l.length ≤ 12) {m : Nat} (hm : 1 ≤ m) (H : Heap) : callPure (evF tab it m) false 19 [x] H = some (.sl H.length 1 0 l.length, H ++ [some (.data (iL l))]) := by
  have ff : idFreeL [x] = true := by simp [idFreeL, hx.free]
  have f := f19 hx m hm
  rw [List.take_of_length_le h2] at f
  have hl := iL_len l
  rcases hA : iL l with _ | ⟨u, us⟩
  · rw [hA] at hl; simp at hl; omega
  · rw [hA] at f hl
    simp only [List.length_cons] at hl
    simp [callPure, frzL_free H 40 [x] (by simp) ff, f, ff, shiftH, AV.ren, renL, idFreeL, idf_sl, AV.idFree, renH, renO, ownV, owH, hl, hx.free]
theorem f18b {x : AV} {B : List (List Int)} {n : Nat} (hx : IsLL x B) (hr : Rows n B) (h1 : 1 ≤ n) (h2 : n ≤ 12) {m : Nat} (hm : 103 ≤ m) : evF tab it m 18 [x] [] = some (.sl 0 1 0 n, HB n B) := by
  obtain ⟨m, rfl⟩ : ∃ j, m = j + 1 := ⟨m - 1, by omega⟩
  have fx := hx.free
  have hBl := hr.len
  have lx := fun H => p_lenLL (H := H) hx
  have e19 := fun (i : Nat) (hi : i < n) H => c19o (m := m) (hx.at (i := (i : Int)) ⟨by omega, by omega⟩) (by rw [hr.get hi]; omega) (by rw [hr.get hi]; omega) (by omega) H
  refine f_enter rfl rfl ?_
  generalize evF tab it m = call at *
  have bz : ∀ (a : Nat) H, evE call H (.bldB 1 1 [.nilS] [(0, 1)]) [.sl a 1 0 n] = some (.sl H.length 1 0 1, H ++ [some (.box [.sl a 1 0 n])]) := fun a H => e_bldB1 rfl rfl rfl
  have hHl : ∀ (k : Nat) (Z : List (List Int)), Z.length = k → (HB k Z).length = 1 + k := fun k Z hZ => by simp [HB, rowsH_length, hZ]; omega
  repeat' first
 | (apply s_mov; exact aW)
 | (apply c_nil)
 | (apply c_seq)
 | (apply c_reg)
 | (apply c_block)
 | (with_reducible apply k_c)
  refine c_loop ?_
  refine loop_gc (σ := Nat) (fun i => [x, if i = 0 then .nilS else .sl 0 1 0 i, .int .i64 (i : Int)]) (fun i => if i = 0 then [] else HB i (B.take i)) (fun i => i ≤ n) (fun i => n - i) ?_ _ 0 _ _ (by omega) (by omega) (by rw [if_pos rfl, if_pos rfl]; exact gc_to rfl (by simp [idFreeL, AV.idFree, *]; done))
  intro i hi K hK
  by_cases hin : i < n
  · have hK1 := hK (i + 1)
    rw [if_neg (show ¬ i + 1 = 0 by omega), if_neg (show ¬ i + 1 = 0 by omega)] at hK1
    have e19i := e19 i hin
    have hrl := hr.get hin
    rw [hrl] at e19i
    have htk : B.take (i + 1) = B.take i ++ [getLL B (i : Int)] := by
      rw [List.take_add_one, List.getElem?_eq_getElem (by omega), getLL_nat]
      simp [List.getD, show i < B.length by omega]
    have hz := iL_len (getLL B (i : Int))
    rw [hrl] at hz
    clear e19
    by_cases h0 : i = 0
    · subst h0
      have app := e_appB_nil (call := call) (q := 24) (id := 1) (H := [some (.data (iL (getLL B ((0 : Nat) : Int)))), some (.box [.sl 0 1 0 n])]) (cs := [.sl 0 1 0 n]) (n := 1) rfl rfl (by omega) (by decide)
      have e19z := e19i []
      rw [if_pos rfl, if_pos rfl]
      repeat' first
 | (apply s_mov; exact aW)
 | (apply s_gT; exact rfl)
 | (apply c_nil)
 | (apply s_pickT; exact rfl; exact aW)
 | (apply s_lss; exact rfl; all_goals (intro _; try (exfalso; omega)))
 | (apply s_add; exact rfl; omega)
 | (apply s_pn; exact aO; exact lx _)
 | (apply s_en; exact aO; exact e19z)
 | (apply s_en; exact aO; exact bz _ _)
 | (apply s_idxLL; exact aW; exact rfl; assumption; omega)
 | (apply s_ldLL; exact rfl; assumption; omega)
 | (apply c_seq)
 | (apply c_reg)
 | (apply c_block)
 | (apply c_skip)
 | (apply c_condT; exact rfl)
 | (with_reducible apply k_c)
      all_goals try (exfalso; omega)
      refine hK1 _ _ (by omega) (by omega) ?_
      have hr1 : refs [0] [iL (getLL B ((0 : Nat) : Int))] = [.sl 0 1 0 n] := by
        show [AV.sl 0 1 0 (iL (getLL B ((0 : Nat) : Int))).length] = _
        rw [hz]
      have := gcR (H := [some (.data (iL (getLL B ((0 : Nat) : Int)))), some (.box [.sl 0 1 0 n]), some (.box [.sl 0 1 0 n])]) (pre := [x]) (gs := [.int .i64 1]) (p := 2) (M := 1) (is := [0]) (R := [iL (getLL B ((0 : Nat) : Int))]) (by simp [idFreeL, AV.idFree, fx]) (by simp) rfl (by rw [hr1]; rfl) rfl (fun j i l h1 h2 => by
        cases j with
        | zero => simp at h1 h2; subst h1; subst h2; rfl
        | succ j => simp at h1) (by simp) (by simp)
      rw [htk]
      exact this
    · rw [if_neg h0, if_neg h0]
      have hZl : (B.take i).length = i := by simp; omega
      have hl1 := hHl i _ hZl
      have e1 := e19i (HB i (B.take i))
      rw [hl1] at e1
      have e2 : evE call (HB i (B.take i) ++ [some (.data (iL (getLL B (i : Int))))]) (.bldB 1 1 [.nilS] [(0, 1)]) [.sl (1 + i) 1 0 n] = some (.sl (2 + i) 1 0 1, HB i (B.take i) ++ [some (.data (iL (getLL B (i : Int)))), some (.box [.sl (1 + i) 1 0 n])]) := by
        rw [bz]
        simp [hl1]
        omega
      have hR1 : (B.take (i + 1)).map iL = (B.take i).map iL ++ [iL (getLL B (i : Int))] := by rw [htk, List.map_append]; rfl
      have hrf : refs (List.range' 1 (i + 1)) ((B.take (i + 1)).map iL) = refs (List.range' 1 i) ((B.take i).map iL) ++ [.sl (1 + i) 1 0 n] := by
        rw [hR1, show List.range' 1 (i + 1) = List.range' 1 i ++ [1 + i] by rw [List.range'_concat]; simp, refs_append (by simp [hZl]; omega)]
        simp [refs, hz]
      have e3 : evE call (HB i (B.take i) ++ [some (.data (iL (getLL B (i : Int)))), some (.box [.sl (1 + i) 1 0 n])]) (.appB 1 24) [.sl 0 1 0 i, .sl (2 + i) 1 0 1] = some (.sl (i + 1 + 1 + 1) 1 0 (i + 1), [none] ++ (rowsH ((B.take (i + 1)).map iL) ++ [some (.box [.sl (1 + i) 1 0 n]), some (.box (refs (List.range' 1 (i + 1)) ((B.take (i + 1)).map iL)))])) := by
        have hlen : (refs (List.range' 1 i) ((B.take i).map iL)).length = i := by rw [refs_length (by simp [hZl]; omega)]; simp; omega
        have hc2 : Heap.cells? (HB i (B.take i) ++ [some (.data (iL (getLL B (i : Int)))), some (.box [.sl (1 + i) 1 0 n])]) (2 + i) = some [.sl (1 + i) 1 0 n] := by
          have : (HB i (B.take i) ++ [some (.data (iL (getLL B (i : Int)))), some (.box [.sl (1 + i) 1 0 n])])[2 + i]? = some (some (.box [.sl (1 + i) 1 0 n])) := by
            rw [List.getElem?_append_right (by omega), hl1, show 2 + i - (1 + i) = 1 by omega]; rfl
          exact cells?_iff.2 (.inr this)
        rw [e_appB_sl (call := call) (q := 24) (id := 0) (id2 := 2 + i) (n := 1) (k := i) (cs := refs (List.range' 1 i) ((B.take i).map iL)) (bs := [.sl (1 + i) 1 0 n]) (by rfl) hlen hc2 rfl (by omega) (by unfold most; omega), hrf, hR1]
        have hset : (HB i (B.take i) ++ [some (HO.data (iL (getLL B (i : Int)))), some (HO.box [.sl (1 + i) 1 0 n])]).set 0 none = [none] ++ (rowsH ((B.take i).map iL ++ [iL (getLL B (i : Int))]) ++ [some (.box [.sl (1 + i) 1 0 n])]) := by
          rw [rowsH_append]
          simp [HB, rowsH]
        rw [hset]
        simp [rowsH_length]
        omega
      repeat' first
 | (apply s_mov; exact aW)
 | (apply s_gT; exact rfl)
 | (apply c_nil)
 | (apply s_pickT; exact rfl; exact aW)
 | (apply s_lss; exact rfl; all_goals (intro _; try (exfalso; omega)))
 | (apply s_add; exact rfl; omega)
 | (apply s_pn; exact aO; exact lx _)
 | (apply s_en; exact aO; exact e1)
 | (apply s_en; exact aO; exact e2)
 | (apply s_en; exact aO; exact e3)
 | (apply s_idxLL; exact aW; exact rfl; assumption; omega)
 | (apply s_ldLL; exact rfl; assumption; omega)
 | (apply c_seq)
 | (apply c_reg)
 | (apply c_block)
 | (apply c_skip)
 | (apply c_condT; exact rfl)
 | (with_reducible apply k_c)
      all_goals try (exfalso; omega)
      refine hK1 _ _ (by omega) (by omega) ?_
      have hRl : ((B.take (i + 1)).map iL).length = i + 1 := by simp; omega
      generalize B.take (i + 1) = Z at *
      have := gcR (pre := [x]) (gs := [.int .i64 ((i : Int) + 1)]) (M := i + 1) (p := i + 1 + 1 + 1) (is := List.range' 1 (i + 1)) (R := Z.map iL) (H := [none] ++ (rowsH (Z.map iL) ++ [some (.box [.sl (1 + i) 1 0 n]), some (.box (refs (List.range' 1 (i + 1)) (Z.map iL)))])) (by simp [idFreeL, AV.idFree, fx]) (by simp) rfl (by rw [get_after [none] _ (s := 1) (q := i + 1) (c := 1) rfl hRl]; rfl) (by simp [hRl]) (rng_rows [none] _ rfl) (by simp [List.mem_range'_1, List.nodup_range']; omega) (by simp; omega)
      rw [show (List.range' 1 (i + 1)).length = i + 1 by simp] at this
      exact this
  · obtain rfl : i = n := by omega
    rw [if_neg (show ¬ i = 0 by omega), if_neg (show ¬ i = 0 by omega), List.take_of_length_le (by omega)]
    repeat' first
 | (apply s_mov; exact aW)
 | (apply s_gF; exact rfl)
 | (apply c_nil)
 | (apply s_pickF; exact rfl; exact aW)
 | (apply s_lss; exact rfl; all_goals (intro _; try (exfalso; omega)))
 | (apply s_pn; exact aO; exact lx _)
 | (apply c_seq)
 | (apply c_reg)
 | (apply c_exitH)
 | (apply c_condF; exact rfl)
 | (with_reducible apply k_c)
    all_goals try (exfalso; omega)
    refine c_pre (gcHB (pre := []) (gs := []) hr (by omega) rfl (by simp) rfl) ?_
    repeat' first
 | (apply s_mov; exact aW)
 | (apply c_nil)
 | (apply c_seq)
 | (apply c_reg)
 | (apply c_ret)
 | (with_reducible apply k_c)
    have := gcHB (pre := []) (gs := []) (M := i) hr (by omega) rfl (by simp) rfl
    simp only [List.nil_append] at this
    simp [finish, ress, resOf, look, tupOf, bindEnv, this]
theorem c18o {x : AV} {B : List (List Int)} {n : Nat} (hx : IsLL x B) (hr : Rows n B) (h1 : 1 ≤ n) (h2 : n ≤ 12) {m : Nat} (hm : 103 ≤ m) (H : Heap) :
    callPure (evF tab it m) false 18 [x] H = some (.sl H.length 1 0 n, H ++ (some (.box (refs (List.range' (H.length + 1) n) (B.map iL))) :: rowsH (B.map iL))) := by
  have h := f18b hx hr h1 h2 hm
  have hs := renL_shift (n := H.length) n 1 (B.map iL)
  have hw := renH_rows (f := fun i => some (H.length + i)) (B.map iL)
  simp only [callPure, frzL_free H 40 [x] (by simp) (by simp [idFreeL, hx.free]), h, idFreeL, hx.free, Option.bind_some, Bool.and_self, Bool.true_or, if_true, Bool.false_eq_true, if_false]
  simp [shiftH, AV.ren, renL, idFreeL, idf_sl, AV.idFree, renH, renO, HB, hs, hw]
theorem wrapU64 {x : Int} : IntKind.u64.wrap x = x % 18446744073709551616 := by
  simp [IntKind.wrap, IntKind.signed, IntKind.bits]
section
variable {call : CallF} {K : KT} {env : Env} {H : Heap} {res : R} {xs : List Opd} {d : Nat} {kp : List Opd} {r : List AI}
theorem wrapUN (a : Nat) : IntKind.u64.wrap (a : Int) = ((a % 18446744073709551616 : Nat) : Int) := by
  rw [wrapU64]; rfl
theorem s_mulU {a b : Nat} (h : opds env xs = [.int .u64 (a : Int), .int .u64 (b : Int)]) (hr : a * b < 18446744073709551616)
    (g : RR call r K ((d, .int .u64 ((a * b : Nat) : Int)) :: env) H res) : RR call (⟨.inl (.bin .mul), xs, some d, none, kp⟩ :: r) K env H res :=
  s_pd (v := .int .u64 ((a * b : Nat) : Int)) (by
    rw [h]
    simp only [evP, binV, isShift, binInt, Bool.false_eq_true, if_false, if_true]
    rw [← Int.natCast_mul, wrapUN, Nat.mod_eq_of_lt hr]) g
theorem s_mulW {a b : Nat} (h : opds env xs = [.int .u64 (a : Int), .int .u64 (b : Int)])
    (g : RR call r K ((d, .int .u64 ((a * b % 18446744073709551616 : Nat) : Int)) :: env) H res) : RR call (⟨.inl (.bin .mul), xs, some d, none, kp⟩ :: r) K env H res :=
  s_pd (v := .int .u64 ((a * b % 18446744073709551616 : Nat) : Int)) (by
    rw [h]
    simp only [evP, binV, isShift, binInt, Bool.false_eq_true, if_false, if_true]
    rw [← Int.natCast_mul, wrapUN]) g
theorem s_addU {a b : Nat} (h : opds env xs = [.int .u64 (a : Int), .int .u64 (b : Int)]) (hr : a + b < 18446744073709551616)
    (g : RR call r K ((d, .int .u64 ((a + b : Nat) : Int)) :: env) H res) : RR call (⟨.inl (.bin .add), xs, some d, none, kp⟩ :: r) K env H res :=
  s_pd (v := .int .u64 ((a + b : Nat) : Int)) (by
    rw [h]
    simp only [evP, binV, isShift, binInt, Bool.false_eq_true, if_false, if_true]
    rw [← Int.natCast_add, wrapUN, Nat.mod_eq_of_lt hr]) g
theorem s_shrU {x : Opd} {a : Nat} (h : opd env x = .int .u64 (a : Int))
    (g : RR call r K ((d, .int .u64 ((a / 4294967296 : Nat) : Int)) :: env) H res) : RR call (⟨.inl (.bin .shr), [x, .c (.int .u64 32)], some d, none, kp⟩ :: r) K env H res :=
  s_pd (v := .int .u64 ((a / 4294967296 : Nat) : Int)) (by
    have h2 : opd env (.c (.int .u64 32)) = .int .u64 32 := rfl
    simp only [opds, h, h2, evP, binV, isShift, shiftInt, if_true]
    rw [if_neg (by omega)]
    have e : ((a : Int)).fdiv (2 ^ min (Int.toNat 32) IntKind.u64.bits) = ((a / 4294967296 : Nat) : Int) := by
      show ((a : Int)).fdiv 4294967296 = _
      cases a <;> rfl
    exact congrArg (fun z => some (AV.int .u64 z)) e) g
theorem and_mask (a : Nat) (h : a < 18446744073709551616) : IntKind.u64.wrap (BitVec.ofInt IntKind.u64.bits (a : Int) &&& BitVec.ofInt IntKind.u64.bits 4294967295).toNat = ((a % 4294967296 : Nat) : Int) := by
  have h1 : (BitVec.ofInt IntKind.u64.bits (a : Int) &&& BitVec.ofInt IntKind.u64.bits 4294967295).toNat = a % 4294967296 := by
    have e1 : (BitVec.ofInt 64 (a : Int)).toNat = a := by
      rw [BitVec.toNat_ofInt]
      have : ((a : Int) % ((2 ^ 64 : Nat) : Int)) = a := Int.emod_eq_of_lt (by omega) (by simp; omega)
      rw [this]; rfl
    have e2 : (BitVec.ofInt 64 4294967295).toNat = 2 ^ 32 - 1 := rfl
    show (BitVec.ofInt 64 (a : Int) &&& BitVec.ofInt 64 4294967295).toNat = a % 4294967296
    rw [BitVec.toNat_and, e1, e2, Nat.and_two_pow_sub_one_eq_mod]
  rw [h1, wrapUN, Nat.mod_eq_of_lt (by omega)]
theorem s_andU {x : Opd} {a : Nat} (h : opd env x = .int .u64 (a : Int)) (hr : a < 18446744073709551616)
    (g : RR call r K ((d, .int .u64 ((a % 4294967296 : Nat) : Int)) :: env) H res) : RR call (⟨.inl (.bin .and), [x, .c (.int .u64 4294967295)], some d, none, kp⟩ :: r) K env H res :=
  s_pd (v := .int .u64 ((a % 4294967296 : Nat) : Int)) (by
    have h2 : opd env (.c (.int .u64 4294967295)) = .int .u64 4294967295 := rfl
    simp only [opds, h, h2, evP, binV, isShift, binInt, Bool.false_eq_true, if_false, if_true]
    exact congrArg (fun z => some (AV.int .u64 z)) (and_mask a hr)) g
end
theorem mul64_eq {x y x0 x1 y0 y1 : Nat} (e0 : x % 4294967296 = x0) (e1 : x / 4294967296 = x1) (e2 : y % 4294967296 = y0) (e3 : y / 4294967296 = y1) : x * y = x1 * y1 * 18446744073709551616 + (x1 * y0 + x0 * y1) * 4294967296 + x0 * y0 := by
  have hx : x = x1 * 4294967296 + x0 := by omega
  have hy : y = y1 * 4294967296 + y0 := by omega
  have : x * y = (x1 * 4294967296 + x0) * (y1 * 4294967296 + y0) := by rw [← hx, ← hy]
  rw [this, Nat.add_mul, Nat.mul_add, Nat.mul_add]
  have a1 : x1 * 4294967296 * (y1 * 4294967296) = x1 * y1 * 18446744073709551616 := by
    rw [Nat.mul_mul_mul_comm]
  have a2 : x1 * 4294967296 * y0 = x1 * y0 * 4294967296 := by rw [Nat.mul_right_comm]
  have a3 : x0 * (y1 * 4294967296) = x0 * y1 * 4294967296 := by rw [Nat.mul_assoc]
  rw [a1, a2, a3, Nat.add_mul]
  omega
theorem f90 {x y : Nat} (hx : x < 18446744073709551616) (hy : y < 18446744073709551616) {m : Nat} (hm : 1 ≤ m) : evF tab it m 90 [.int .u64 (x : Int), .int .u64 (y : Int)] [] = some (.tup [.int .u64 ((x * y / 18446744073709551616 : Nat) : Int), .int .u64 ((x * y % 18446744073709551616 : Nat) : Int)], []) := by
  obtain ⟨m, rfl⟩ : ∃ j, m = j + 1 := ⟨m - 1, by omega⟩
  have hxy := mul64_eq (x := x) (y := y) rfl rfl rfl rfl
  have b0 := Nat.mul_le_mul (show x % 4294967296 ≤ 4294967295 by omega) (show y % 4294967296 ≤ 4294967295 by omega)
  have b1 := Nat.mul_le_mul (show x / 4294967296 ≤ 4294967295 by omega) (show y % 4294967296 ≤ 4294967295 by omega)
  have b2 := Nat.mul_le_mul (show x % 4294967296 ≤ 4294967295 by omega) (show y / 4294967296 ≤ 4294967295 by omega)
  have b3 := Nat.mul_le_mul (show x / 4294967296 ≤ 4294967295 by omega) (show y / 4294967296 ≤ 4294967295 by omega)
  generalize hW : x * y = W at hxy
  refine f_enter rfl rfl ?_
  generalize evF tab it m = call at *
  repeat' first
 | (apply s_mov; exact aW)
 | (apply c_nil)
 | (apply s_andU; exact rfl; omega)
 | (apply s_shrU; exact rfl)
 | (apply s_mulU; exact rfl; omega)
 | (apply s_mulW; exact rfl)
 | (apply s_addU; exact rfl; omega)
 | (apply c_seq)
 | (apply c_reg)
 | (apply c_ret)
 | (with_reducible apply k_c)
  refine fin_tt (by (conv => lhs; whnf)) (by (conv => lhs; whnf)) (by rfl) (by rfl) ?_
  rw [← hW]
  congr 6
  rw [hW]
  generalize x / 4294967296 * (y / 4294967296) = p11 at *
  generalize x / 4294967296 * (y % 4294967296) = p10 at *
  generalize x % 4294967296 * (y / 4294967296) = p01 at *
  generalize x % 4294967296 * (y % 4294967296) = p00 at *
  have : ((p11 + (p10 + p00 / 4294967296) / 4294967296 + ((p10 + p00 / 4294967296) % 4294967296 + p01) / 4294967296 : Nat) : Int) = ((W / 18446744073709551616 : Nat) : Int) := by
    clear hW
    omega
  first | exact this | omega
theorem c90 {x y : Nat} (hx : x < 18446744073709551616) (hy : y < 18446744073709551616) {m : Nat} (hm : 1 ≤ m) (H : Heap) : callPure (evF tab it m) true 90 [.int .u64 (x : Int), .int .u64 (y : Int)] H = some (.tup [.int .u64 ((x * y / 18446744073709551616 : Nat) : Int), .int .u64 ((x * y % 18446744073709551616 : Nat) : Int)], H) :=
  callPure_free rfl (by simp) (f90 hx hy hm) rfl
def mo (M : List Int) (i : Nat) : Nat := (getI M i).toNat
def hv (M : List Int) : Nat → Nat
  | 0 => 1
  | k + 1 => hv M k * (mo M k / Nat.gcd (hv M k) (mo M k))
def gg (M : List Int) (k : Nat) : Nat := Nat.gcd (hv M k) (mo M k)
def part (M : List Int) (k : Nat) : Nat := mo M k / gg M k
def gapN (R M : List Int) (x : Nat) (k : Nat) : Nat := ((getI R k - x) % (mo M k : Int)).toNat
def inv (M : List Int) (k : Nat) : Nat := (invOf (hv M k / gg M k % part M k) (part M k)).toNat
def tt (R M : List Int) (x : Nat) (k : Nat) : Nat := gapN R M x k / gg M k % part M k * inv M k % part M k
def xs (R M : List Int) : Nat → Nat
  | 0 => 0
  | k + 1 => xs R M k + hv M k * tt R M (xs R M k) k
def fit (R M : List Int) (k : Nat) : Prop := gapN R M (xs R M k) k % gg M k = 0
instance (R M : List Int) (k : Nat) : Decidable (fit R M k) := by unfold fit; infer_instance
def okAt (R M : List Int) (i : Nat) : Prop := IsRest (getI R i) (getI M i) ∧ hv M (i + 1) ≤ 4611686018427387904
instance (R M : List Int) (k : Nat) : Decidable (okAt R M k) := by unfold okAt; infer_instance
theorem hv_succ (M : List Int) (k : Nat) : hv M (k + 1) = hv M k * part M k := rfl
section
variable {R M : List Int} {k : Nat}
theorem gg_pos (hm : 1 ≤ mo M k) : 1 ≤ gg M k := Nat.gcd_pos_of_pos_right _ hm
theorem gg_part (M : List Int) (k : Nat) : gg M k * part M k = mo M k := Nat.mul_div_cancel' (Nat.gcd_dvd_right _ _)
theorem part_pos (hm : 1 ≤ mo M k) : 1 ≤ part M k := by
  have := gg_part M k
  rcases Nat.eq_zero_or_pos (part M k) with e | e
  · rw [e, Nat.mul_zero] at this; omega
  · exact e
theorem part_le (M : List Int) (k : Nat) : part M k ≤ mo M k := Nat.div_le_self _ _
theorem gg_le (hm : 1 ≤ mo M k) : gg M k ≤ mo M k := Nat.le_of_dvd hm (Nat.gcd_dvd_right _ _)
theorem tt_lt (hm : 1 ≤ mo M k) (x : Nat) : tt R M x k < part M k := Nat.mod_lt _ (part_pos hm)
theorem gap_lt (hm : 1 ≤ mo M k) (x : Nat) : gapN R M x k < mo M k := by
  unfold gapN
  have a := Int.emod_nonneg (getI R k - x) (show (mo M k : Int) ≠ 0 by omega)
  have b := Int.emod_lt_of_pos (getI R k - x) (show (0 : Int) < mo M k by omega)
  omega
theorem gap_cast (hm : 1 ≤ mo M k) (x : Nat) : ((gapN R M x k : Nat) : Int) = (getI R k - x) % (mo M k : Int) := by
  unfold gapN
  exact Int.toNat_of_nonneg (Int.emod_nonneg _ (by omega))
theorem xs_lt (h : ∀ i, i < k → 1 ≤ mo M i) : xs R M k < hv M k := by
  induction k with
  | zero => exact Nat.zero_lt_one
  | succ k ih =>
    have h1 := ih fun i hi => h i (by omega)
    have h2 := tt_lt (R := R) (h k (by omega)) (xs R M k)
    rw [hv_succ]
    show xs R M k + hv M k * tt R M (xs R M k) k < _
    have := Nat.mul_le_mul_left (hv M k) (show tt R M (xs R M k) k + 1 ≤ part M k by omega)
    rw [Nat.mul_add] at this
    omega
theorem inv_eq {iv : Int} (hm : 1 ≤ mo M k) (h : (mo M k : Int) ∣ iv * ((hv M k % mo M k : Nat) : Int) - (gg M k : Nat)) : iv % (part M k : Int) = (inv M k : Nat) := by
  have hp := part_pos hm
  have hg := gg_pos hm
  have hgp := gg_part M k
  have hgh : gg M k ∣ hv M k := Nat.gcd_dvd_left _ _
  have hh : gg M k * (hv M k / gg M k) = hv M k := Nat.mul_div_cancel' hgh
  have hcop : Nat.gcd (hv M k / gg M k % part M k) (part M k) = 1 := by
    rw [← Nat.gcd_rec, Nat.gcd_comm]
    exact Nat.coprime_div_gcd_div_gcd hg
  obtain ⟨i1, i2, i3⟩ := invOf_spec hp hcop
  have e1 : ((inv M k : Nat) : Int) = invOf (hv M k / gg M k % part M k) (part M k) := Int.toNat_of_nonneg i1
  have e2 : invOf (hv M k / gg M k % part M k) (part M k) % (part M k : Int) = invOf (hv M k / gg M k % part M k) (part M k) := Int.emod_eq_of_lt i1 i2
  rw [e1, ← e2]
  generalize invOf (hv M k / gg M k % part M k) (part M k) = z at *
  generalize hH : hv M k / gg M k = h' at *
  refine inv_uniq (a := (h' : Int)) (by omega) ?_ ?_
  · have s1 : (mo M k : Int) ∣ iv * (hv M k : Nat) - (gg M k : Nat) := by
      have d : (mo M k : Int) ∣ ((hv M k : Nat) : Int) - ((hv M k % mo M k : Nat) : Int) := ⟨(hv M k / mo M k : Nat), by
        have := Nat.mod_add_div (hv M k) (mo M k)
        have : ((hv M k % mo M k : Nat) : Int) + (mo M k : Int) * ((hv M k / mo M k : Nat) : Int) = (hv M k : Nat) := by exact_mod_cast this
        omega⟩
      have := Int.dvd_add h (Int.dvd_trans d (Int.dvd_mul_left iv _))
      rw [Int.mul_sub] at this
      have e : iv * ((hv M k % mo M k : Nat) : Int) - (gg M k : Nat) + (iv * ((hv M k : Nat) : Int) - iv * ((hv M k % mo M k : Nat) : Int)) = iv * (hv M k : Nat) - (gg M k : Nat) := by omega
      rwa [e] at this
    have s2 : ((gg M k : Nat) : Int) * ((part M k : Nat) : Int) ∣ ((gg M k : Nat) : Int) * (iv * (h' : Int) - 1) := by
      have a1 : ((gg M k : Nat) : Int) * ((part M k : Nat) : Int) = (mo M k : Nat) := by exact_mod_cast hgp
      have a2 : ((gg M k : Nat) : Int) * (h' : Int) = (hv M k : Nat) := by exact_mod_cast hh
      have a3 : ((gg M k : Nat) : Int) * (iv * (h' : Int) - 1) = iv * (hv M k : Nat) - (gg M k : Nat) := by
        rw [Int.mul_sub, Int.mul_left_comm, a2, Int.mul_one]
      rw [a1, a3]
      exact s1
    exact Int.dvd_of_mul_dvd_mul_left (by omega) s2
  · have d : ((part M k : Nat) : Int) ∣ (h' : Int) - ((h' % part M k : Nat) : Int) := ⟨(h' / part M k : Nat), by
      have := Nat.mod_add_div h' (part M k)
      have : ((h' % part M k : Nat) : Int) + (part M k : Int) * ((h' / part M k : Nat) : Int) = (h' : Nat) := by exact_mod_cast this
      omega⟩
    have := Int.dvd_add i3 (Int.dvd_trans d (Int.dvd_mul_left z _))
    rw [Int.mul_sub] at this
    have e : z * ((h' % part M k : Nat) : Int) - 1 + (z * (h' : Int) - z * ((h' % part M k : Nat) : Int)) = z * (h' : Int) - 1 := by omega
    rwa [e] at this
end
def okAll (R M : List Int) : Prop := (R.length = M.length ∧ R.length ≤ 32) ∧ ∀ i, i < R.length → okAt R M i
instance (R M : List Int) : Decidable (okAll R M) := by unfold okAll; infer_instance
def comR (R M : List Int) : List AV := if okAll R M then (if ∀ i, i < R.length → fit R M i then [.int .i64 (xs R M R.length : Nat), .int .i64 (hv M R.length : Nat), .int .i64 0] else [.int .i64 0, .int .i64 0, .int .i64 6]) else [.int .i64 0, .int .i64 0, .int .i64 2]
theorem okAt_mo {R M : List Int} {i : Nat} (h : IsRest (getI R i) (getI M i)) : getI M i = (mo M i : Nat) ∧ 1 ≤ mo M i ∧ mo M i ≤ 2147483647 ∧ 0 ≤ getI R i ∧ getI R i < (mo M i : Nat) := by
  unfold IsRest IsNum at h
  unfold mo
  omega
theorem fin_3 {n n' n'' : Nat} {env : Env} {H : Heap} {res : Go.AM.R} {v v' v'' : AV} (hr : look env n = v) (hr' : look env n' = v') (hr'' : look env n'' = v'') (hf : v.idFree = true) (hf' : v'.idFree = true) (hf'' : v''.idFree = true) (e : some (.tup [v, v', v''], []) = res) : finish 0 [.t n, .t n', .t n''] env H = res := by
  simp [finish, ress, resOf, hr, hr', hr'', tupOf, gc_free (vs := [.tup [v, v', v'']]) (by simp [idFreeL, AV.idFree, hf, hf', hf'']) H, ← e]
theorem gcd_mod (a b : Nat) : Nat.gcd (a % b) b = Nat.gcd a b := by
  rw [← Nat.gcd_rec, Nat.gcd_comm]
theorem hv_le {R M : List Int} {k : Nat} (hk : ∀ i, i < k → okAt R M i) : hv M k ≤ 4611686018427387904 := by
  cases k with
  | zero => show 1 ≤ _; omega
  | succ k => exact (hk k (by omega)).2
set_option maxHeartbeats 4000000
theorem inv_lt {M : List Int} {k : Nat} (hm : 1 ≤ mo M k) : inv M k < part M k := by
  have hp := part_pos hm
  have hcop : Nat.gcd (hv M k / gg M k % part M k) (part M k) = 1 := by
    rw [← Nat.gcd_rec, Nat.gcd_comm]
    exact Nat.coprime_div_gcd_div_gcd (gg_pos hm)
  obtain ⟨i1, i2, i3⟩ := invOf_spec hp hcop
  unfold inv
  omega
theorem tmod_b {x : Int} {n : Nat} (hn : 1 ≤ n) : -(n : Int) < x.tmod n ∧ x.tmod n < n := by
  have a := Int.tmod_lt_of_pos x (show (0 : Int) < n by omega)
  have b := Int.lt_tmod_of_pos x (show (0 : Int) < n by omega)
  omega
theorem walk62 {call : CallF} {m : Nat} {x y : AV} {R M : List Int} {env : Env} {X0 : Nat → KT} (hx : IsL x R) (hy : IsL y M) (hl1 : R.length = M.length) (hl2 : R.length ≤ 32) (hok : ∀ i, i < R.length → okAt R M i) (hm : 40 < m)
    (he : looks env [1, 7, 14, 15, 78, 79, 80] = [y, .int .i64 (hv M R.length : Nat), .int .i64 0, .int .i64 1, x, .int .i64 (R.length : Int), .int .i64 0])
    (h89 : ∀ {A B : Nat}, A < 9223372036854775808 → 1 ≤ B → B ≤ 2147483647 → ∀ H, callPure call true 89 [.int .i64 (A : Int), .int .i64 (B : Int)] H = some (.tup [.int .i64 ((eucl A B 1 0).1 : Int), .int .i64 (eucl A B 1 0).2], H))
    (h91 : ∀ {a b n : Nat}, 0 < n → a * b < 9223372036854775808 → ∀ H, callPure call true 91 [.int .i64 (a : Int), .int .i64 (b : Int), .int .i64 (n : Int)] H = some (.int .i64 ((a * b % n : Nat) : Int), H)) :
    RC call it m (.loop lb62_21) 0 (evC call it m sq62_22 0 (finish 0 [.t 4, .t 5, .t 6]) X0 (finish 0 [.t 4, .t 5, .t 6])) (blkX 2 (evC call it m sq62_22 0 (finish 0 [.t 4, .t 5, .t 6]) X0 (finish 0 [.t 4, .t 5, .t 6])) X0) (finish 0 [.t 4, .t 5, .t 6]) env []
      (some (.tup (if ∀ i, i < R.length → fit R M i then [.int .i64 (xs R M R.length : Nat), .int .i64 (hv M R.length : Nat), .int .i64 0] else [.int .i64 0, .int .i64 0, .int .i64 6]), [])) := by
  have fx := hx.free; have fy := hy.free
  refine c_loop ?_
  refine loop_gc (σ := Nat) (fun k => [y, .int .i64 (hv M R.length : Nat), .int .i64 (xs R M k : Nat), .int .i64 (hv M k : Nat), x, .int .i64 (R.length : Int), .int .i64 (k : Int)]) (fun _ => []) (fun k => k ≤ R.length ∧ ∀ j, j < k → fit R M j) (fun k => R.length - k) ?_ _ 0 _ _ ⟨by omega, by omega⟩ (by omega) (gc_to he (by simp [idFreeL, AV.idFree, fx, fy]))
  intro k ⟨hk, hf⟩ K hK
  by_cases hkR : k < R.length
  · have hmo : ∀ i, i < R.length → 1 ≤ mo M i := fun i hi => (okAt_mo (hok i hi).1).2.1
    obtain ⟨m1, m2, m3, m4, m5⟩ := okAt_mo (hok k hkR).1
    have g0 := gg_pos m2
    have g1 := gg_le m2
    have p0 := part_pos m2
    have p1 := part_le M k
    have hM : ∀ H, evP H (.ld false 1) [.rp (iL (M.drop ((k : Int).toNat)))] = some (.int .i64 (mo M k : Nat)) := fun H => by
      rw [p_ld ⟨by omega, by omega⟩, m1]
    have hh := hv_le (k := k) fun i hi => hok i (by omega)
    have hh2 := (hok k hkR).2
    have hxl := xs_lt (R := R) (M := M) (k := k) fun i hi => hmo i (by omega)
    have htl := tt_lt (R := R) m2 (xs R M k)
    have hgl := gap_lt (R := R) m2 (xs R M k)
    have hil := inv_lt m2
    have hW := hv_succ M k
    have hmul := Nat.mul_le_mul_left (hv M k) (show tt R M (xs R M k) k + 1 ≤ part M k by omega)
    rw [Nat.mul_add, ← hW] at hmul
    have e89 := h89 (A := hv M k % mo M k) (B := mo M k) (by have := Nat.mod_lt (hv M k) m2; omega) m2 m3 []
    have hd := eucl_d (A := hv M k % mo M k) (B := mo M k) m2
    rw [eucl_g m2, gcd_mod, show Nat.gcd (hv M k) (mo M k) = gg M k from rfl] at e89
    rw [gcd_mod, show Nat.gcd (hv M k) (mo M k) = gg M k from rfl] at hd
    generalize (eucl (hv M k % mo M k) (mo M k) 1 0).2 = iv at *
    have hie := inv_eq m2 hd.1
    have t1 := tmod_b (x := getI R k - (xs R M k : Nat)) m2
    have t2 := tmod_b (x := iv) p0
    have hgap : ∀ H, evP H (.bin .rem) [.int .i64 ((getI R k - (xs R M k : Nat)).tmod (mo M k : Nat) + (mo M k : Nat)), .int .i64 (mo M k : Nat)] = some (.int .i64 (gapN R M (xs R M k) k : Nat)) := fun H => by
      simp only [evP, binV, isShift, binInt, Bool.false_eq_true, if_false, if_true]
      rw [if_neg (by omega), tmod_add (by omega), gap_cast m2]
    have hinv : ∀ H, evP H (.bin .rem) [.int .i64 (iv.tmod (part M k : Nat) + (part M k : Nat)), .int .i64 (part M k : Nat)] = some (.int .i64 (inv M k : Nat)) := fun H => by
      simp only [evP, binV, isShift, binInt, Bool.false_eq_true, if_false, if_true]
      rw [if_neg (by omega), tmod_add (by omega), hie]
    have ha := Nat.mod_lt (gapN R M (xs R M k) k / gg M k) p0
    have hab := Nat.mul_le_mul (show gapN R M (xs R M k) k / gg M k % part M k ≤ 2147483647 by omega) (show inv M k ≤ 2147483647 by omega)
    have e91 := h91 (a := gapN R M (xs R M k) k / gg M k % part M k) (b := inv M k) (n := part M k) p0 (by omega) []
    rw [show gapN R M (xs R M k) k / gg M k % part M k * inv M k % part M k = tt R M (xs R M k) k from rfl] at e91
    have hpart : mo M k / gg M k = part M k := rfl
    have hgN : gapN R M (xs R M k) k / gg M k ≤ gapN R M (xs R M k) k := Nat.div_le_self _ _
    have hquo : ∀ H, evP H (.bin .quo) [.int .i64 (mo M k : Nat), .int .i64 (gg M k : Nat)] = some (.int .i64 (part M k : Nat)) := fun H => by
      simp only [evP, binV, isShift, binInt, Bool.false_eq_true, if_false, if_true]
      rw [if_neg (by omega), show ((mo M k : Nat) : Int).tdiv (gg M k : Nat) = (part M k : Nat) from rfl, wrapI (by omega)]
    have hfit : fit R M k ↔ gapN R M (xs R M k) k % gg M k = 0 := Iff.rfl
    generalize hgx : gapN R M (xs R M k) k = gp at *
    repeat' first
 | (apply s_mov; exact aW)
 | (apply c_nil)
 | (apply s_lss; exact rfl; all_goals (intro _; try (exfalso; omega)))
 | (apply s_neq; exact rfl; all_goals (intro _; try (exfalso; omega)))
 | (apply s_pn; exact aO; exact hM _)
 | (apply s_pn; exact aO; exact hquo _)
 | (apply s_remN; exact rfl; omega)
 | (apply s_pn; exact aO; exact hgap _)
 | (apply s_pn; exact aO; exact hinv _)
 | (apply s_cn; exact aO; exact e89)
 | (apply s_cn; exact aO; exact e91)
 | (apply s_rem; exact rfl; omega)
 | (apply s_add; exact rfl; omega)
 | (apply s_sub; exact rfl; omega)
 | (apply s_mulN; exact rfl; omega)
 | (apply s_quoN; exact rfl; omega; omega)
 | (apply s_idx; exact aW; exact rfl; exact aI; omega)
 | (apply s_ldI; exact rfl; omega)
 | (apply s_pd; exact aW)
 | (apply c_seq)
 | (apply c_reg)
 | (apply c_block)
 | (apply c_skip)
 | (apply c_ret)
 | (apply c_condT; exact rfl)
 | (apply c_condF; exact rfl)
 | (with_reducible apply k_c)
    · refine hK (k + 1) _ _ ⟨by omega, fun j hj => ?_⟩ (by omega) (gc_to rfl (by simp [idFreeL, AV.idFree, fx, fy]))
      rcases (by omega : j < k ∨ j = k) with h | rfl
      · exact hf j h
      · exact hfit.2 (by omega)
    · rw [if_neg (fun h => by have := hfit.1 (h k hkR); omega)]
      exact fin_3 (by (conv => lhs; whnf)) (by (conv => lhs; whnf)) (by (conv => lhs; whnf)) (by rfl) (by rfl) (by rfl) rfl
  · obtain rfl : R.length = k := by omega
    rw [if_pos hf]
    repeat' first
 | (apply s_mov; exact aW)
 | (apply c_nil)
 | (apply s_lss; exact rfl; all_goals (intro _; try (exfalso; omega)))
 | (apply c_seq)
 | (apply c_reg)
 | (apply c_exitH)
 | (apply c_ret)
 | (apply c_condF; exact rfl)
 | (apply c_preF; exact aK; exact aF)
 | (with_reducible apply k_c)
    exact fin_3 (by (conv => lhs; whnf)) (by (conv => lhs; whnf)) (by (conv => lhs; whnf)) (by rfl) (by rfl) (by rfl) rfl
theorem f62 {x y : AV} {R M : List Int} (hx : IsL x R) (hy : IsL y M) {m : Nat} (hm : 500 ≤ m) : evF tab it m 62 [x, y] [] = some (.tup (comR R M), []) := by
  obtain ⟨m, rfl⟩ : ∃ j, m = j + 1 := ⟨m - 1, by omega⟩
  have fx := hx.free; have fy := hy.free
  have h88 := fun a n H => c88 (m := m) (by omega) a n H
  have h89 := fun {A B : Nat} (hA : A < 9223372036854775808) (h1 : 1 ≤ B) (hB : B ≤ 2147483647) H => c89 (A := A) (B := B) hA h1 hB (m := m) (by omega) H
  have h90 := fun {x y : Nat} (hx : x < 18446744073709551616) (hy : y < 18446744073709551616) H => c90 (x := x) (y := y) hx hy (m := m) (by omega) H
  have h91 := fun {a b n : Nat} (hn : 0 < n) (hab : a * b < 9223372036854775808) H => c91 (a := a) (b := b) (n := n) hn hab (m := m) (by omega) H
  unfold comR
  by_cases hlen : R.length = M.length ∧ R.length ≤ 32
  · obtain ⟨hl1, hl2⟩ := hlen
    refine f_enter rfl rfl ?_
    generalize evF tab it m = call at *
    repeat' first
 | (apply s_mov; exact aW)
 | (apply s_gT; exact rfl)
 | (apply c_nil)
 | (apply s_pickF; exact rfl; exact aW)
 | (apply s_gtr; exact rfl; all_goals (intro _; try (exfalso; omega)))
 | (apply s_neq; exact rfl; all_goals (intro _; try (exfalso; omega)))
 | (apply s_len; exact aW; exact aI)
 | (apply c_seq)
 | (apply c_reg)
 | (apply c_block)
 | (apply c_skip)
 | (apply c_condF; exact rfl)
 | (with_reducible apply k_c)
    refine c_loop ?_
    refine loop_gc (σ := Nat) (fun i => [x, y, .int .i64 (hv M i : Nat), x, .int .i64 (R.length : Int), .int .i64 (i : Int)]) (fun _ => []) (fun i => i ≤ R.length ∧ ∀ j, j < i → okAt R M j) (fun i => R.length - i) ?_ _ 0 _ _ ⟨by omega, by omega⟩ (by omega) (gc_to rfl (by simp [idFreeL, AV.idFree, fx, fy]))
    intro i ⟨hi, hok⟩ K hK
    have hhv := hv_le hok
    by_cases hiR : i < R.length
    · by_cases hr : IsRest (getI R i) (getI M i)
      · obtain ⟨m1, m2, m3, m4, m5⟩ := okAt_mo hr
        have g0 := gg_pos m2
        have p0 := part_pos m2
        have p1 := part_le M i
        have hM : ∀ H, evP H (.ld false 1) [.rp (iL (M.drop ((i : Int).toNat)))] = some (.int .i64 (mo M i : Nat)) := fun H => by
          rw [p_ld ⟨by omega, by omega⟩, m1]
        have e88 := h88 (getI R i) (mo M i : Nat) []
        rw [← m1] at e88
        simp only [hr, decide_true] at e88
        rw [m1] at e88
        have e89 := h89 (A := hv M i) (B := mo M i) (by omega) m2 m3 []
        rw [eucl_g m2, show Nat.gcd (hv M i) (mo M i) = gg M i from rfl] at e89
        have hW := hv_succ M i
        have e90 := h90 (x := hv M i) (y := part M i) (by omega) (by omega) []
        rw [← hW] at e90
        have hq : mo M i / gg M i = part M i := rfl
        have c1 : ∀ H, evP H (.conv .u64) [.int .i64 ((hv M i : Nat) : Int)] = some (.int .u64 ((hv M i : Nat) : Int)) := fun H => by
          simp only [evP, wrapUN]
          rw [Nat.mod_eq_of_lt (by omega)]
        have c2 : ∀ H, evP H (.conv .u64) [.int .i64 ((mo M i / gg M i : Nat) : Int)] = some (.int .u64 ((part M i : Nat) : Int)) := fun H => by
          simp only [evP, hq, wrapUN]
          rw [Nat.mod_eq_of_lt (by omega)]
        have c3 : ∀ H, hv M (i + 1) ≤ 4611686018427387904 → evP H (.conv .i64) [.int .u64 ((hv M (i + 1) % 18446744073709551616 : Nat) : Int)] = some (.int .i64 ((hv M (i + 1) : Nat) : Int)) := fun H h => by
          simp only [evP]
          rw [Nat.mod_eq_of_lt (by omega), wrapI (by omega)]
        generalize hG : (eucl (hv M i) (mo M i) 1 0).2 = iv at *
        repeat' first
 | (apply s_mov; exact aW)
 | (apply s_gT; exact rfl)
 | (apply s_gF; exact rfl)
 | (apply c_nil)
 | (apply s_pickT; exact rfl; exact aW)
 | (apply s_pickF; exact rfl; exact aW)
 | (apply s_notT; exact rfl)
 | (apply s_lss; exact rfl; all_goals (intro _; try (exfalso; omega)))
 | (apply s_gtr; exact rfl; all_goals (intro _; try (exfalso; omega)))
 | (apply s_pn; exact aO; exact hM _)
 | (apply s_cn; exact aO; exact e88)
 | (apply s_cn; exact aO; exact e89)
 | (apply s_cn; exact aO; exact e90)
 | (apply s_pn; exact aO; exact c1 _)
 | (apply s_pn; exact aO; exact c2 _)
 | (apply s_pn; exact aO; exact (c3 _ (by omega)))
 | (apply s_add; exact rfl; omega)
 | (apply s_quoN; exact rfl; omega; omega)
 | (apply s_idx; exact aW; exact rfl; exact aI; omega)
 | (apply s_ldI; exact rfl; omega)
 | (apply s_pd; exact aW)
 | (apply c_seq)
 | (apply c_reg)
 | (apply c_block)
 | (apply c_skip)
 | (apply c_ret)
 | (apply c_condT; exact rfl)
 | (apply c_condF; exact rfl)
 | (with_reducible apply k_c)
        · rw [if_neg (fun h : okAll R M => by have := (h.2 i hiR).2; omega)]
          exact fin_3 (by (conv => lhs; whnf)) (by (conv => lhs; whnf)) (by (conv => lhs; whnf)) (by rfl) (by rfl) (by rfl) rfl
        · rw [if_neg (fun h : okAll R M => by have := (h.2 i hiR).2; omega)]
          exact fin_3 (by (conv => lhs; whnf)) (by (conv => lhs; whnf)) (by (conv => lhs; whnf)) (by rfl) (by rfl) (by rfl) rfl
        · refine hK (i + 1) _ _ ⟨by omega, fun j hj => ?_⟩ (by omega) (gc_to rfl (by simp [idFreeL, AV.idFree, fx, fy]))
          rcases (by omega : j < i ∨ j = i) with h | rfl
          · exact hok j h
          · exact ⟨hr, by omega⟩
      · have hnot : ¬ okAll R M := fun h => hr (h.2 i hiR).1
        rw [if_neg hnot]
        repeat' first
 | (apply s_mov; exact aW)
 | (apply c_nil)
 | (apply s_notT; exact rfl)
 | (apply s_notF; exact rfl)
 | (apply s_lss; exact rfl; all_goals (intro _; try (exfalso; omega)))
 | (apply isE; refine s_cB (by exact aO) (h88 _ _ _) (fun _ => ?_) (fun _ => ?_))
 | (apply s_idx; exact aW; exact rfl; exact aI; omega)
 | (apply s_ldI; exact rfl; omega)
 | (apply c_seq)
 | (apply c_reg)
 | (apply c_block)
 | (apply c_skip)
 | (apply c_ret)
 | (apply c_condT; exact rfl)
 | (apply c_condF; exact rfl)
 | (with_reducible apply k_c)
        all_goals first | exact absurd (by assumption) hr | exact fin_3 (by (conv => lhs; whnf)) (by (conv => lhs; whnf)) (by (conv => lhs; whnf)) (by rfl) (by rfl) (by rfl) rfl
    · obtain rfl : R.length = i := by omega
      have hall : okAll R M := ⟨⟨hl1, hl2⟩, hok⟩
      rw [if_pos hall]
      repeat' first
 | (apply s_mov; exact aW)
 | (apply c_nil)
 | (apply s_lss; exact rfl; all_goals (intro _; try (exfalso; omega)))
 | (apply s_len; exact aW; exact aI)
 | (apply c_seq)
 | (apply c_reg)
 | (apply c_block)
 | (apply c_exitH)
 | (apply c_condF; exact rfl)
 | (apply c_preF; exact aK; exact aF)
 | (with_reducible apply k_c)
      exact walk62 hx hy hl1 hl2 hok (by omega) rfl h89 h91
  · rw [if_neg (fun h => hlen h.1)]
    refine f_enter rfl rfl ?_
    generalize evF tab it m = call at *
    repeat' first
 | (apply s_mov; exact aW)
 | (apply s_gT; exact rfl)
 | (apply s_gF; exact rfl)
 | (apply c_nil)
 | (apply s_pickT; exact rfl; exact aW)
 | (apply s_pickF; exact rfl; exact aW)
 | (apply s_gtr; exact rfl; all_goals (intro _; try (exfalso; omega)))
 | (apply s_neq; exact rfl; all_goals (intro _; try (exfalso; omega)))
 | (apply s_len; exact aW; exact aI)
 | (apply c_seq)
 | (apply c_reg)
 | (apply c_ret)
 | (apply c_condT; exact rfl)
 | (with_reducible apply k_c)
    all_goals first | exact fin_3 (by (conv => lhs; whnf)) (by (conv => lhs; whnf)) (by (conv => lhs; whnf)) (by rfl) (by rfl) (by rfl) rfl | (exfalso; omega)
end Go.AM.Ch
