/- A part of the proof: E4 E5 E1 P1 P2 P3. -/
import Derived.Test.YtmegimhfoedcdaaE3
import Derived.Test.YtmegimhfoedcdaaM3
import Derived.Test.YtmegimhfoedcdaaD2
import Derived.Test.YtmegimhfoedcdaaPc
set_option linter.unusedVariables false
set_option linter.unusedSimpArgs false
set_option linter.unusedSectionVars false
namespace Go.AM.Ch
set_option maxHeartbeats 4000000
def swL (c d : Nat) (rows : List (List Int)) : List (List Int) := (rows.set c (getLL rows (d : Int))).set d (getLL rows (c : Int))
theorem swL_get {n c d : Nat} {rows : List (List Int)} (h : Rows n rows) (hc : c < n) (hd : d < n) (u : Nat) : getLL (swL c d rows) (u : Int) = if u = d then getLL rows (c : Int) else if u = c then getLL rows (d : Int) else getLL rows (u : Int) := by
  have hl := h.len
  rw [getLL_nat (swL c d rows)]
  unfold swL
  by_cases e : u = d
  · subst e; rw [if_pos rfl]; simp [List.getD, hl, hd]
  · rw [if_neg e]
    by_cases e2 : u = c
    · subst e2; rw [if_pos rfl]; unfold List.getD; rw [List.getElem?_set_ne (Ne.symm e), List.getElem?_set_self (by omega)]; rfl
    · rw [if_neg e2, getLL_nat rows u]; simp [List.getD, List.getElem?_set_ne (Ne.symm e), List.getElem?_set_ne (Ne.symm e2)]
theorem swL_rows {n c d : Nat} {rows : List (List Int)} (h : Rows n rows) (hc : c < n) (hd : d < n) : Rows n (swL c d rows) := by
  refine ⟨by simp [swL, h.len], fun r hr => ?_⟩
  unfold swL at hr
  rcases List.mem_or_eq_of_mem_set hr with hr | hr
  · rcases List.mem_or_eq_of_mem_set hr with hr | hr
    · exact h.each r hr
    · rw [hr]; exact h.get hd
  · rw [hr]; exact h.get hc
theorem e_stB {call : CallF} {H : Heap} {id k : Nat} {cs : List AV} {v : AV} (h : H[id]? = some (some (.box cs))) (hk : k < cs.length) (h1 : v.cells = [v]) (h2 : v.one = true) : evE call H (.st 1) [.ptr id k, v] = some (.undef, H.set id (some (.box (cs.set k v)))) := by
  have hb : k + 1 ≤ cs.length := by omega
  have hstep : stAt H 1 (.ptr id k) v = some (H.set id (some (.box (putRow cs k [v])))) := by
    simp only [stAt, h, h1, List.length_singleton, oneL, h2, Bool.and_self, and_self, if_true, if_pos hb]
  have e : putRow cs k [v] = cs.set k v := by
    unfold putRow
    rw [List.set_eq_take_append_cons_drop, if_pos hk]
    simp
  simp only [evE, hstep, Option.map_some, e]
structure Sw (n c d : Nat) (rows : List (List Int)) (H1 H2 : Heap) (is : List Nat) : Prop where
  st1 : ∀ call, evE call (HC n rows c) (.st 1) [.ptr 0 c, .sl (1 + d) 1 0 n] = some (.undef, H1)
  kept : keptOk (HC n rows c) H1 [.ptr (n + 1) 0] = true
  c1 : evP H1 (.ld false 1) [.ptr (n + 1) 0] = some (.int .i64 (c : Int))
  st2 : ∀ call, evE call H1 (.st 1) [.ptr 0 d, .sl (1 + c) 1 0 n] = some (.undef, H2)
  c2 : evP H2 (.ld false 1) [.ptr (n + 1) 0] = some (.int .i64 (c : Int))
  ra : RA H2 is (swL c d rows)
  at_ : is[c]? = some (1 + d)
  ln : is.length = n
  cell : H2[n + 1]? = some (some (.data [.int .i64 (c : Int)]))
  nd : (0 :: (is ++ [n + 1])).Nodup
theorem sw_of {n c d : Nat} {rows : List (List Int)} (h : Rows n rows) (hc : c < n) (hd : d < n) (hcd : c ≠ d) : ∃ H1 H2 is, Sw n c d rows H1 H2 is := by
  have ra := ra_hb h [some (.data (iL [(c : Int)]))]
  have hl := h.len
  have hcell := hc_cell (c := c) h
  have hrl : (refs (List.range' 1 n) (rows.map iL)).length = n := by rw [refs_length (by simp [hl])]; simp [hl]
  have hlen : (HC n rows c).length = n + 2 := by simp [HC, hb_length h]
  have lc := h.get hc
  have ld := h.get hd
  have h0 : (HC n rows c)[0]? = some (some (.box (refs (List.range' 1 n) (rows.map iL)))) := ra.bx
  have b1 : ((HC n rows c).set 0 (some (.box ((refs (List.range' 1 n) (rows.map iL)).set c (.sl (1 + d) 1 0 n)))))[0]? = some (some (.box ((refs (List.range' 1 n) (rows.map iL)).set c (.sl (1 + d) 1 0 n)))) := by
    rw [List.getElem?_set_self (by omega)]
  have g1 : ∀ i, i ≠ 0 → ((HC n rows c).set 0 (some (.box ((refs (List.range' 1 n) (rows.map iL)).set c (.sl (1 + d) 1 0 n)))))[i]? = (HC n rows c)[i]? := fun i hi => by rw [List.getElem?_set_ne (Ne.symm hi)]
  have eH2 : (((HC n rows c).set 0 (some (HO.box ((refs (List.range' 1 n) (rows.map iL)).set c (.sl (1 + d) 1 0 n))))).set 0 (some (.box (((refs (List.range' 1 n) (rows.map iL)).set c (.sl (1 + d) 1 0 n)).set d (.sl (1 + c) 1 0 n))))) = (HC n rows c).set 0 (some (.box (((refs (List.range' 1 n) (rows.map iL)).set c (.sl (1 + d) 1 0 n)).set d (.sl (1 + c) 1 0 n)))) := List.set_set ..
  have g2 : ∀ i, i ≠ 0 → ((HC n rows c).set 0 (some (HO.box (((refs (List.range' 1 n) (rows.map iL)).set c (.sl (1 + d) 1 0 n)).set d (.sl (1 + c) 1 0 n)))))[i]? = (HC n rows c)[i]? := fun i hi => by rw [List.getElem?_set_ne (Ne.symm hi)]
  have key : ∀ j : Nat, j < n → (((List.range' 1 n).set c (1 + d)).set d (1 + c))[j]? = some (if j = d then 1 + c else if j = c then 1 + d else 1 + j) := fun j hj => by
    by_cases e : j = d
    · subst e; rw [List.getElem?_set_self (by simp; omega), if_pos rfl]
    · rw [if_neg e, List.getElem?_set_ne (Ne.symm e)]
      by_cases e2 : j = c
      · subst e2; rw [List.getElem?_set_self (by simp; omega), if_pos rfl]
      · rw [if_neg e2, List.getElem?_set_ne (Ne.symm e2)]; exact rng1 hj
  have hisl : (((List.range' 1 n).set c (1 + d)).set d (1 + c)).length = n := by simp
  refine ⟨(HC n rows c).set 0 (some (.box ((refs (List.range' 1 n) (rows.map iL)).set c (.sl (1 + d) 1 0 n)))), (HC n rows c).set 0 (some (.box (((refs (List.range' 1 n) (rows.map iL)).set c (.sl (1 + d) 1 0 n)).set d (.sl (1 + c) 1 0 n)))), ((List.range' 1 n).set c (1 + d)).set d (1 + c), ?_, ?_, ?_, ?_, ?_, ?_, ?_, ?_, ?_, ?_⟩
  · intro call
    exact e_stB h0 (by omega) rfl rfl
  · have k1 : Heap.cells? (HC n rows c) (n + 1) = some [.int .i64 (c : Int)] := cells?_iff.2 (.inl hcell)
    have k2 : Heap.cells? ((HC n rows c).set 0 (some (.box ((refs (List.range' 1 n) (rows.map iL)).set c (.sl (1 + d) 1 0 n))))) (n + 1) = some [.int .i64 (c : Int)] := cells?_iff.2 (.inl (by rw [g1 _ (by omega)]; exact hcell))
    simp only [keptOk, keptV, k1, k2, flatSame, Bool.and_true]
    simp
  · have := p_ldD (k := 0) (l := [(c : Int)]) (H := (HC n rows c).set 0 (some (.box ((refs (List.range' 1 n) (rows.map iL)).set c (.sl (1 + d) 1 0 n))))) (i := n + 1) (by rw [g1 _ (by omega)]; exact hcell) (by simp)
    rw [this, show getI [(c : Int)] ((0 : Nat) : Int) = (c : Int) by rw [getI_nat]; rfl]
  · intro call
    rw [e_stB (call := call) b1 (by rw [List.length_set]; omega) rfl rfl, eH2]
  · have := p_ldD (k := 0) (l := [(c : Int)]) (H := (HC n rows c).set 0 (some (.box (((refs (List.range' 1 n) (rows.map iL)).set c (.sl (1 + d) 1 0 n)).set d (.sl (1 + c) 1 0 n))))) (i := n + 1) (by rw [g2 _ (by omega)]; exact hcell) (by simp)
    rw [this, show getI [(c : Int)] ((0 : Nat) : Int) = (c : Int) by rw [getI_nat]; rfl]
  · refine ⟨?_, by rw [hisl]; simp [swL, hl], fun j i hj => ?_⟩
    · rw [List.getElem?_set_self (by omega)]
      have e1 := refs_set (List.range' 1 n) (rows.map iL) c (1 + d) (iL (getLL rows (d : Int))) (by simp [hl])
      rw [iL_len, ld] at e1
      have e2 := refs_set ((List.range' 1 n).set c (1 + d)) ((rows.map iL).set c (iL (getLL rows (d : Int)))) d (1 + c) (iL (getLL rows (c : Int))) (by simp [hl])
      rw [iL_len, lc] at e2
      rw [e1, e2]
      unfold swL
      rw [List.map_set, List.map_set]
    · have hj2 := (List.getElem?_eq_some_iff.1 hj).1
      rw [hisl] at hj2
      rw [key j hj2] at hj
      injection hj with hj
      rw [g2 i (by subst hj; split <;> (try split) <;> omega), swL_get h hc hd]
      subst hj
      by_cases e : j = d
      · rw [if_pos e, if_pos e]; exact ra.rw c (1 + c) (rng1 hc)
      · rw [if_neg e, if_neg e]
        by_cases e2 : j = c
        · rw [if_pos e2, if_pos e2]; exact ra.rw d (1 + d) (rng1 hd)
        · rw [if_neg e2, if_neg e2]; exact ra.rw j (1 + j) (rng1 hj2)
  · rw [key c hc, if_neg hcd, if_pos rfl]
  · exact hisl
  · rw [g2 _ (by omega)]; exact hcell
  · have hmem : ∀ a ∈ ((List.range' 1 n).set c (1 + d)).set d (1 + c), 1 ≤ a ∧ a ≤ n := fun a ha => by
      rcases List.mem_or_eq_of_mem_set ha with ha | ha
      · rcases List.mem_or_eq_of_mem_set ha with ha | ha
        · have := List.mem_range'_1.1 ha; omega
        · omega
      · omega
    have hnd : (((List.range' 1 n).set c (1 + d)).set d (1 + c)).Nodup := by
      rw [List.nodup_iff_pairwise_ne, List.pairwise_iff_getElem]
      intro i j hi hj hij e
      rw [hisl] at hi hj
      have a1 := key i hi
      have a2 := key j hj
      rw [List.getElem?_eq_getElem (by omega)] at a1 a2
      injection a1 with a1
      injection a2 with a2
      rw [a1, a2] at e
      revert e
      split <;> split <;> (try split) <;> (try split) <;> omega
    simp only [List.nodup_cons, List.mem_append, List.mem_singleton, List.nodup_append, List.not_mem_nil, not_false_eq_true, and_true]
    refine ⟨fun h => ?_, hnd, by simp, fun a ha b hb => ?_⟩
    · rcases h with h | h
      · have := hmem 0 h; omega
      · omega
    · have := hmem a ha; omega
theorem gcSw {pre gs1 gs2 : List AV} {n M c d : Nat} {rows : List (List Int)} {H1 H2 : Heap} {is : List Nat} (hr : Rows n rows) (hc : c < n) (hd : d < n) (s : Sw n c d rows H1 H2 is) (hn : n < 100) (hp : idFreeL pre = true) (hpl : pre.length ≤ 20) (hg1 : idFreeL gs1 = true) (hg1l : gs1.length ≤ 20) (hg2 : idFreeL gs2 = true) :
    gc 0 (pre ++ .sl 0 1 0 M :: (gs1 ++ .ptr (n + 1) 0 :: gs2)) H2 = some (pre ++ .sl 0 1 0 M :: (gs1 ++ .ptr (n + 1) 0 :: gs2), HC n (swL c d rows) c) := by
  have hl : is.length = ((swL c d rows).map iL).length := by rw [List.length_map, s.ra.ln]
  have := gcQ (H := H2) (pre := pre) (gs1 := gs1) (gs2 := gs2) (p := 0) (q := n + 1) (M := M) (is := is) (R := (swL c d rows).map iL) (c := .int .i64 (c : Int)) hp hpl hg1 hg1l hg2 s.ra.bx hl (fun j i l hj hl => by
    rw [s.ra.rw j i hj]
    have hjr : j < (swL c d rows).length := by have := (List.getElem?_eq_some_iff.1 hl).1; simpa using this
    rw [rows_at hjr] at hl
    injection hl with hl
    rw [hl]) s.cell s.nd (by rw [s.ln]; exact hn)
  rw [this, s.ln]
  simp [HC, HB, iL]
set_option maxHeartbeats 8000000
theorem tmod_in {x p : Int} (hp : 2 ≤ p) (h : 0 ≤ x) : 0 ≤ x.tmod p ∧ x.tmod p < p ∧ p ∣ x - x.tmod p := by
  have e : x.tmod p = x % p := Int.tmod_eq_emod_of_nonneg h
  rw [e]
  exact ⟨Int.emod_nonneg _ (by omega), Int.emod_lt_of_pos _ (by omega), Int.dvd_self_sub_emod⟩
theorem mul_in {a c p : Int} (hp : 2 ≤ p ∧ p ≤ 2147483647) (h1 : 0 ≤ a ∧ a ≤ p) (h2 : 0 ≤ c ∧ c < p) : 0 ≤ a * c ∧ a * c ≤ 4611686014132420609 := by
  refine ⟨Int.mul_nonneg h1.1 h2.1, ?_⟩
  have h3 : a * c ≤ 2147483647 * c := Int.mul_le_mul_of_nonneg_right (by omega) h2.1
  omega
def rS (p t : Int) (c i j : Nat) (rows0 : List (List Int)) (u v : Nat) : Int := if u = i ∧ c ≤ v ∧ v < j then (getI (getLL rows0 (u : Int)) (v : Int) + (p - t) * getI (getLL rows0 (c : Int)) (v : Int)).tmod p else getI (getLL rows0 (u : Int)) (v : Int)
theorem L15 {call : CallF} {N : Nat} {K0 : KT} {X : Nat → KT} {Rt : KT} {res : R} {env : Env} {H : Heap} {n c i : Nat} {p out lead t : Int} {rows0 : List (List Int)}
    (hN : 100 ≤ N) (hn : n ≤ 12) (hr0 : Rows n rows0) (hci : c < i) (hin : i < n) (hp : 2 ≤ p ∧ p ≤ 2147483647) (ht : 0 ≤ t ∧ t < p) (hb : ∀ u v : Nat, u < n → v < n → 0 ≤ getI (getLL rows0 (u : Int)) (v : Int) ∧ getI (getLL rows0 (u : Int)) (v : Int) < p)
    (h0 : gc 0 (looks env [1, 5, 6, 9, 10, 12, 14, 15, 16, 71, 72]) H = some ([.int .i64 p, .int .i64 (n : Int), .sl 0 1 0 n, .int .i64 out, .ptr (n + 1) 0, .int .i64 lead, .int .i64 (i : Int), .int .i64 t, .int .i64 (c : Int), .int .i64 (n : Int), .int .i64 (c : Int)], HC n rows0 c))
    (hK : ∀ rows, Rows n rows → (∀ u v : Nat, u < n → v < n → getI (getLL rows (u : Int)) (v : Int) = rS p t c i n rows0 u v) → ∀ env' H', gc 0 (looks env' [1, 5, 6, 9, 10, 12, 14, 71, 72]) H' = some ([.int .i64 p, .int .i64 (n : Int), .sl 0 1 0 n, .int .i64 out, .ptr (n + 1) 0, .int .i64 lead, .int .i64 (i : Int), .int .i64 (n : Int), .int .i64 (c : Int)], HC n rows c) → K0 env' H' = res) :
    loopIt N (fun K => evC call it N lb61_15 0 K (blkX 8 K0 X) Rt) env H = res := by
  refine loop_gc (σ := Nat × List (List Int)) (fun s => [.int .i64 p, .int .i64 (n : Int), .sl 0 1 0 n, .int .i64 out, .ptr (n + 1) 0, .int .i64 lead, .int .i64 (i : Int), .int .i64 t, .int .i64 (s.1 : Int), .int .i64 (n : Int), .int .i64 (c : Int)]) (fun s => HC n s.2 c) (fun s => c ≤ s.1 ∧ s.1 ≤ n ∧ Rows n s.2 ∧ ∀ u v : Nat, u < n → v < n → getI (getLL s.2 (u : Int)) (v : Int) = rS p t c i s.1 rows0 u v) (fun s => n - s.1) ?_ _ (c, rows0) _ _ ⟨by dsimp only; omega, by dsimp only; omega, hr0, fun u v hu hv => by dsimp only; unfold rS; rw [if_neg (by omega)]⟩ (by show n - c < _; omega) h0
  clear h0
  intro ⟨j, rows⟩ ⟨hj1, hj2, hr, hv⟩ K hKl
  dsimp only at hj1 hj2 hr hv hKl ⊢
  have hg := fun (j : Nat) (rows : List (List Int)) (h : Rows n rows) => gcHC (pre := [.int .i64 p, .int .i64 (n : Int)]) (gs1 := [.int .i64 out]) (gs2 := [.int .i64 lead, .int .i64 (i : Int), .int .i64 t, .int .i64 (j : Int), .int .i64 (n : Int), .int .i64 (c : Int)]) (M := n) (c := c) h (by omega) rfl (by simp) rfl (by simp) rfl
  by_cases hjn : j < n
  · have e1 := hv i j hin hjn
    have e2 := hv c j (by omega) hjn
    unfold rS at e1 e2
    rw [if_neg (by omega)] at e1 e2
    have b1 := hb i j hin hjn
    have b2 := hb c j (by omega) hjn
    have l1 := hc_c (c := c) hr
    have l2 := hc_ld (c := c) hr hin
    have l3 := hc_ld (c := c) hr (i := c) (by omega)
    have l4 := hc_get (c := c) hr hin hjn
    have l5 := hc_get (c := c) hr (i := c) (by omega) hjn
    have st := fun (x : Int) call => hc_st (call := call) (c := c) (x := x) hr hin hjn
    rw [e1] at l4
    rw [e2] at l5
    have hnext : ∀ u v : Nat, u < n → v < n → getI (getLL (setLL rows i j ((getI (getLL rows0 (i : Int)) (j : Int) + (p - t) * getI (getLL rows0 (c : Int)) (j : Int)).tmod p)) (u : Int)) (v : Int) = rS p t c i (j + 1) rows0 u v := fun u v hu hv' => by
      rw [setLL_get hr hin hjn, hv u v hu hv']
      unfold rS
      by_cases c1 : u = i ∧ v = j
      · rw [if_pos c1, if_pos (by omega), c1.1, c1.2]
      · rw [if_neg c1]
        by_cases c2 : u = i ∧ c ≤ v ∧ v < j
        · rw [if_pos c2, if_pos (by omega)]
        · rw [if_neg c2, if_neg (by omega)]
    have hr' := setLL_rows (j := j) (x := (getI (getLL rows0 (i : Int)) (j : Int) + (p - t) * getI (getLL rows0 (c : Int)) (j : Int)).tmod p) hr hin
    have hprod := mul_in (a := p - t) hp (by omega) b2
    have hmul : -9223372036854775808 ≤ (p - t) * getI (getLL rows0 (c : Int)) (j : Int) ∧ (p - t) * getI (getLL rows0 (c : Int)) (j : Int) < 9223372036854775808 := by omega
    have hK1 := hKl (j + 1, setLL rows i j ((getI (getLL rows0 (i : Int)) (j : Int) + (p - t) * getI (getLL rows0 (c : Int)) (j : Int)).tmod p))
    dsimp only at hK1
    clear hv hb hKl hK e1 e2
    generalize getI (getLL rows0 (i : Int)) (j : Int) = A at *
    generalize getI (getLL rows0 (c : Int)) (j : Int) = B at *
    have hcn : c < n := by omega
    repeat' first
 | (apply s_mov; exact aW)
 | (apply c_nil)
 | (apply s_lss; exact rfl; all_goals (intro _; try (exfalso; omega)))
 | (apply s_add; exact rfl; omega)
 | (apply s_sub; exact rfl; omega)
 | (apply s_pn; exact aO; exact p_ixO hin)
 | (apply s_pn; exact aO; exact p_ixO hjn)
 | (apply s_pn; exact aO; exact p_ixO hcn)
 | (apply s_pn; exact aO; exact l1)
 | (apply s_pn; exact aO; exact l2)
 | (apply s_pn; exact aO; exact l3)
 | (apply s_pn; exact aO; exact l4)
 | (apply s_pn; exact aO; exact l5)
 | (apply s_mul; exact rfl; exact hmul)
 | (apply s_rem; exact rfl; omega)
 | (apply s_st; exact aO; exact (st _ _))
 | (apply c_seq)
 | (apply c_reg)
 | (apply c_block)
 | (apply c_skip)
 | (apply c_condT; exact rfl)
 | (with_reducible apply k_c)
    refine hK1 _ _ ⟨by omega, by omega, hr', hnext⟩ (by omega) ?_
    exact hg (j + 1) _ hr'
  · obtain rfl : j = n := by omega
    clear hKl
    repeat' first
 | (apply s_mov; exact aW)
 | (apply c_nil)
 | (apply s_lss; exact rfl; all_goals (intro _; try (exfalso; omega)))
 | (apply c_seq)
 | (apply c_reg)
 | (apply c_exitH)
 | (apply c_condF; exact rfl)
 | (with_reducible apply k_c)
    refine hK rows hr hv _ _ ?_
    exact gcHC (pre := [.int .i64 p, .int .i64 (j : Int)]) (gs1 := [.int .i64 out]) (gs2 := [.int .i64 lead, .int .i64 (i : Int), .int .i64 (j : Int), .int .i64 (c : Int)]) (M := j) (c := c) hr (by omega) rfl (by simp) rfl (by simp) rfl
def rT (p lead : Int) (c i : Nat) (rows0 : List (List Int)) (u v : Nat) : Int := if c < u ∧ u < i ∧ c ≤ v then (getI (getLL rows0 (u : Int)) (v : Int) + (p - (getI (getLL rows0 (u : Int)) (c : Int) * lead).tmod p) * getI (getLL rows0 (c : Int)) (v : Int)).tmod p else getI (getLL rows0 (u : Int)) (v : Int)
theorem L20 {call : CallF} {N : Nat} {K0 : KT} {X : Nat → KT} {Rt : KT} {res : R} {env : Env} {H : Heap} {n c : Nat} {p out lead : Int} {rows0 : List (List Int)}
    (hN : 100 ≤ N) (hn : n ≤ 12) (hr0 : Rows n rows0) (hcn : c < n) (hp : 2 ≤ p ∧ p ≤ 2147483647) (hlead : 0 ≤ lead ∧ lead < p) (hb : ∀ u v : Nat, u < n → v < n → 0 ≤ getI (getLL rows0 (u : Int)) (v : Int) ∧ getI (getLL rows0 (u : Int)) (v : Int) < p)
    (h0 : gc 0 (looks env [1, 5, 6, 9, 10, 12, 14, 71, 72]) H = some ([.int .i64 p, .int .i64 (n : Int), .sl 0 1 0 n, .int .i64 out, .ptr (n + 1) 0, .int .i64 lead, .int .i64 ((c + 1 : Nat) : Int), .int .i64 (n : Int), .int .i64 (c : Int)], HC n rows0 c))
    (hK : ∀ rows, Rows n rows → (∀ u v : Nat, u < n → v < n → getI (getLL rows (u : Int)) (v : Int) = rT p lead c n rows0 u v) → ∀ env' H', gc 0 (looks env' [1, 5, 6, 9, 71, 72]) H' = some ([.int .i64 p, .int .i64 (n : Int), .sl 0 1 0 n, .int .i64 out, .int .i64 (n : Int), .int .i64 (c : Int)], HB n rows) → K0 env' H' = res) :
    loopIt N (fun K => evC call it N lb61_20 0 K (blkX 6 K0 X) Rt) env H = res := by
  refine loop_gc (σ := Nat × List (List Int)) (fun s => [.int .i64 p, .int .i64 (n : Int), .sl 0 1 0 n, .int .i64 out, .ptr (n + 1) 0, .int .i64 lead, .int .i64 (s.1 : Int), .int .i64 (n : Int), .int .i64 (c : Int)]) (fun s => HC n s.2 c) (fun s => c + 1 ≤ s.1 ∧ s.1 ≤ n ∧ Rows n s.2 ∧ ∀ u v : Nat, u < n → v < n → getI (getLL s.2 (u : Int)) (v : Int) = rT p lead c s.1 rows0 u v) (fun s => n - s.1) ?_ _ (c + 1, rows0) _ _ ⟨by dsimp only; omega, by dsimp only; omega, hr0, fun u v hu hv => by dsimp only; unfold rT; rw [if_neg (by omega)]⟩ (by show n - (c + 1) < _; omega) h0
  clear h0
  intro ⟨i, rows⟩ ⟨hi1, hi2, hr, hv⟩ K hKl
  dsimp only at hi1 hi2 hr hv hKl ⊢
  have hbT : ∀ i u v : Nat, u < n → v < n → 0 ≤ rT p lead c i rows0 u v ∧ rT p lead c i rows0 u v < p := fun i u v hu hv => by
    unfold rT
    split
    · have b1 := hb u v hu hv
      have b2 := hb c v hcn hv
      have b3 := hb u c hu hcn
      have q1 := mul_in (a := getI (getLL rows0 (u : Int)) (c : Int)) (c := lead) hp (by omega) hlead
      have q2 := tmod_in (p := p) hp.1 q1.1
      have q3 := mul_in (a := p - (getI (getLL rows0 (u : Int)) (c : Int) * lead).tmod p) (c := getI (getLL rows0 (c : Int)) (v : Int)) hp (by omega) b2
      have q4 := tmod_in (p := p) (x := getI (getLL rows0 (u : Int)) (v : Int) + (p - (getI (getLL rows0 (u : Int)) (c : Int) * lead).tmod p) * getI (getLL rows0 (c : Int)) (v : Int)) hp.1 (by omega)
      exact ⟨q4.1, q4.2.1⟩
    · exact hb u v hu hv
  have hbr : ∀ u v : Nat, u < n → v < n → 0 ≤ getI (getLL rows (u : Int)) (v : Int) ∧ getI (getLL rows (u : Int)) (v : Int) < p := fun u v hu hv' => by
    rw [hv u v hu hv']; exact hbT i u v hu hv'
  by_cases hin : i < n
  · have l1 := hc_c (c := c) hr
    have l2 := hc_ld (c := c) hr hin
    have l4 := hc_get (c := c) hr hin hcn
    have b1 := hbr i c hin hcn
    have hprod := mul_in (a := getI (getLL rows (i : Int)) (c : Int)) (c := lead) hp (by omega) hlead
    have hmul : -9223372036854775808 ≤ getI (getLL rows (i : Int)) (c : Int) * lead ∧ getI (getLL rows (i : Int)) (c : Int) * lead < 9223372036854775808 := by omega
    have ht := tmod_in (p := p) hp.1 hprod.1
    have eT : (getI (getLL rows (i : Int)) (c : Int) * lead).tmod p = (getI (getLL rows0 (i : Int)) (c : Int) * lead).tmod p := by
      rw [hv i c hin hcn]
      unfold rT
      rw [if_neg (by omega)]
    have hg0 := gcHC (pre := [.int .i64 p, .int .i64 (n : Int)]) (gs1 := [.int .i64 out]) (gs2 := [.int .i64 lead, .int .i64 (i : Int), .int .i64 ((getI (getLL rows (i : Int)) (c : Int) * lead).tmod p), .int .i64 (c : Int), .int .i64 (n : Int), .int .i64 (c : Int)]) (M := n) (c := c) hr (by omega) rfl (by simp) rfl (by simp) rfl
    have hK1 := fun rows => hKl (i + 1, rows)
    dsimp only at hK1
    have hL := fun (K0 : KT) (X : Nat → KT) (env : Env) => L15 (call := call) (N := N) (K0 := K0) (X := X) (Rt := Rt) (res := res) (env := env) (out := out) (lead := lead) (t := (getI (getLL rows (i : Int)) (c : Int) * lead).tmod p) (H := HC n rows c) hN hn hr (by omega : c < i) hin hp ⟨ht.1, ht.2.1⟩ hbr
    have hnext : ∀ rows', (∀ u v : Nat, u < n → v < n → getI (getLL rows' (u : Int)) (v : Int) = rS p ((getI (getLL rows (i : Int)) (c : Int) * lead).tmod p) c i n rows u v) → ∀ u v : Nat, u < n → v < n → getI (getLL rows' (u : Int)) (v : Int) = rT p lead c (i + 1) rows0 u v := fun rows' h u v hu hv' => by
      rw [h u v hu hv', eT]
      unfold rS
      rw [hv u v hu hv', hv c v hcn hv']
      unfold rT
      by_cases c1 : u = i ∧ c ≤ v ∧ v < n
      · rw [if_pos c1, if_neg (by omega), if_neg (by omega), if_pos (by omega), c1.1]
      · rw [if_neg c1]
        by_cases c2 : c < u ∧ u < i ∧ c ≤ v
        · rw [if_pos c2, if_pos (by omega)]
        · rw [if_neg c2, if_neg (by omega)]
    clear hv hb hKl hK hbT hbr eT
    generalize (getI (getLL rows (i : Int)) (c : Int)) = A at *
    repeat' first
 | (apply s_mov; exact aW)
 | (apply c_nil)
 | (apply s_lss; exact rfl; all_goals (intro _; try (exfalso; omega)))
 | (apply s_pn; exact aO; exact p_ixO hin)
 | (apply s_pn; exact aO; exact p_ixO hcn)
 | (apply s_pn; exact aO; exact l1)
 | (apply s_pn; exact aO; exact l2)
 | (apply s_pn; exact aO; exact l4)
 | (apply s_mul; exact rfl; exact hmul)
 | (apply s_rem; exact rfl; omega)
 | (apply c_seq)
 | (apply c_reg)
 | (apply c_block)
 | (apply c_skip)
 | (apply c_condT; exact rfl)
 | (with_reducible apply k_c)
    refine c_loop ?_
    refine hL _ _ _ ?_ ?_
    · exact hg0
    · intro rows' hr' hv' env' H' hgc
      refine k_c (c_pre hgc ?_)
      repeat' first
 | (apply s_mov; exact aW)
 | (apply c_nil)
 | (apply s_add; exact rfl; omega)
 | (apply c_reg)
      refine hK1 rows' _ _ ⟨by omega, by omega, hr', hnext rows' hv'⟩ (by omega) ?_
      exact gcHC (pre := [.int .i64 p, .int .i64 (n : Int)]) (gs1 := [.int .i64 out]) (gs2 := [.int .i64 lead, .int .i64 ((i + 1 : Nat) : Int), .int .i64 (n : Int), .int .i64 (c : Int)]) (M := n) (c := c) hr' (by omega) rfl (by simp) rfl (by simp) rfl
  · obtain rfl : i = n := by omega
    clear hKl hbT hbr hb
    repeat' first
 | (apply s_mov; exact aW)
 | (apply c_nil)
 | (apply s_lss; exact rfl; all_goals (intro _; try (exfalso; omega)))
 | (apply c_seq)
 | (apply c_reg)
 | (apply c_exitH)
 | (apply c_condF; exact rfl)
 | (with_reducible apply k_c)
    refine hK rows hr hv _ _ ?_
    exact gcHC0 (pre := [.int .i64 p, .int .i64 (i : Int)]) (gs := [.int .i64 out, .int .i64 (i : Int), .int .i64 (c : Int)]) (M := i) (c := c) hr (by omega) rfl (by simp) rfl
set_option maxHeartbeats 2000000
def allND (p : Nat) : Nat → Nat → Bool
  | 0, a => !(p % a).beq 0
  | k + 1, a => allND p k a && allND p k (a + 2 ^ k)
theorem allND_spec {p : Nat} : ∀ {k a : Nat}, allND p k a = true → ∀ d, a ≤ d → d < a + 2 ^ k → ¬ d ∣ p
  | 0, a, h, d, h1, h2, hd => by
    have e : d = a := by simp at h2; omega
    subst e
    have : p % d = 0 := Nat.mod_eq_zero_of_dvd hd
    unfold allND at h
    rw [this] at h
    cases h
  | k + 1, a, h, d, h1, h2, hd => by
    unfold allND at h
    rw [Bool.and_eq_true] at h
    rw [Nat.pow_succ] at h2
    rcases Nat.lt_or_ge d (a + 2 ^ k) with g | g
    · exact allND_spec h.1 d h1 g hd
    · exact allND_spec h.2 d g (by omega) hd
theorem nd1 : allND 2147483647 16 2 = true := by decide +kernel
theorem nd2 : allND 2147483629 16 2 = true := by decide +kernel
theorem cop_of {p : Nat} (hp : p < 46341 * 46341) (h : allND p 16 2 = true) {a : Nat} (h0 : 0 < a) (ha : a < p) : Nat.gcd a p = 1 := by
  have hs := allND_spec h
  have h1 : Nat.gcd a p ∣ p := Nat.gcd_dvd_right _ _
  have h2 : Nat.gcd a p ≤ a := Nat.gcd_le_left _ h0
  have h3 : 0 < Nat.gcd a p := Nat.gcd_pos_of_pos_left _ h0
  generalize Nat.gcd a p = g at *
  apply Classical.byContradiction
  intro hne
  obtain ⟨q, hq⟩ := h1
  have hq1 : q ∣ p := ⟨g, by rw [Nat.mul_comm]; exact hq⟩
  have hq2 : 2 ≤ q := by
    rcases (by omega : q = 0 ∨ q = 1 ∨ 2 ≤ q) with rfl | rfl | h
    · simp at hq; omega
    · omega
    · exact h
  rcases Nat.lt_or_ge g 65538 with c | c
  · exact hs g (by omega) (by omega) ⟨q, hq⟩
  · rcases Nat.lt_or_ge q 65538 with d | d
    · exact hs q hq2 (by omega) hq1
    · have := Nat.mul_le_mul c d
      omega
theorem det_below {n : Nat} (M : Nat → Nat → Int) (t : Nat → Int) : ∀ s, s ≤ n → det (n + 1) (fun r k => if r = 0 ∨ s < r then M r k else M r k - t (r - 1) * M 0 k) = det (n + 1) M
  | 0, _ => by
    congr 1
    funext r k
    rw [if_pos (by omega)]
  | s + 1, hs => by
    rw [← det_below M t s (by omega)]
    rw [← det_row (n := n + 1) (i := s + 1) (j := 0) (by omega) (by omega) (by omega) (- t s) (fun r k => if r = 0 ∨ s < r then M r k else M r k - t (r - 1) * M 0 k)]
    congr 1
    funext r k
    unfold rwR
    by_cases h : r = s + 1
    · subst h
      rw [if_neg (by omega), if_pos rfl]
      show M (s + 1) k - t (s + 1 - 1) * M 0 k = (if s + 1 = 0 ∨ s < s + 1 then M (s + 1) k else M (s + 1) k - t (s + 1 - 1) * M 0 k) + -t s * (if 0 = 0 ∨ s < 0 then M 0 k else M 0 k - t (0 - 1) * M 0 k)
      rw [if_pos (by omega), if_pos (by omega), Int.neg_mul]
      show M (s + 1) k - t s * M 0 k = _
      omega
    · rw [if_neg h]
      show (if r = 0 ∨ s + 1 < r then M r k else M r k - t (r - 1) * M 0 k) = if r = 0 ∨ s < r then M r k else M r k - t (r - 1) * M 0 k
      by_cases h2 : r = 0 ∨ s < r
      · rw [if_pos h2, if_pos (by omega)]
      · rw [if_neg h2, if_neg (by omega)]
theorem gauss_step {p : Int} {n : Nat} {M N : Nat → Nat → Int} {t : Nat → Int} (h1 : ∀ r k, r < n → k < n → p ∣ N (r + 1) (k + 1) - (M (r + 1) (k + 1) - t r * M 0 (k + 1))) (h2 : ∀ r, r < n → p ∣ M (r + 1) 0 - t r * M 0 0) :
    p ∣ det (n + 1) M - M 0 0 * det n (fun r k => N (r + 1) (k + 1)) := by
  rw [← det_below M t n (Nat.le_refl _)]
  have e : det (n + 1) (fun r k => if r = 0 ∨ n < r then M r k else M r k - t (r - 1) * M 0 k) = sumTo (fun i => sg i * ((fun r k => if r = 0 ∨ n < r then M r k else M r k - t (r - 1) * M 0 k) i 0 * det n (mn (fun r k => if r = 0 ∨ n < r then M r k else M r k - t (r - 1) * M 0 k) i 0))) (n + 1) := rfl
  rw [e, sumTo_front']
  have hz : p ∣ sumTo (fun j => sg (j + 1) * ((fun r k => if r = 0 ∨ n < r then M r k else M r k - t (r - 1) * M 0 k) (j + 1) 0 * det n (mn (fun r k => if r = 0 ∨ n < r then M r k else M r k - t (r - 1) * M 0 k) (j + 1) 0))) n := dvd_sumTo fun j hj => by
    refine Int.dvd_mul_of_dvd_right (Int.dvd_mul_of_dvd_left ?_)
    show p ∣ if j + 1 = 0 ∨ n < j + 1 then M (j + 1) 0 else M (j + 1) 0 - t (j + 1 - 1) * M 0 0
    rw [if_neg (by omega)]
    exact h2 j hj
  have hm : p ∣ det n (fun r k => N (r + 1) (k + 1)) - det n (mn (fun r k => if r = 0 ∨ n < r then M r k else M r k - t (r - 1) * M 0 k) 0 0) := det_mod fun r k hr hk => by
    show p ∣ N (r + 1) (k + 1) - if r + 1 = 0 ∨ n < r + 1 then M (r + 1) (k + 1) else M (r + 1) (k + 1) - t (r + 1 - 1) * M 0 (k + 1)
    rw [if_neg (by omega)]
    exact h1 r k hr hk
  have h0 : (fun r k => if r = 0 ∨ n < r then M r k else M r k - t (r - 1) * M 0 k) 0 0 = M 0 0 := by simp
  rw [h0]
  have hs0 : sg 0 = 1 := rfl
  rw [hs0, Int.one_mul]
  generalize det n (mn (fun r k => if r = 0 ∨ n < r then M r k else M r k - t (r - 1) * M 0 k) 0 0) = D1 at *
  generalize det n (fun r k => N (r + 1) (k + 1)) = D2 at *
  generalize sumTo _ n = Z at *
  have e2 : M 0 0 * D1 + Z - M 0 0 * D2 = Z - M 0 0 * (D2 - D1) := by rw [Int.mul_sub]; omega
  rw [e2]
  exact Int.dvd_sub hz (Int.dvd_mul_of_dvd_right hm)
theorem det_col0 {n : Nat} {M : Nat → Nat → Int} (h : ∀ r, r < n + 1 → M r 0 = 0) : det (n + 1) M = 0 := by
  have e : det (n + 1) M = sumTo (fun i => sg i * (M i 0 * det n (mn M i 0))) (n + 1) := rfl
  rw [e]
  have e2 : sumTo (fun i => sg i * (M i 0 * det n (mn M i 0))) (n + 1) = sumTo (fun _ => 0) (n + 1) := sumTo_congr fun i hi => by rw [h i hi]; simp
  rw [e2, sumTo_zero]
def IsNum (a : Int) : Prop := 1 ≤ a ∧ a ≤ 2147483647
instance (a : Int) : Decidable (IsNum a) := by unfold IsNum; infer_instance
def IsRest (a m : Int) : Prop := IsNum m ∧ 0 ≤ a ∧ a < m
instance (a m : Int) : Decidable (IsRest a m) := by unfold IsRest; infer_instance
theorem f110 (a : Int) (m : Nat) (hm : 1 ≤ m) : evF tab it m 110 [.int .i64 a] [] = some (.bool (decide (IsNum a)), []) := by
  obtain ⟨m, rfl⟩ : ∃ j, m = j + 1 := ⟨m - 1, by omega⟩
  refine f_enter rfl rfl ?_
  repeat' first
 | (apply s_mov; exact aW)
 | (apply s_gT; exact rfl)
 | (apply s_gF; exact rfl)
 | (apply c_nil)
 | (apply s_pickT; exact rfl; exact aW)
 | (apply s_pickF; exact rfl; exact aW)
 | (apply s_leq; exact rfl; all_goals (intro _; try (exfalso; omega)))
 | (apply s_geq; exact rfl; all_goals (intro _; try (exfalso; omega)))
 | (apply c_seq)
 | (apply c_reg)
 | (apply c_ret)
 | (with_reducible apply k_c)
  all_goals refine fin_t (by (conv => lhs; whnf)) (by rfl) ?_
  all_goals first | exact leafT (by unfold IsNum; omega) | exact leafF (by unfold IsNum; omega)
theorem c110 {m : Nat} (hm : 1 ≤ m) (a : Int) (H : Heap) : callPure (evF tab it m) true 110 [.int .i64 a] H = some (.bool (decide (IsNum a)), H) :=
  callPure_free rfl (by simp) (f110 a m hm) rfl
theorem f94 (a : Int) (m : Nat) (hm : 1 ≤ m) : evF tab it m 94 [.int .i64 a] [] = some (.bool (decide (IsNum a)), []) := by
  obtain ⟨m, rfl⟩ : ∃ j, m = j + 1 := ⟨m - 1, by omega⟩
  refine f_enter rfl rfl ?_
  repeat' first
 | (apply s_mov; exact aW)
 | (apply s_gT; exact rfl)
 | (apply s_gF; exact rfl)
 | (apply c_nil)
 | (apply s_pickT; exact rfl; exact aW)
 | (apply s_pickF; exact rfl; exact aW)
 | (apply s_leq; exact rfl; all_goals (intro _; try (exfalso; omega)))
 | (apply s_geq; exact rfl; all_goals (intro _; try (exfalso; omega)))
 | (apply c_seq)
 | (apply c_reg)
 | (apply c_ret)
 | (with_reducible apply k_c)
  all_goals refine fin_t (by (conv => lhs; whnf)) (by rfl) ?_
  all_goals first | exact leafT (by unfold IsNum; omega) | exact leafF (by unfold IsNum; omega)
theorem c94 {m : Nat} (hm : 1 ≤ m) (a : Int) (H : Heap) : callPure (evF tab it m) true 94 [.int .i64 a] H = some (.bool (decide (IsNum a)), H) :=
  callPure_free rfl (by simp) (f94 a m hm) rfl
theorem f88 (a n : Int) (m : Nat) (hm : 2 ≤ m) : evF tab it m 88 [.int .i64 a, .int .i64 n] [] = some (.bool (decide (IsRest a n)), []) := by
  obtain ⟨m, rfl⟩ : ∃ j, m = j + 1 := ⟨m - 1, by omega⟩
  refine f_enter rfl rfl ?_
  repeat' first
 | (apply s_mov; exact aW)
 | (apply s_gT; exact rfl)
 | (apply s_gF; exact rfl)
 | (apply c_nil)
 | (apply s_pickT; exact rfl; exact aW)
 | (apply s_pickF; exact rfl; exact aW)
 | (apply s_lss; exact rfl; all_goals (intro _; try (exfalso; omega)))
 | (apply s_geq; exact rfl; all_goals (intro _; try (exfalso; omega)))
 | (apply isE; refine s_cB (by exact aO) (c110 (by omega) _ _) (fun _ => ?_) (fun _ => ?_))
 | (apply c_seq)
 | (apply c_reg)
 | (apply c_ret)
 | (with_reducible apply k_c)
  all_goals refine fin_t (by (conv => lhs; whnf)) (by rfl) ?_
  all_goals first | exact leafT (by unfold IsRest; refine ⟨by assumption, by omega, by omega⟩) | exact leafF (fun h => by unfold IsRest at h; first | omega | exact absurd h.1 (by assumption))
theorem c88 {m : Nat} (hm : 2 ≤ m) (a n : Int) (H : Heap) : callPure (evF tab it m) true 88 [.int .i64 a, .int .i64 n] H = some (.bool (decide (IsRest a n)), H) :=
  callPure_free rfl (by simp) (f88 a n m hm) rfl
theorem f91 {a b n : Nat} (hn : 0 < n) (hab : a * b < 9223372036854775808) (m : Nat) (hm : 1 ≤ m) : evF tab it m 91 [.int .i64 (a : Int), .int .i64 (b : Int), .int .i64 (n : Int)] [] = some (.int .i64 ((a * b % n : Nat) : Int), []) := by
  obtain ⟨m, rfl⟩ : ∃ j, m = j + 1 := ⟨m - 1, by omega⟩
  refine f_enter rfl rfl ?_
  repeat' first
 | (apply s_mov; exact aW)
 | (apply c_nil)
 | (apply s_mulN; exact rfl; omega)
 | (apply s_remN; exact rfl; omega)
 | (apply c_seq)
 | (apply c_reg)
 | (apply c_ret)
 | (with_reducible apply k_c)
  exact fin_t (by (conv => lhs; whnf)) (by rfl) rfl
theorem c91 {a b n : Nat} (hn : 0 < n) (hab : a * b < 9223372036854775808) {m : Nat} (hm : 1 ≤ m) (H : Heap) : callPure (evF tab it m) true 91 [.int .i64 (a : Int), .int .i64 (b : Int), .int .i64 (n : Int)] H = some (.int .i64 ((a * b % n : Nat) : Int), H) :=
  callPure_free rfl (by simp) (f91 hn hab m hm) rfl
theorem gcd_step {a b k : Nat} (hb : 0 < b) (h : b ≤ a) (hk : a * b < 2 ^ k) : 1 ≤ k ∧ b * (a % b) < 2 ^ (k - 1) ∧ a % b < b := by
  have h1 : a % b < b := Nat.mod_lt _ hb
  have h2 : a % b + b ≤ a := by
    have := Nat.mod_add_div a b
    have : 1 ≤ a / b := (Nat.one_le_div_iff hb).2 h
    have := Nat.mul_le_mul_left b this
    omega
  have h3 : b * (2 * (a % b)) ≤ b * a := Nat.mul_le_mul_left b (by omega)
  have h4 : 1 ≤ a * b := Nat.mul_le_mul (show 1 ≤ a by omega) hb
  cases k with
  | zero => simp at hk; omega
  | succ k =>
    refine ⟨by omega, ?_, h1⟩
    rw [Nat.pow_succ] at hk
    have e1 : b * (2 * (a % b)) = 2 * (b * (a % b)) := by rw [Nat.mul_left_comm]
    have e2 : b * a = a * b := Nat.mul_comm b a
    simp only [Nat.add_sub_cancel]
    omega
theorem f96 {A B : Nat} (hA : A < 9223372036854775808) (hB : B < 9223372036854775808) (m : Nat) (hm : 200 ≤ m) : evF tab it m 96 [.int .i64 (A : Int), .int .i64 (B : Int)] [] = some (.int .i64 ((Nat.gcd A B : Nat) : Int), []) := by
  obtain ⟨m, rfl⟩ : ∃ j, m = j + 1 := ⟨m - 1, by omega⟩
  generalize hg : Nat.gcd A B = g
  have hAB : A * B < 2 ^ 126 := Nat.lt_of_le_of_lt (Nat.mul_le_mul (show A ≤ 9223372036854775807 by omega) (show B ≤ 9223372036854775807 by omega)) (by decide)
  refine f_enter rfl rfl ?_
  repeat' first
 | (apply s_mov; exact aW)
 | (apply c_nil)
 | (apply c_seq)
 | (apply c_reg)
 | (apply c_block)
 | (with_reducible apply k_c)
  refine c_loop ?_
  refine loop_gc (σ := Nat × Nat × Nat) (fun s => [.int .i64 (s.1 : Int), .int .i64 (s.2.1 : Int)]) (fun _ => []) (fun s => Nat.gcd s.1 s.2.1 = g ∧ s.1 * s.2.1 < 2 ^ s.2.2 ∧ s.2.2 ≤ 126) (fun s => s.2.2 + (if s.1 < s.2.1 then 1 else 0)) ?_ _ (A, B, 126) _ _ ⟨hg, hAB, Nat.le_refl _⟩ (by show 126 + _ < _; split <;> omega) (gc_to rfl (by simp [idFreeL, AV.idFree, *]; done))
  intro ⟨a, b, k⟩ ⟨h1, h2, h3⟩ K hK
  dsimp only at h1 h2 h3 hK ⊢
  repeat' first
 | (apply s_mov; exact aW)
 | (apply c_nil)
 | (apply s_gtr; exact rfl; all_goals (intro _; try (exfalso; omega)))
 | (apply s_remN; exact rfl; omega)
 | (apply c_seq)
 | (apply c_reg)
 | (apply c_block)
 | (apply c_exitH)
 | (apply c_skip)
 | (apply c_ret)
 | (apply c_condT; exact rfl)
 | (apply c_condF; exact rfl)
 | (apply c_preF; exact aK; exact aF)
 | (with_reducible apply k_c)
  · refine hK (b, a % b, if a < b then k else k - 1) _ _ ?_ ?_ (gc_to rfl (by simp [idFreeL, AV.idFree, *]; done))
    · have hgs : Nat.gcd b (a % b) = g := by rw [Nat.gcd_comm, ← Nat.gcd_rec, Nat.gcd_comm, h1]
      by_cases h : a < b
      · simp only [if_pos h]
        exact ⟨hgs, by rw [Nat.mod_eq_of_lt h, Nat.mul_comm]; exact h2, h3⟩
      · simp only [if_neg h]
        obtain ⟨g1, g2, g3⟩ := gcd_step (by omega) (by omega) h2
        exact ⟨hgs, g2, by omega⟩
    · show _ + _ < _ + _
      by_cases h : a < b
      · simp only [if_pos h]
        rw [Nat.mod_eq_of_lt h, if_neg (by omega)]
        omega
      · simp only [if_neg h]
        obtain ⟨g1, g2, g3⟩ := gcd_step (by omega) (by omega) h2
        rw [if_neg (by omega)]
        omega
  · refine fin_t (by (conv => lhs; whnf)) (by rfl) ?_
    have : b = 0 := by omega
    subst this
    rw [Nat.gcd_zero_right] at h1
    rw [h1]
theorem c96 {A B : Nat} (hA : A < 9223372036854775808) (hB : B < 9223372036854775808) {m : Nat} (hm : 200 ≤ m) (H : Heap) : callPure (evF tab it m) true 96 [.int .i64 (A : Int), .int .i64 (B : Int)] H = some (.int .i64 ((Nat.gcd A B : Nat) : Int), H) :=
  callPure_free rfl (by simp) (f96 hA hB m hm) rfl
structure EI (A B g : Nat) (a b : Nat) (x y : Int) : Prop where
  ex : ∃ X Y : Nat, ∃ s : Int, (s = 1 ∨ s = -1) ∧ x = s * X ∧ y = -(s * Y) ∧ X * b + Y * a = B ∧ X ≤ B ∧ Y ≤ B
  dx : (B : Int) ∣ x * A - a
  dy : (B : Int) ∣ y * A - b
  gg : Nat.gcd a b = g
theorem EI.step {A B g a b : Nat} {x y : Int} (h : EI A B g a b x y) (hb : 0 < b) : EI A B g b (a - a / b * b) y (x - ((a / b : Nat) : Int) * y) ∧ a / b * b ≤ a ∧ (-(B : Int) ≤ ((a / b : Nat) : Int) * y ∧ ((a / b : Nat) : Int) * y ≤ B) ∧ (-(B : Int) ≤ x - ((a / b : Nat) : Int) * y ∧ x - ((a / b : Nat) : Int) * y ≤ B) := by
  obtain ⟨⟨X, Y, s, hs, rfl, rfl, e, hX, hY⟩, dx, dy, gg⟩ := h
  generalize hq : a / b = q
  have hqb : q * b ≤ a := hq ▸ Nat.div_mul_le_self a b
  have hmod : a - q * b = a % b := by
    have := Nat.mod_add_div a b
    rw [hq, Nat.mul_comm] at this
    omega
  have e2 : Y * (a - q * b) + (X + q * Y) * b = B := by
    rw [Nat.mul_sub, Nat.add_mul]
    have : Y * (q * b) ≤ Y * a := Nat.mul_le_mul_left _ hqb
    have : q * Y * b = Y * (q * b) := by rw [Nat.mul_comm q Y, Nat.mul_assoc]
    omega
  have hY' : X + q * Y ≤ B := by
    have := Nat.le_mul_of_pos_right (X + q * Y) hb
    omega
  have e3 : s * (X : Int) - (q : Int) * -(s * (Y : Int)) = s * ((X + q * Y : Nat) : Int) := by
    push_cast
    rw [Int.mul_neg, Int.sub_neg, Int.mul_add, Int.mul_left_comm]
  have e4 : (q : Int) * -(s * (Y : Int)) = -(s * ((q * Y : Nat) : Int)) := by
    push_cast
    rw [Int.mul_neg, Int.mul_left_comm]
  refine ⟨⟨⟨Y, X + q * Y, -s, by omega, by rw [Int.neg_mul], by rw [e3, Int.neg_mul, Int.neg_neg], e2, hY, hY'⟩, dy, ?_, ?_⟩, hqb, ?_, ?_⟩
  · have e5 : (s * (X : Int) - (q : Int) * -(s * (Y : Int))) * (A : Int) - ((a - q * b : Nat) : Int) = (s * (X : Int) * A - a) - (q : Int) * (-(s * (Y : Int)) * A - b) := by
      rw [Int.natCast_sub hqb, Int.sub_mul, Int.mul_sub, Int.mul_assoc (q : Int)]
      push_cast
      omega
    rw [e5]
    exact Int.dvd_sub dx (Int.dvd_mul_of_dvd_right dy)
  · rw [hmod, Nat.gcd_comm, ← Nat.gcd_rec, Nat.gcd_comm, gg]
  · rw [e4]
    rcases hs with rfl | rfl <;> omega
  · rw [e3]
    rcases hs with rfl | rfl <;> omega
theorem EI.step_k {a b k : Nat} (hb : 0 < b) (hk : a * b < 2 ^ k) : b * (a - a / b * b) < 2 ^ (if a < b then k else k - 1) ∧ (if a < b then k else k - 1) + (if b < a - a / b * b then 1 else 0) < k + (if a < b then 1 else 0) := by
  have hmod : a - a / b * b = a % b := by
    have := Nat.mod_add_div a b
    rw [Nat.mul_comm] at this
    omega
  rw [hmod]
  by_cases h : a < b
  · simp only [if_pos h]
    rw [Nat.mod_eq_of_lt h, if_neg (by omega)]
    exact ⟨by rw [Nat.mul_comm]; exact hk, by omega⟩
  · simp only [if_neg h]
    obtain ⟨g1, g2, g3⟩ := gcd_step hb (by omega) hk
    rw [if_neg (by omega)]
    exact ⟨g2, by omega⟩
theorem prod126 {A B : Nat} (hA : A < 9223372036854775808) (hB : B < 9223372036854775808) : A * B < 2 ^ 126 :=
  Nat.lt_of_le_of_lt (Nat.mul_le_mul (show A ≤ 9223372036854775807 by omega) (show B ≤ 9223372036854775807 by omega)) (by decide)
theorem sub_mod {a b : Nat} : a - a / b * b = a % b := by
  have := Nat.mod_add_div a b
  rw [Nat.mul_comm] at this
  omega
def eucl (a b : Nat) (x y : Int) : Nat × Int := if h : b = 0 then (a, x) else eucl b (a - a / b * b) y (x - ((a / b : Nat) : Int) * y)
termination_by b
decreasing_by rw [sub_mod]; exact Nat.mod_lt _ (by omega)
theorem eucl_z {a : Nat} {x y : Int} : eucl a 0 x y = (a, x) := by rw [eucl]; rfl
theorem eucl_s {a b : Nat} {x y : Int} (h : 0 < b) : eucl a b x y = eucl b (a - a / b * b) y (x - ((a / b : Nat) : Int) * y) := by rw [eucl, dif_neg (by omega)]
theorem eucl_spec {A B g : Nat} : ∀ (n a b : Nat) (x y : Int), b ≤ n → EI A B g a b x y → (eucl a b x y).1 = g ∧ (B : Int) ∣ (eucl a b x y).2 * A - g ∧ -(B : Int) ≤ (eucl a b x y).2 ∧ (eucl a b x y).2 ≤ B := by
  intro n
  induction n with
  | zero =>
    intro a b x y hb h
    have : b = 0 := by omega
    subst this
    have hg := h.gg
    rw [Nat.gcd_zero_right] at hg
    subst hg
    rw [eucl_z]
    obtain ⟨X, Y, s, hs, rfl, _, _, hX, _⟩ := h.ex
    exact ⟨rfl, h.dx, by rcases hs with rfl | rfl <;> simp only <;> omega, by rcases hs with rfl | rfl <;> simp only <;> omega⟩
  | succ n ih =>
    intro a b x y hb h
    by_cases h0 : b = 0
    · exact (by
        subst h0
        have hg := h.gg
        rw [Nat.gcd_zero_right] at hg
        subst hg
        rw [eucl_z]
        obtain ⟨X, Y, s, hs, rfl, _, _, hX, _⟩ := h.ex
        exact ⟨rfl, h.dx, by rcases hs with rfl | rfl <;> simp only <;> omega, by rcases hs with rfl | rfl <;> simp only <;> omega⟩)
    · rw [eucl_s (by omega)]
      exact ih _ _ _ _ (by rw [sub_mod]; have := Nat.mod_lt a (show b > 0 by omega); omega) (h.step (by omega)).1
theorem EI.init {A B : Nat} (h1 : 1 ≤ B) : EI A B (Nat.gcd A B) A B 1 0 := ⟨⟨1, 0, 1, .inl rfl, by simp, by simp, by simp, h1, by omega⟩, by simp, by simp, rfl⟩
theorem EI.init' {A B : Nat} (h1 : 1 ≤ B) : EI A B (Nat.gcd A B) B A 0 1 := ⟨⟨0, 1, -1, .inr rfl, by simp, by simp, by simp, by omega, h1⟩, by simp, by simp, Nat.gcd_comm B A⟩
theorem f89 {A B : Nat} (hA : A < 9223372036854775808) (h1 : 1 ≤ B) (hB : B ≤ 2147483647) (m : Nat) (hm : 200 ≤ m) : evF tab it m 89 [.int .i64 (A : Int), .int .i64 (B : Int)] [] = some (.tup [.int .i64 ((eucl A B 1 0).1 : Int), .int .i64 (eucl A B 1 0).2], []) := by
  obtain ⟨m, rfl⟩ : ∃ j, m = j + 1 := ⟨m - 1, by omega⟩
  have hAB := prod126 hA (show B < 9223372036854775808 by omega)
  generalize hE : eucl A B 1 0 = E
  refine f_enter rfl rfl ?_
  repeat' first
 | (apply s_mov; exact aW)
 | (apply c_nil)
 | (apply c_seq)
 | (apply c_reg)
 | (apply c_block)
 | (with_reducible apply k_c)
  refine c_loop ?_
  refine loop_gc (σ := Nat × Nat × Int × Int × Nat) (fun s => [.int .i64 (s.1 : Int), .int .i64 (s.2.1 : Int), .int .i64 s.2.2.1, .int .i64 s.2.2.2.1]) (fun _ => []) (fun s => EI A B (Nat.gcd A B) s.1 s.2.1 s.2.2.1 s.2.2.2.1 ∧ eucl s.1 s.2.1 s.2.2.1 s.2.2.2.1 = E ∧ s.1 * s.2.1 < 2 ^ s.2.2.2.2 ∧ s.2.2.2.2 ≤ 126 ∧ s.1 < 9223372036854775808 ∧ s.2.1 < 9223372036854775808) (fun s => s.2.2.2.2 + (if s.1 < s.2.1 then 1 else 0)) ?_ _ (A, B, 1, 0, 126) _ _ ⟨EI.init h1, hE, hAB, Nat.le_refl _, hA, by show B < _; omega⟩ (by show 126 + _ < _; split <;> omega) (gc_to rfl (by simp [idFreeL, AV.idFree, *]; done))
  intro ⟨a, b, x, y, k⟩ ⟨hi, he, h2, h3, ha, hb⟩ K hK
  dsimp only at hi he h2 h3 ha hb hK ⊢
  have hst : 0 < b → _ := fun h => hi.step h
  have hsk : 0 < b → _ := fun h => EI.step_k h h2
  by_cases h0 : b = 0
  · subst h0
    repeat' first
 | (apply s_mov; exact aW)
 | (apply c_nil)
 | (apply s_neq; exact rfl; all_goals (intro _; try (exfalso; omega)))
 | (apply c_seq)
 | (apply c_reg)
 | (apply c_exitH)
 | (apply c_ret)
 | (apply c_condF; exact rfl)
 | (apply c_preF; exact aK; exact aF)
 | (with_reducible apply k_c)
    rw [eucl_z] at he
    subst he
    exact fin_tt (by (conv => lhs; whnf)) (by (conv => lhs; whnf)) (by rfl) (by rfl) rfl
  · obtain ⟨g1, g2, g3, g4⟩ := hst (by omega)
    obtain ⟨g5, g6⟩ := hsk (by omega)
    rw [eucl_s (by omega)] at he
    repeat' first
 | (apply s_mov; exact aW)
 | (apply c_nil)
 | (apply s_neq; exact rfl; all_goals (intro _; try (exfalso; omega)))
 | (apply s_subN; exact rfl; omega; omega)
 | (apply s_mul; exact rfl; omega)
 | (apply s_sub; exact rfl; omega)
 | (apply s_quoN; exact rfl; omega; omega)
 | (apply c_seq)
 | (apply c_reg)
 | (apply c_block)
 | (apply c_skip)
 | (apply c_condT; exact rfl)
 | (with_reducible apply k_c)
    exact hK (b, a - a / b * b, y, x - ((a / b : Nat) : Int) * y, if a < b then k else k - 1) _ _ ⟨g1, he, g5, by show (if a < b then k else k - 1) ≤ 126; split <;> omega, hb, by show a - a / b * b < _; omega⟩ g6 (gc_to rfl (by simp [idFreeL, AV.idFree, *]; done))
theorem c89 {A B : Nat} (hA : A < 9223372036854775808) (h1 : 1 ≤ B) (hB : B ≤ 2147483647) {m : Nat} (hm : 200 ≤ m) (H : Heap) : callPure (evF tab it m) true 89 [.int .i64 (A : Int), .int .i64 (B : Int)] H = some (.tup [.int .i64 ((eucl A B 1 0).1 : Int), .int .i64 (eucl A B 1 0).2], H) :=
  callPure_free rfl (by simp) (f89 hA h1 hB m hm) rfl
theorem tmod_add {x m : Int} (hm : 0 < m) : (x.tmod m + m).tmod m = x % m := by
  have h1 : m ∣ x - x.tmod m := ⟨x.tdiv m, by have := Int.tmod_add_mul_tdiv x m; omega⟩
  have h2 : -m < x.tmod m ∧ x.tmod m < m := by
    have a := Int.tmod_lt_of_pos x hm
    have b := Int.lt_tmod_of_pos x hm
    omega
  rw [Int.tmod_eq_emod_of_nonneg (by omega), Int.add_emod_right]
  refine Int.emod_eq_emod_iff_emod_sub_eq_zero.2 (Int.emod_eq_zero_of_dvd ?_)
  have : x.tmod m - x = -(x - x.tmod m) := by omega
  rw [this]
  exact Int.dvd_neg.2 h1
theorem inv_uniq {a m y z : Int} (hm : 0 < m) (hy : m ∣ y * a - 1) (hz : m ∣ z * a - 1) : y % m = z % m := by
  refine Int.emod_eq_emod_iff_emod_sub_eq_zero.2 (Int.emod_eq_zero_of_dvd ?_)
  have h : m ∣ (y * (z * a - 1) - z * (y * a - 1)) := Int.dvd_sub (Int.dvd_mul_of_dvd_right hz) (Int.dvd_mul_of_dvd_right hy)
  have e : y * (z * a - 1) - z * (y * a - 1) = -(y - z) := by
    rw [Int.mul_sub, Int.mul_sub, Int.mul_left_comm y z a]
    omega
  rw [e] at h
  exact Int.dvd_neg.1 h
def invOf (a m : Nat) : Int := (eucl a m 1 0).2 % m
theorem eucl_g {A B : Nat} (h1 : 1 ≤ B) : (eucl A B 1 0).1 = Nat.gcd A B := (eucl_spec B A B 1 0 (Nat.le_refl _) (EI.init h1)).1
theorem eucl_d {A B : Nat} (h1 : 1 ≤ B) : (B : Int) ∣ (eucl A B 1 0).2 * A - (Nat.gcd A B : Nat) ∧ -(B : Int) ≤ (eucl A B 1 0).2 ∧ (eucl A B 1 0).2 ≤ B := (eucl_spec B A B 1 0 (Nat.le_refl _) (EI.init h1)).2
theorem f87 (a n : Int) (m : Nat) (hm : 203 ≤ m) : evF tab it m 87 [.int .i64 a, .int .i64 n] [] = some (.tup (if IsRest a n then (if Nat.gcd a.toNat n.toNat = 1 then [.int .i64 (invOf a.toNat n.toNat), .int .i64 0] else [.int .i64 0, .int .i64 6]) else [.int .i64 0, .int .i64 2]), []) := by
  obtain ⟨m, rfl⟩ : ∃ j, m = j + 1 := ⟨m - 1, by omega⟩
  by_cases hr : IsRest a n
  · obtain ⟨A, rfl⟩ : ∃ A : Nat, a = A := ⟨a.toNat, by have := hr.2.1; omega⟩
    obtain ⟨N, rfl⟩ : ∃ A : Nat, n = A := ⟨n.toNat, by have := hr.1.1; omega⟩
    rw [if_pos hr]
    simp only [Int.toNat_natCast]
    have hr' := hr
    unfold IsRest IsNum at hr'
    have e1 := eucl_g (A := A) (B := N) (by omega)
    have e2 := eucl_d (A := A) (B := N) (by omega)
    have e3 : invOf A N = _ := rfl
    unfold invOf at e3
    have e4 := tmod_add (x := (eucl A N 1 0).2) (m := N) (by omega)
    have e5 : -(N : Int) ≤ ((eucl A N 1 0).2).tmod N ∧ ((eucl A N 1 0).2).tmod N ≤ N := by
      have a := Int.tmod_lt_of_pos (eucl A N 1 0).2 (show (0 : Int) < N by omega)
      have b := Int.lt_tmod_of_pos (eucl A N 1 0).2 (show (0 : Int) < N by omega)
      omega
    refine f_enter rfl rfl ?_
    repeat' first
 | (apply s_mov; exact aW)
 | (apply c_nil)
 | (apply s_notT; exact rfl)
 | (apply s_notF; exact rfl)
 | (apply s_neq; exact rfl; all_goals (intro _; try (exfalso; omega)))
 | (apply isE; refine s_cB (by exact aO) (c88 (by omega) _ _ _) (fun _ => ?_) (fun _ => ?_))
 | (apply s_cn; exact aO; exact c89 (by omega) (by omega) (by omega) (by omega) _)
 | (apply s_rem; exact rfl; omega)
 | (apply s_add; exact rfl; omega)
 | (apply s_pd; exact aW)
 | (apply c_seq)
 | (apply c_reg)
 | (apply c_skip)
 | (apply c_ret)
 | (apply c_condT; exact rfl)
 | (apply c_condF; exact rfl)
 | (with_reducible apply k_c)
    · rw [if_pos (by omega)]
      refine fin_tt (by (conv => lhs; whnf)) (by (conv => lhs; whnf)) (by rfl) (by rfl) ?_
      rw [e4]
      rfl
    · rw [if_neg (by omega)]
      exact fin_tt (by (conv => lhs; whnf)) (by (conv => lhs; whnf)) (by rfl) (by rfl) rfl
    · exact absurd hr (by assumption)
  · rw [if_neg hr]
    refine f_enter rfl rfl ?_
    repeat' first
 | (apply s_mov; exact aW)
 | (apply c_nil)
 | (apply s_notT; exact rfl)
 | (apply s_notF; exact rfl)
 | (apply isE; refine s_cB (by exact aO) (c88 (by omega) _ _ _) (fun _ => ?_) (fun _ => ?_))
 | (apply c_seq)
 | (apply c_reg)
 | (apply c_skip)
 | (apply c_ret)
 | (apply c_condT; exact rfl)
 | (apply c_condF; exact rfl)
 | (with_reducible apply k_c)
    · exact absurd (by assumption) hr
    · exact fin_tt (by (conv => lhs; whnf)) (by (conv => lhs; whnf)) (by rfl) (by rfl) rfl
theorem c87 {m : Nat} (hm : 203 ≤ m) (a n : Int) (H : Heap) : callPure (evF tab it m) true 87 [.int .i64 a, .int .i64 n] H = some (.tup (if IsRest a n then (if Nat.gcd a.toNat n.toNat = 1 then [.int .i64 (invOf a.toNat n.toNat), .int .i64 0] else [.int .i64 0, .int .i64 6]) else [.int .i64 0, .int .i64 2]), H) :=
  callPure_free rfl (by simp) (f87 a n m hm) (by split <;> (try split) <;> rfl)
theorem invOf_spec {a n : Nat} (h1 : 1 ≤ n) (hg : Nat.gcd a n = 1) : 0 ≤ invOf a n ∧ invOf a n < n ∧ (n : Int) ∣ invOf a n * a - 1 := by
  obtain ⟨d, _⟩ := eucl_d (A := a) h1
  rw [hg] at d
  unfold invOf
  refine ⟨Int.emod_nonneg _ (by omega), Int.emod_lt_of_pos _ (by omega), ?_⟩
  have e : (n : Int) ∣ (eucl a n 1 0).2 - (eucl a n 1 0).2 % n := ⟨(eucl a n 1 0).2 / n, by have := Int.emod_add_mul_ediv (eucl a n 1 0).2 n; omega⟩
  have := Int.dvd_sub d (Int.dvd_trans e (Int.dvd_mul_right _ (a : Int)))
  rw [Int.sub_mul] at this
  have e2 : (eucl a n 1 0).2 * (a : Int) - ((1 : Nat) : Int) - ((eucl a n 1 0).2 * a - (eucl a n 1 0).2 % n * a) = (eucl a n 1 0).2 % n * a - 1 := by omega
  rwa [e2] at this
theorem f97 {A B : Nat} (h1 : 1 ≤ B) (hB : B ≤ 2147483647) (hA : A < 9223372036854775808) (m : Nat) (hm : 203 ≤ m) : evF tab it m 97 [.int .i64 (A : Int), .int .i64 (B : Int)] [] = some (.tup (if Nat.gcd A B = 1 then [.int .i64 (invOf A B), .bool true] else [.int .i64 0, .bool false]), []) := by
  obtain ⟨m, rfl⟩ : ∃ j, m = j + 1 := ⟨m - 1, by omega⟩
  have hAB := prod126 (show B < 9223372036854775808 by omega) hA
  have hE : ∀ x : Int, (B : Int) ∣ x * A - (Nat.gcd A B : Nat) → Nat.gcd A B = 1 → (x.tmod B + B).tmod B = invOf A B := fun x hx hg => by
    rw [tmod_add (by omega)]
    rw [hg] at hx
    have d := (eucl_d (A := A) h1).1
    rw [hg] at d
    exact inv_uniq (by omega) hx d
  refine f_enter rfl rfl ?_
  repeat' first
 | (apply s_mov; exact aW)
 | (apply c_nil)
 | (apply s_neq; exact rfl; all_goals (intro _; try (exfalso; omega)))
 | (apply s_cn; exact aO; exact c96 (by omega) (by omega) (by omega) _)
 | (apply c_seq)
 | (apply c_reg)
 | (apply c_block)
 | (apply c_skip)
 | (apply c_ret)
 | (apply c_condT; exact rfl)
 | (apply c_condF; exact rfl)
 | (with_reducible apply k_c)
  · rw [if_pos (by omega)]
    refine c_loop ?_
    refine loop_gc (σ := Nat × Nat × Int × Int × Nat) (fun s => [.int .i64 (B : Int), .int .i64 (s.1 : Int), .int .i64 (s.2.1 : Int), .int .i64 s.2.2.1, .int .i64 s.2.2.2.1]) (fun _ => []) (fun s => EI A B (Nat.gcd A B) s.1 s.2.1 s.2.2.1 s.2.2.2.1 ∧ s.1 * s.2.1 < 2 ^ s.2.2.2.2 ∧ s.2.2.2.2 ≤ 126 ∧ s.1 < 9223372036854775808 ∧ s.2.1 < 9223372036854775808) (fun s => s.2.2.2.2 + (if s.1 < s.2.1 then 1 else 0)) ?_ _ (B, A, 0, 1, 126) _ _ ⟨EI.init' h1, hAB, Nat.le_refl _, by show B < _; omega, hA⟩ (by show 126 + _ < _; split <;> omega) (gc_to rfl (by simp [idFreeL, AV.idFree, *]; done))
    intro ⟨a, b, x, y, k⟩ ⟨hi, h2, h3, ha, hb⟩ K hK
    dsimp only at hi h2 h3 ha hb hK ⊢
    by_cases h0 : b = 0
    · subst h0
      have hg := hi.gg
      rw [Nat.gcd_zero_right] at hg
      obtain ⟨X, Y, s, hs, hx, _, _, hX, _⟩ := hi.ex
      have hx2 : -(B : Int) ≤ x ∧ x ≤ B := by rcases hs with rfl | rfl <;> omega
      have hx3 := hE x (by rw [← hg]; exact hi.dx) (by omega)
      have e5 : -(B : Int) ≤ x.tmod B ∧ x.tmod B ≤ B := by
        have a := Int.tmod_lt_of_pos x (show (0 : Int) < B by omega)
        have b := Int.lt_tmod_of_pos x (show (0 : Int) < B by omega)
        omega
      repeat' first
 | (apply s_mov; exact aW)
 | (apply c_nil)
 | (apply s_gtr; exact rfl; all_goals (intro _; try (exfalso; omega)))
 | (apply s_rem; exact rfl; omega)
 | (apply s_add; exact rfl; omega)
 | (apply c_seq)
 | (apply c_reg)
 | (apply c_exitH)
 | (apply c_ret)
 | (apply c_condF; exact rfl)
 | (apply c_preF; exact aK; exact aF)
 | (with_reducible apply k_c)
      refine fin_tt (by (conv => lhs; whnf)) (by (conv => lhs; whnf)) (by rfl) (by rfl) ?_
      rw [hx3]
    · obtain ⟨g1, g2, g3, g4⟩ := hi.step (by omega)
      obtain ⟨g5, g6⟩ := EI.step_k (by omega) h2
      repeat' first
 | (apply s_mov; exact aW)
 | (apply c_nil)
 | (apply s_gtr; exact rfl; all_goals (intro _; try (exfalso; omega)))
 | (apply s_subN; exact rfl; omega; omega)
 | (apply s_mul; exact rfl; omega)
 | (apply s_sub; exact rfl; omega)
 | (apply s_quoN; exact rfl; omega; omega)
 | (apply c_seq)
 | (apply c_reg)
 | (apply c_block)
 | (apply c_skip)
 | (apply c_condT; exact rfl)
 | (with_reducible apply k_c)
      exact hK (b, a - a / b * b, y, x - ((a / b : Nat) : Int) * y, if a < b then k else k - 1) _ _ ⟨g1, g5, by show (if a < b then k else k - 1) ≤ 126; split <;> omega, hb, by show a - a / b * b < _; omega⟩ g6 (gc_to rfl (by simp [idFreeL, AV.idFree, *]; done))
  · rw [if_neg (by omega)]
    exact fin_tt (by (conv => lhs; whnf)) (by (conv => lhs; whnf)) (by rfl) (by rfl) rfl
theorem c97 {A B : Nat} (h1 : 1 ≤ B) (hB : B ≤ 2147483647) (hA : A < 9223372036854775808) {m : Nat} (hm : 203 ≤ m) (H : Heap) : callPure (evF tab it m) true 97 [.int .i64 (A : Int), .int .i64 (B : Int)] H = some (.tup (if Nat.gcd A B = 1 then [.int .i64 (invOf A B), .bool true] else [.int .i64 0, .bool false]), H) :=
  callPure_free rfl (by simp) (f97 h1 hB hA m hm) (by split <;> rfl)
end Go.AM.Ch
