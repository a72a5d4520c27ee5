/- A part of the proof: U69 U70 U67 U56 U71. -/
import Derived.Test.YtmegimhfoedcdaaU66
import Derived.Test.YtmegimhfoedcdaaU36
set_option linter.unusedSectionVars false
set_option linter.unusedVariables false
set_option linter.unusedSimpArgs false
namespace Go.AM.Ch
set_option maxHeartbeats 4000000
/-! ### Riemann and Roch -/
theorem sumTo_split (F : Nat → Int) (a : Nat) : ∀ c, sumTo F (a + c) = sumTo F a + sumTo (fun j => F (a + j)) c
  | 0 => by simp [sumTo]
  | c + 1 => by
    show sumTo F (a + c) + F (a + c) = sumTo F a + (sumTo (fun j => F (a + j)) c + F (a + c))
    rw [sumTo_split F a c]; omega
theorem sumTo_front (F : Nat → Int) : ∀ m, sumTo F (m + 1) = F 0 + sumTo (fun j => F (j + 1)) m
  | 0 => by simp [sumTo]
  | m + 1 => by
    show sumTo F (m + 1) + F (m + 1) = F 0 + (sumTo (fun j => F (j + 1)) m + F (m + 1))
    rw [sumTo_front F m]; omega
theorem sumTo_rev : ∀ (m : Nat) (F : Nat → Int), sumTo (fun j => F (m - 1 - j)) m = sumTo F m
  | 0, F => rfl
  | m + 1, F => by
    rw [sumTo_front F m, ← sumTo_rev m (fun j => F (j + 1))]
    show sumTo (fun j => F (m + 1 - 1 - j)) m + F (m + 1 - 1 - m) = _
    have e : m + 1 - 1 - m = 0 := by omega
    have e2 : sumTo (fun j => F (m + 1 - 1 - j)) m = sumTo (fun j => F (m - 1 - j + 1)) m := sumTo_congr fun j hj => by
      rw [show m + 1 - 1 - j = m - 1 - j + 1 by omega]
    rw [e, e2]; omega
theorem sumTo_around (F : Nat → Int) {n i : Nat} (hi : i < n) : sumTo F n = sumTo F i + F i + sumTo (fun j => F (n - 1 - j)) (n - 1 - i) := by
  have h := sumTo_split F (i + 1) (n - 1 - i)
  rw [show i + 1 + (n - 1 - i) = n by omega] at h
  rw [h, ← sumTo_rev (n - 1 - i) (fun j => F (i + 1 + j))]
  have e : sumTo (fun j => F (i + 1 + (n - 1 - i - 1 - j))) (n - 1 - i) = sumTo (fun j => F (n - 1 - j)) (n - 1 - i) := sumTo_congr fun j hj => by
    rw [show i + 1 + (n - 1 - i - 1 - j) = n - 1 - j by omega]
  rw [e]
  rfl
/-- the order of what is not won (no bound) -/
theorem ord_okP {b : List (List Int)} (hB : IsB b) {s : List Int} (hw : getI (redL b s 0) 0 < 0) : ∀ k : Nat, k < b.length → OkAt b (redL b s 0) (ordB b s) k := fun k hk => by
  have hq : 0 < b.length := hB.n1
  have hol := ordB_len hB s
  obtain ⟨h1, -⟩ := burnL_ok (b := b) (l := redL b s 0) hq
  unfold ordB at hol ⊢
  generalize burnL b (redL b s 0) 0 = ord at *
  rw [nI_len] at hol
  have hko : k < ord.length := by omega
  have hkl := h1.lt _ (List.getElem_mem hko)
  unfold OkAt
  rw [nI_get hko]
  refine ⟨by omega, fun j hj => ?_, ?_⟩
  · rw [nI_get (by omega)]
    have := (List.pairwise_iff_getElem.1 h1.nd) j k (by omega) hko hj
    omega
  · by_cases e : k = 0
    · subst e
      have h0 := h1.hd
      rw [List.getElem?_eq_getElem hko] at h0
      simp only [Option.some.injEq] at h0
      rw [h0]
      simp only [sumTo]
      exact hw
    · have := h1.low k (by omega) hko
      unfold brn at this
      rw [List.length_take, Nat.min_eq_left (by omega)] at this
      have e2 : sumTo (fun j => getI (getLL b ((ord[k] : Nat) : Int)) (getI (nI (ord.take k)) (j : Int))) k = sumTo (fun j => getI (getLL b ((ord[k] : Nat) : Int)) (getI (nI ord) (j : Int))) k := sumTo_congr fun j hj => by
        rw [nI_get (by rw [List.length_take]; omega), nI_get (by omega)]
        simp
      rw [e2] at this
      exact this
/-- every place is in an order -/
theorem ord_all {n : Nat} {O : List Int} (hk : ∀ k : Nat, k < n → (0 ≤ getI O (k : Int) ∧ getI O (k : Int) < n) ∧ ∀ j : Nat, j < k → getI O (j : Int) ≠ getI O (k : Int)) : ∀ v : Nat, v < n → ∃ k : Nat, k < n ∧ getI O (k : Int) = (v : Int) := by
  have hnd : ((List.range n).map fun k => (getI O ((k : Nat) : Int)).toNat).Nodup := by
    rw [List.nodup_iff_pairwise_ne, List.pairwise_map]
    refine (List.pairwise_iff_getElem).2 fun i j hi hj hij => ?_
    simp only [List.length_range] at hi hj
    simp only [List.getElem_range]
    have a := (hk j hj).2 i hij
    have c := (hk i hi).1
    have d := (hk j hj).1
    omega
  intro v hv
  apply Classical.byContradiction
  intro hno
  have hnd2 : (v :: ((List.range n).map fun k => (getI O ((k : Nat) : Int)).toNat)).Nodup := List.nodup_cons.2 ⟨fun hmem => by
    obtain ⟨k, hkm, e⟩ := List.mem_map.1 hmem
    have hkn := List.mem_range.1 hkm
    have := (hk k hkn).1
    exact hno ⟨k, hkn, by omega⟩, hnd⟩
  have := nodup_len hnd2 (l2 := List.range n) fun w hw => by
    rcases List.mem_cons.1 hw with rfl | hw
    · exact List.mem_range.2 hv
    · obtain ⟨k, hkm, rfl⟩ := List.mem_map.1 hw
      have := (hk k (List.mem_range.1 hkm)).1
      exact List.mem_range.2 (by omega)
  simp at this
  omega
/-- one side -/
theorem rr {b : List (List Int)} (hB : IsB b) {s : List Int} (hsl : s.length = b.length) {k : Nat} (h : Ls b k (redL b s 0) 0) :
    ∃ k' : Nat, 2 * (k' : Int) + 2 * b.length = degs b + 2 * k - 2 * sumTo (gf s) b.length ∧ Ls b k' (redL b (mi (canL b) s) 0) 0 := by
  have hn1 := hB.n1
  have g := gr_of hB
  have hRl := redL_len b s 0
  have hRs : sumTo (gf (redL b s 0)) b.length = sumTo (gf s) b.length := sum_apl hB s _
  obtain ⟨l', a1, a2, a3, a4⟩ := ls_to h hRl
  have hk := ord_okP hB a4
  have hO := ordB_len hB l'
  generalize ordB b l' = O at *
  have hkk : ∀ k : Nat, k < b.length → (0 ≤ getI O (k : Int) ∧ getI O (k : Int) < b.length) ∧ ∀ j : Nat, j < k → getI O (j : Int) ≠ getI O (k : Int) := fun k hkn => ⟨(hk k hkn).1, (hk k hkn).2.1⟩
  obtain ⟨N, n1, n2, n3, n4, n5⟩ := nu_of hB hO hkk
  have hall := ord_all hkk
  have hR's : sumTo (gf (redL b l' 0)) b.length = sumTo (gf l') b.length := sum_apl hB l' _
  have hR'l := redL_len b l' 0
  -- what is below the greatest numbers
  have hf : ∀ v, v < b.length → 0 ≤ gf N v - gf (redL b l' 0) v := fun v hv => by
    obtain ⟨k, hkn, e⟩ := hall v hv
    have h1 := (hk k hkn).2.2
    have h2 := n2 k hkn
    have e2 : sumTo (fun j => getI (getLL b (getI O (k : Int))) (getI O (j : Int))) k = sumTo (fun j => ed b (getI O (k : Int)).toNat (getI O (j : Int)).toNat) k := sumTo_congr fun j hj => by
      have a := (hk k hkn).1
      have := (hk j (by omega)).1
      unfold ed
      rw [Int.toNat_of_nonneg a.1, Int.toNat_of_nonneg this.1]
    rw [e2] at h1
    rw [e] at h1 h2
    unfold gf
    omega
  have hfs : sumTo (fun v => gf N v - gf (redL b l' 0) v) b.length = sumTo (gf N) b.length - sumTo (gf (redL b l' 0)) b.length := sumTo_sub _ _ _
  have hfn := sumTo_nn hf
  obtain ⟨k', hk'⟩ : ∃ k' : Nat, (k' : Int) = sumTo (fun v => gf N v - gf (redL b l' 0) v) b.length := ⟨(sumTo (fun v => gf N v - gf (redL b l' 0) v) b.length).toNat, by omega⟩
  refine ⟨k', by omega, ?_⟩
  -- the list of what is taken away
  have hcl := canL_len b
  have hml : (mi (canL b) s).length = b.length := by rw [mi_len]; exact hcl
  have hCl := redL_len b (mi (canL b) s) 0
  have hFl : (mi N (redL b l' 0)).length = b.length := by rw [mi_len]; exact n1
  have hFg : ∀ v : Nat, v < b.length → getI (mi N (redL b l' 0)) (v : Int) = getI N (v : Int) - getI (redL b l' 0) (v : Int) := fun v hv => mi_get (by omega)
  have hLl : (mi (redL b (mi (canL b) s) 0) (mi N (redL b l' 0))).length = b.length := by rw [mi_len]; exact hCl
  have hLg : ∀ v : Nat, v < b.length → getI (mi (redL b (mi (canL b) s) 0) (mi N (redL b l' 0))) (v : Int) = getI (redL b (mi (canL b) s) 0) (v : Int) - getI (mi N (redL b l' 0)) (v : Int) := fun v hv => mi_get (by omega)
  refine ls_of (l' := mi (redL b (mi (canL b) s) 0) (mi N (redL b l' 0))) (e := fun v => gf N v - gf (redL b l' 0) v) hCl hLl hf (fun v hv => by omega) hk'.symm (fun v hv => by rw [hLg v hv, hFg v hv]; rfl) ?_
  apply Classical.byContradiction
  intro hno
  have hz := won_nn hB (l := mi (redL b (mi (canL b) s) 0) (mi N (redL b l' 0))) (by omega)
  -- the turned order
  have hEl : (mi (redL b s 0) l').length = b.length := by rw [mi_len]; exact hRl
  have hEg : ∀ v : Nat, v < b.length → getI (mi (redL b s 0) l') (v : Int) = getI (redL b s 0) (v : Int) - getI l' (v : Int) := fun v hv => mi_get (by omega)
  have hXl : (mi (mi (canL b) N) (mi (redL b s 0) l')).length = b.length := by rw [mi_len, mi_len]; exact hcl
  have hXg : ∀ v : Nat, v < b.length → getI (mi (mi (canL b) N) (mi (redL b s 0) l')) (v : Int) = deg b.length (ed b) v - 2 - getI N (v : Int) - (getI (redL b s 0) (v : Int) - getI l' (v : Int)) := fun v hv => by
    rw [mi_get (by rw [mi_len]; omega), mi_get (by omega), hEg v hv, canL_get hv]
  have hrg : ∀ k : Nat, k < b.length → getI O.reverse (k : Int) = getI O ((b.length - 1 - k : Nat) : Int) := fun k hkn => by
    rw [getI_nat, getI_nat, List.getD_eq_getElem?_getD, List.getD_eq_getElem?_getD, List.getElem?_reverse (by omega), hO]
  have hord : ∀ k : Nat, k < b.length → OkAt b (mi (mi (canL b) N) (mi (redL b s 0) l')) O.reverse k := fun k hkn => by
    have hi : b.length - 1 - k < b.length := by omega
    obtain ⟨c1, c2⟩ := hkk _ hi
    refine ⟨by rw [hrg k hkn]; exact c1, fun j hj => ?_, ?_⟩
    · rw [hrg k hkn, hrg j (by omega)]
      exact fun e => (hkk (b.length - 1 - j) (by omega)).2 (b.length - 1 - k) (by omega) e.symm
    · rw [hrg k hkn]
      generalize hii : b.length - 1 - k = i at *
      obtain ⟨w, hw⟩ : ∃ w : Nat, getI O (i : Int) = (w : Int) := ⟨(getI O (i : Int)).toNat, by omega⟩
      have hwn : w < b.length := by omega
      have h2 := n2 i hi
      have hx := hXg w hwn
      have h3 := a3 w hwn
      have hdeg : deg b.length (ed b) w = sumTo (fun j => ed b w (getI O (j : Int)).toNat) b.length := by
        have := sum_perm hO n5 (fun u => ed b w u)
        exact this.symm
      have har := sumTo_around (fun j => ed b w (getI O (j : Int)).toNat) hi
      have hself : ed b w (getI O (i : Int)).toNat = 0 := by rw [hw, Int.toNat_natCast]; exact (hB.ed w w hwn hwn).2.2 rfl
      have hlast : sumTo (fun j => getI (getLL b (getI O (i : Int))) (getI O.reverse (j : Int))) k = sumTo (fun j => ed b w (getI O ((b.length - 1 - j : Nat) : Int)).toNat) (b.length - 1 - i) := by
        rw [show b.length - 1 - i = k by omega]
        refine sumTo_congr fun j hj => ?_
        rw [hrg j (by omega), hw]
        have := (hkk (b.length - 1 - j) (by omega)).1
        unfold ed
        rw [Int.toNat_of_nonneg this.1]
      rw [hlast, hw]
      rw [hw, Int.toNat_natCast] at h2
      rw [hself] at har
      omega
  refine no_eff hB (l := mi (mi (canL b) N) (mi (redL b s 0) l')) (O := O.reverse) (by simpa using hO) hord (fun j => ((gf (redT b l' 0) j + gf (redT b s 0) j) + gf (redT b (mi (canL b) s) 0) j) + gf (redT b (mi (redL b (mi (canL b) s) 0) (mi N (redL b l' 0))) 0) j) fun v hv => ?_
  have z := hz v hv
  have q1 : gf (redL b (mi (redL b (mi (canL b) s) 0) (mi N (redL b l' 0))) 0) v = ap b.length (ed b) (gf (mi (redL b (mi (canL b) s) 0) (mi N (redL b l' 0)))) (gf (redT b (mi (redL b (mi (canL b) s) 0) (mi N (redL b l' 0))) 0)) v := apl_ap hB _ _ hv
  have q2 : gf (redL b (mi (canL b) s) 0) v = ap b.length (ed b) (gf (mi (canL b) s)) (gf (redT b (mi (canL b) s) 0)) v := apl_ap hB _ _ hv
  have q3 : gf (redL b s 0) v = ap b.length (ed b) (gf s) (gf (redT b s 0)) v := apl_ap hB _ _ hv
  have q4 : gf (redL b l' 0) v = ap b.length (ed b) (gf l') (gf (redT b l' 0)) v := apl_ap hB _ _ hv
  have r1 := hLg v hv
  have r2 := hFg v hv
  have r3 := hXg v hv
  have r4 : getI (mi (canL b) s) (v : Int) = deg b.length (ed b) v - 2 - getI s (v : Int) := by rw [mi_get (by omega), canL_get hv]
  unfold ap at q1 q2 q3 q4 ⊢
  rw [net_add, net_add, net_add]
  clear hXg hord hLg hFg hEg hrg hf hfs hfn hk' hall n2 n3 n4 n5 hkk hk a2 a3 a4 hRs hR's hno hz
  unfold gf at z q1 q2 q3 q4 ⊢
  generalize net b.length (ed b) (fun i => getI (redT b (mi (redL b (mi (canL b) s) 0) (mi N (redL b l' 0))) 0) (i : Int)) v = t1 at *
  generalize net b.length (ed b) (fun i => getI (redT b (mi (canL b) s) 0) (i : Int)) v = t2 at *
  generalize net b.length (ed b) (fun i => getI (redT b s 0) (i : Int)) v = t3 at *
  generalize net b.length (ed b) (fun i => getI (redT b l' 0) (i : Int)) v = t4 at *
  generalize getI (redL b (mi (redL b (mi (canL b) s) 0) (mi N (redL b l' 0))) 0) (v : Int) = y1 at *
  generalize getI (mi (redL b (mi (canL b) s) 0) (mi N (redL b l' 0))) (v : Int) = y2 at *
  generalize getI (mi (mi (canL b) N) (mi (redL b s 0) l')) (v : Int) = y3 at *
  generalize getI (redL b (mi (canL b) s) 0) (v : Int) = y4 at *
  generalize getI (mi (canL b) s) (v : Int) = y5 at *
  generalize getI (mi N (redL b l' 0)) (v : Int) = y6 at *
  generalize getI (redL b s 0) (v : Int) = y7 at *
  generalize getI (redL b l' 0) (v : Int) = y8 at *
  clear hRl a1 hO n1 hR'l hcl hml hCl hFl hLl hEl hXl
  omega
end Go.AM.Ch

set_option linter.unusedSectionVars false
set_option linter.unusedVariables false
set_option linter.unusedSimpArgs false
namespace Go.AM.Ch
set_option maxHeartbeats 4000000
/-- more than there is cannot be taken away -/
theorem ls_neg {b : List (List Int)} (hB : IsB b) : ∀ (k : Nat) {l : List Int} {fr : Nat}, l.length = b.length → fr < b.length → sumTo (gf l) b.length < k → Ls b k l fr
  | 0, l, fr, hl, hf, h => by
    show getI (redL b l 0) 0 < 0
    apply Classical.byContradiction
    intro hno
    have := sumTo_nn (won_nn hB (l := l) (by omega))
    have e : sumTo (gf (redL b l 0)) b.length = sumTo (gf l) b.length := sum_apl hB l _
    omega
  | k + 1, l, fr, hl, hf, h => ⟨fr, Nat.le_refl _, hf, ls_neg hB k (by simp [hl]) hf (by rw [sum_set hl hf]; omega)⟩
theorem rk_first {b : List (List Int)} (hB : IsB b) (s : List Int) : -1 ≤ rkI b s ∧ Ls b (rkI b s + 1).toNat (redL b s 0) 0 ∧ ∀ k : Nat, Ls b k (redL b s 0) 0 → rkI b s < k := by
  obtain ⟨h1, h2, h3⟩ : IsRk b s (rkI b s) := Classical.choose_spec (rk_ex b s)
  refine ⟨h1, ?_, fun k hk => ?_⟩
  · rcases h3 with h | h
    · refine ls_neg hB _ (redL_len b s 0) hB.n1 ?_
      have e : sumTo (gf (redL b s 0)) b.length = sumTo (gf s) b.length := sum_apl hB s _
      omega
    · exact h
  · apply Classical.byContradiction
    intro hno
    exact (h2 k (by omega)).2 hk
theorem mi_mi {c s : List Int} (h : s.length = c.length) : mi c (mi c s) = s := by
  refine ext_getI (by rw [mi_len, h]) fun i hi => ?_
  rw [mi_len] at hi
  rw [mi_get hi, mi_get hi]
  omega
theorem can_sum {b : List (List Int)} {s : List Int} : sumTo (gf (mi (canL b) s)) b.length = degs b - 2 * b.length - sumTo (gf s) b.length := by
  have h4 : ∀ n : Nat, sumTo (fun _ => (2 : Int)) n = 2 * n := fun n => by
    induction n with
    | zero => rfl
    | succ n ih => simp only [sumTo, ih]; omega
  have e : sumTo (gf (mi (canL b) s)) b.length = sumTo (fun v => (deg b.length (ed b) v - 2) - gf s v) b.length := sumTo_congr fun v hv => by
    show getI _ (v : Int) = _
    rw [mi_get (by rw [canL_len]; exact hv), canL_get hv]
    rfl
  have e2 : sumTo (fun v => (deg b.length (ed b) v - 2) - gf s v) b.length = sumTo (fun v => deg b.length (ed b) v - 2) b.length - sumTo (gf s) b.length := sumTo_sub _ _ _
  have e3 : sumTo (fun v => deg b.length (ed b) v - 2) b.length = sumTo (fun v => deg b.length (ed b) v) b.length - sumTo (fun _ => 2) b.length := sumTo_sub _ _ _
  rw [e, e2, e3, h4]
  rfl
/-- Riemann and Roch -/
theorem roch {b : List (List Int)} (hB : IsB b) {s : List Int} (hsl : s.length = b.length) : rkI b s - rkI b (mi (canL b) s) = sumTo (gf s) b.length + 1 - (degs b / 2 - b.length + 1) := by
  obtain ⟨hh, hev⟩ := degs_even hB
  have hcl := canL_len b
  have hml : (mi (canL b) s).length = b.length := by rw [mi_len]; exact hcl
  obtain ⟨a1, a2, a3⟩ := rk_first hB s
  obtain ⟨c1, c2, c3⟩ := rk_first hB (mi (canL b) s)
  obtain ⟨k1, h1, l1⟩ := rr hB hsl a2
  obtain ⟨k2, h2, l2⟩ := rr hB hml c2
  rw [mi_mi (by omega)] at l2
  have q1 := c3 k1 l1
  have q2 := a3 k2 l2
  have hs := can_sum (b := b) (s := s)
  omega
end Go.AM.Ch

set_option linter.unusedSectionVars false
set_option linter.unusedVariables false
set_option linter.unusedSimpArgs false
namespace Go.AM.Ch
attribute [local go_sem] gc subHeap reach_skip ren_free reach_new reach_newp reach_end rangeL roots boxCells nodupB posOf renL AV.ren pickO renH renO looks look bindEnv envOf reach_int reach_bool reach_nilS reach_rd putRow cells_sl cells_int cells_bool cells_nilS cells_rd cells_agg reach_agg reach_tup idFreeL idf_sl idf_ptr idf_int idf_bool idf_nilS idf_rd reach_fn reach_mp cells_fn cells_ptr cells_mp idf_mp idf_fn idf_agg idf_tup
set_option maxHeartbeats 8000000
/-- Rank -/
theorem f40 {x y : AV} {b : List (List Int)} {s : List Int} (hx : IsLL x b) (hy : IsL y s) (hB : IsB b) (hs : InR b.length 1048576 s) (hn6 : b.length ≤ 6) (h12 : sumTo (gf s) b.length ≤ 12) {m : Nat} (hm : smK + 40 ≤ m) :
    evF tab it m 40 [x, y] [] = some (.tup [.int .i64 (rkI b s), .int .i64 0], []) := by
  obtain ⟨m, rfl⟩ : ∃ j, m = j + 1 := ⟨m - 1, by omega⟩
  have hm1 : 100000 ≤ m := by have := smK_big; omega
  have fx := hx.free; have fy := hy.free
  have hn1 := hB.n1; have hn2 := hB.n2
  have hsl := hs.1
  have hsb := inR_get hs
  have lx : ∀ H, evP H .len [x] = some (.int .i64 ((b.length : Nat) : Int)) := fun H => by cases hx <;> rfl
  have e52 := fun H => c52 hx hy (by omega) (by omega) (m := m) (by omega) H
  rw [if_pos ⟨hB, hs⟩] at e52
  have e63 := fun H => c63 hy (by omega) (fun j hj => by have := hsb j (by omega); omega) (m := m) (by omega) H
  rw [hsl] at e63
  have e72 := fun H => c72 hx hB (m := m) (by omega) H
  have e54 := fun H => c54 hx hy hB hs (q := 0) (by omega) (m := m) (by omega) H
  have hTl := (redT_ok hB s (q := 0) (by omega)).1
  have hTb := redT_st hB hs (q := 0) (by omega)
  have iT := rd_isL hTl
  have e55 := fun H => c55q (args := [x, y, .rd 1 b.length (iL (redT b s 0))]) hx hy iT hB.bd hsl hTl (fun v hv => by have := hTb v hv; omega) (fun v hv => by have := hsb v hv; omega) (m := m) (by omega) H (frzL_cons (frzV_of fx) (frzL_cons (frzV_of fy) (frzL_cons (frzV_of iT.free) frzL_nil)))
  have hR : apl b s (redT b s 0) = redL b s 0 := rfl
  rw [hR] at e55
  have hRl := redL_len b s 0
  obtain ⟨o1, o2⟩ := red_own hB s
  have hS := sum_in (b := b) (by omega) hsb
  have hRb : ∀ j : Nat, j < b.length → -1099511627776 ≤ getI (redL b s 0) (j : Int) ∧ getI (redL b s 0) (j : Int) ≤ 1099511627776 := fun j hj => by
    by_cases e : j = 0
    · subst e; omega
    · have := o1 j hj e; omega
  have e63p := c63p (id := 0) (l := redL b s 0) hRl (by omega) (fun j hj => hRb j (by omega)) (m := m) (by omega) (H := [some (.data (iL (redL b s 0)))]) rfl
  have hsum : sumTo (gf (redL b s 0)) b.length = sumTo (gf s) b.length := sum_apl hB s _
  rw [hsum] at e63p
  have e73 : ∀ (k : Nat) (hk : (k : Int) ≤ sumTo (gf s) b.length), callMut (evF tab it m) 73 [x, .sl 0 1 0 b.length, .int .i64 (k : Int), .int .i64 0] [some (.data (iL (redL b s 0)))] = some (.bool (decide (Ls b k (redL b s 0) 0)), [some (.data (iL (redL b s 0)))]) := fun k hk =>
    mut73 fx (f73 hx hB k (fr := 0) (by omega) (red_tk hB hk h12) (by omega) (m := m) (by omega))
  have hrk := fun (k : Nat) h he => rk_eq (b := b) (s := s) (isRk_of (k := k) h he)
  have hhi := fun h => rk_eq (rank_high hB (s := s) (by omega) h)
  have hdd : degs b = degsB b := rfl
  rw [hdd] at hhi
  have hdn : 0 ≤ degsB b := by have := genus_nn hB; omega
  have hdm : degsB b ≤ 360 := by
    have := sumTo_le (f := fun v => deg b.length (ed b) v) (M := 36) (n := b.length) fun j hj => by have := deg_nn (gr_of hB) (i := j) (by omega); omega
    show sumTo _ _ ≤ 360
    omega
  refine f_enter rfl rfl ?_
  generalize evF tab it m = call at *
  generalize hS' : sumTo (gf s) b.length = S at *
  generalize hG' : degsB b / 2 - (b.length : Int) + 1 = G at *
  have hGb : -20 ≤ G ∧ G ≤ 200 := by omega
  generalize hRR : redL b s 0 = R at *
  generalize AV.rd 1 b.length (iL (redT b s 0)) = vT at *
  have gcO : ∀ (a : Int) (C : List AV), gc 0 [x, .sl 0 1 0 b.length, .int .i64 a] [some (.data C)] = some ([x, .sl 0 1 0 b.length, .int .i64 a], [some (.data C)]) := fun a C => by simp [go_sem, fx]
  have mul : ∀ H, evP H (.bin .mul) [.int .i64 2, .int .i64 G] = some (.int .i64 (2 * G)) := fun H => by
    show some (AV.int .i64 (IntKind.i64.wrap (2 * G))) = _
    rw [wrapI (by omega)]
  by_cases hlow : S > 2 * G - 2
  · have hr := hhi hlow
    have mx : (if S - G > -1 then S - G else -1) = rkI b s := by
      rw [← hr]
      split <;> split <;> omega
    repeat' first
 | (apply s_mov; (focus ((conv => lhs; whnf); done)))
 | (apply s_gT; exact rfl)
 | (apply c_nil)
 | (apply s_pickF; exact rfl; (focus ((conv => lhs; whnf); done)))
 | ((first | apply s_lss | apply s_leq | apply s_gtr | apply s_geq | apply s_eql | apply s_neq); exact rfl; all_goals (intro _; try (exfalso; omega)))
 | ((first | apply s_add | apply s_sub); exact rfl; omega)
 | (apply s_pn; (focus (repeat (first | apply opds_nil | (apply opds_cons; (first | (focus ((conv => lhs; whnf); done)) | exact rfl))))); exact lx _)
 | (apply s_cn; (focus (repeat (first | apply opds_nil | (apply opds_cons; (first | (focus ((conv => lhs; whnf); done)) | exact rfl))))); exact e52 _)
 | (apply s_cn; (focus (repeat (first | apply opds_nil | (apply opds_cons; (first | (focus ((conv => lhs; whnf); done)) | exact rfl))))); exact e63 _)
 | (apply s_cn; (focus (repeat (first | apply opds_nil | (apply opds_cons; (first | (focus ((conv => lhs; whnf); done)) | exact rfl))))); exact e72 _)
 | (apply s_pn; (focus (repeat (first | apply opds_nil | (apply opds_cons; (first | (focus ((conv => lhs; whnf); done)) | exact rfl))))); exact mul _)
 | (apply s_mx; exact rfl; exact rfl)
 | (apply c_seq)
 | (apply c_reg)
 | (apply c_skip)
 | (apply c_ret)
 | (apply c_condT; exact rfl)
 | (apply c_condF; exact rfl)
 | (with_reducible apply k_c)
    all_goals try (exfalso; omega)
    rw [mx]
    exact fin_tt (by (conv => lhs; whnf)) (by (conv => lhs; whnf)) (by rfl) (by rfl) rfl
  · clear hhi
    repeat' first
 | (apply s_mov; (focus ((conv => lhs; whnf); done)))
 | (apply s_gT; exact rfl)
 | (apply c_nil)
 | (apply s_pickF; exact rfl; (focus ((conv => lhs; whnf); done)))
 | ((first | apply s_lss | apply s_leq | apply s_gtr | apply s_geq | apply s_eql | apply s_neq); exact rfl; all_goals (intro _; try (exfalso; omega)))
 | ((first | apply s_add | apply s_sub); exact rfl; omega)
 | (apply s_pn; (focus (repeat (first | apply opds_nil | (apply opds_cons; (first | (focus ((conv => lhs; whnf); done)) | exact rfl))))); exact lx _)
 | (apply s_cn; (focus (repeat (first | apply opds_nil | (apply opds_cons; (first | (focus ((conv => lhs; whnf); done)) | exact rfl))))); exact e52 _)
 | (apply s_cn; (focus (repeat (first | apply opds_nil | (apply opds_cons; (first | (focus ((conv => lhs; whnf); done)) | exact rfl))))); exact e63 _)
 | (apply s_cn; (focus (repeat (first | apply opds_nil | (apply opds_cons; (first | (focus ((conv => lhs; whnf); done)) | exact rfl))))); exact e72 _)
 | (apply s_pn; (focus (repeat (first | apply opds_nil | (apply opds_cons; (first | (focus ((conv => lhs; whnf); done)) | exact rfl))))); exact mul _)
 | (apply s_cn; (focus (repeat (first | apply opds_nil | (apply opds_cons; (first | (focus ((conv => lhs; whnf); done)) | exact rfl))))); exact e54 _)
 | (apply s_en; (focus (repeat (first | apply opds_nil | (apply opds_cons; (first | (focus ((conv => lhs; whnf); done)) | exact rfl))))); exact e55 _)
 | (apply c_seq)
 | (apply c_reg)
 | (apply c_block)
 | (apply c_skip)
 | (apply c_condF; exact rfl)
 | (with_reducible apply k_c)
    all_goals try (exfalso; omega)
    refine c_loop ?_
    refine loop_gc (σ := Nat) (fun k => [x, .sl 0 1 0 b.length, .int .i64 ((k : Int) - 1)]) (fun _ => [some (.data (iL R))]) (fun k => ∀ j : Nat, j < k → (j : Int) ≤ S ∧ ¬ Ls b j R 0) (fun k => 14 - k) ?_ _ 0 _ _ (fun j hj => by omega) (by omega) (gcO _ _)
    intro k hk K hK
    have hk12 : k ≤ 13 := by
      rcases Nat.eq_zero_or_pos k with h | h
      · omega
      · have := (hk (k - 1) (by omega)).1; omega
    have hK1 := hK (k + 1)
    have hkk : ((k + 1 : Nat) : Int) - 1 = (k : Int) - 1 + 1 := by omega
    rw [hkk] at hK1
    by_cases hkS : (k : Int) ≤ S
    · have e73' := e73 k hkS
      rw [show (k : Int) = (k : Int) - 1 + 1 by omega] at e73'
      by_cases hd : Ls b k R 0
      · rw [decide_eq_true hd] at e73'
        have hr := hrk k hk (.inr hd)
        repeat' first
 | (apply s_mov; (focus ((conv => lhs; whnf); done)))
 | (apply s_gT; exact rfl)
 | (apply c_nil)
 | (apply s_pickT; exact rfl; (focus ((conv => lhs; whnf); done)))
 | (apply s_notT; exact rfl)
 | ((first | apply s_lss | apply s_leq | apply s_gtr | apply s_geq | apply s_eql | apply s_neq); exact rfl; all_goals (intro _; try (exfalso; omega)))
 | ((first | apply s_add | apply s_sub); exact rfl; omega)
 | (apply s_cn; (focus (repeat (first | apply opds_nil | (apply opds_cons; (first | (focus ((conv => lhs; whnf); done)) | exact rfl))))); exact e63p)
 | (apply s_en; (focus (repeat (first | apply opds_nil | (apply opds_cons; (first | (focus ((conv => lhs; whnf); done)) | exact rfl))))); exact e73')
 | (apply c_seq)
 | (apply c_reg)
 | (apply c_exitH)
 | (apply c_ret)
 | (apply c_condF; exact rfl)
 | (apply c_preF; (focus (repeat (first | apply looks_nil | (apply looks_cons; (focus ((conv => lhs; whnf); done)))))); (focus (simp [idFreeL, AV.idFree, *]; done)))
 | (with_reducible apply k_c)
        all_goals try (exfalso; omega)
        refine fin_tt (by (conv => lhs; whnf)) (by (conv => lhs; whnf)) (by rfl) (by rfl) ?_
        rw [hr]
      · rw [decide_eq_false hd] at e73'
        repeat' first
 | (apply s_mov; (focus ((conv => lhs; whnf); done)))
 | (apply s_gT; exact rfl)
 | (apply c_nil)
 | (apply s_pickT; exact rfl; (focus ((conv => lhs; whnf); done)))
 | (apply s_notF; exact rfl)
 | ((first | apply s_lss | apply s_leq | apply s_gtr | apply s_geq | apply s_eql | apply s_neq); exact rfl; all_goals (intro _; try (exfalso; omega)))
 | ((first | apply s_add | apply s_sub); exact rfl; omega)
 | (apply s_cn; (focus (repeat (first | apply opds_nil | (apply opds_cons; (first | (focus ((conv => lhs; whnf); done)) | exact rfl))))); exact e63p)
 | (apply s_en; (focus (repeat (first | apply opds_nil | (apply opds_cons; (first | (focus ((conv => lhs; whnf); done)) | exact rfl))))); exact e73')
 | (apply c_seq)
 | (apply c_reg)
 | (apply c_block)
 | (apply c_skip)
 | (apply c_condT; exact rfl)
 | (with_reducible apply k_c)
        all_goals first
          | (exfalso; omega)
          | (refine hK1 _ _ (fun j hj => ?_) (by omega) ?_
             rotate_left
             · exact gcO _ _
             rcases (by omega : j < k ∨ j = k) with h | rfl
             · exact hk j h
             · exact ⟨hkS, hd⟩)
    · have hr := hrk k hk (.inl (by omega))
      repeat' first
 | (apply s_mov; (focus ((conv => lhs; whnf); done)))
 | (apply s_gF; exact rfl)
 | (apply s_gFD; exact rfl)
 | (apply c_nil)
 | (apply s_pickF; exact rfl; (focus ((conv => lhs; whnf); done)))
 | ((first | apply s_lss | apply s_leq | apply s_gtr | apply s_geq | apply s_eql | apply s_neq); exact rfl; all_goals (intro _; try (exfalso; omega)))
 | (apply s_cn; (focus (repeat (first | apply opds_nil | (apply opds_cons; (first | (focus ((conv => lhs; whnf); done)) | exact rfl))))); exact e63p)
 | (apply c_seq)
 | (apply c_reg)
 | (apply c_exitH)
 | (apply c_ret)
 | (apply c_condF; exact rfl)
 | (apply c_preF; (focus (repeat (first | apply looks_nil | (apply looks_cons; (focus ((conv => lhs; whnf); done)))))); (focus (simp [idFreeL, AV.idFree, *]; done)))
 | (with_reducible apply k_c)
      all_goals try (exfalso; omega)
      refine fin_tt (by (conv => lhs; whnf)) (by (conv => lhs; whnf)) (by rfl) (by rfl) ?_
      rw [hr]
end Go.AM.Ch

set_option linter.unusedSectionVars false
set_option linter.unusedVariables false
set_option linter.unusedSimpArgs false
namespace Go.AM.Ch
theorem ty_rowsB {k : Nat} {cs : List AV} (h : TyAV T k 22 cs) : ∃ x l, cs = [x] ∧ IsLL x l ∧ l.length < 2 ^ 63 := by
  cases k with
  | zero => exact h.elim
  | succ k =>
    obtain ⟨s, hs, hm⟩ := h
    rw [T22] at hs; cases hs
    rcases hm with rfl | ⟨len, cells, se, h1, rfl, h3, h5, h4⟩
    · exact ⟨_, [], rfl, .nil, by simp⟩
    · rw [T23] at h1; cases h1
      simp only [Nat.mul_one] at h3 h4
      have key : ∀ (cs : List AV), (∀ i, i < cs.length → ∃ l, IsL (cs.getD i .undef) l) → ∃ ll : List (List Int), cs.length = ll.length ∧ ∀ i, i < ll.length → IsL (cs.getD i .undef) (ll.getD i []) := by
        intro cs
        induction cs with
        | nil => intro _; exact ⟨[], rfl, fun i hi => by simp at hi⟩
        | cons c cs ih =>
          intro h
          obtain ⟨l, hl⟩ := h 0 (by simp)
          obtain ⟨ll, h1, h2⟩ := ih fun i hi => by simpa using h (i + 1) (by simpa using hi)
          refine ⟨l :: ll, by simp [h1], fun i hi => ?_⟩
          cases i with
          | zero => simpa using hl
          | succ i => simpa using h2 i (by simpa using hi)
      obtain ⟨ll, e1, e2⟩ := key cells fun i hi => by
        obtain ⟨x, l, hx, hl⟩ := ty_ints (h4 i (by omega))
        rw [take1 hi] at hx
        simp only [List.cons.injEq, and_true] at hx
        exact ⟨l, by rw [hx]; exact hl⟩
      have e3 : len = ll.length := by omega
      subst e3
      exact ⟨_, ll, rfl, .rd cells ll e1 e2, h5⟩
theorem arg_rowsB {k : Nat} {x : AV} (h : TyArg T k 22 x) : ∃ l, IsLL x l ∧ l.length < 9223372036854775808 := by
  rcases h with ⟨s, xs, hs, ha, _⟩ | ⟨s, hs, ha, h⟩
  · rw [T22] at hs; cases hs; cases ha
  · obtain ⟨y, l, hy, hl, hb⟩ := ty_rowsB h
    simp only [List.cons.injEq, and_true] at hy
    exact ⟨l, by rw [hy]; exact hl, hb⟩
end Go.AM.Ch

set_option linter.unusedSectionVars false
set_option linter.unusedVariables false
set_option linter.unusedSimpArgs false
namespace Go.AM.Ch
attribute [local go_sem] gc subHeap reach_skip ren_free reach_new reach_newp reach_end rangeL roots boxCells nodupB posOf renL AV.ren pickO renH renO looks look bindEnv envOf reach_int reach_bool reach_nilS reach_rd putRow cells_sl cells_int cells_bool cells_nilS cells_rd cells_agg reach_agg reach_tup idFreeL idf_sl idf_ptr idf_int idf_bool idf_nilS idf_rd reach_fn reach_mp cells_fn cells_ptr cells_mp idf_mp idf_fn idf_agg idf_tup
set_option maxHeartbeats 8000000
theorem inR_mk {n : Nat} {M : Int} {l : List Int} (hl : l.length = n) (h : ∀ v : Nat, v < n → -M ≤ getI l (v : Int) ∧ getI l (v : Int) ≤ M) : InR n M l := ⟨hl, fun v hv => by
  obtain ⟨k, hk, e⟩ := List.getElem_of_mem hv
  have := h k (by omega)
  rw [getI_nat] at this
  simpa [List.getD, hk, e] using this⟩
/-- law 10 -/
theorem f10 {x y : AV} {b : List (List Int)} {l : List Int} (hx : IsLL x b) (hbl : b.length < 9223372036854775808) (hy : IsL y l) : ∃ m H', evF tab it m 10 [x, y] [] = some (.bool true, H') := by
  obtain ⟨M, hM⟩ : ∃ M, M = smK + 100 := ⟨_, rfl⟩
  have hM1 : 100000 ≤ M := by have := smK_big; omega
  refine ⟨M + 1, [], ?_⟩
  have h25 := fun H => awakeN (m := M) (by omega) H
  have fx := hx.free; have fy := hy.free
  have e34 := fun H => c34 (w := 4) hx hbl (by decide) (m := M) (by omega) H
  have h1 := grow_isB b (w := 4) (by decide)
  have hn4 := (grN_le b (w := 4) (by decide)).2
  have hgl := growL_len b 4
  generalize growL b 4 = B at *
  have iB := isLL_fz B
  have hn1 := h1.n1
  have e36 := fun H => c36 (w := 6) iB hy hn1 (by omega) (by decide) (m := M) (by omega) H
  have h2 := stL_in B.length l 6 (by decide)
  have hsl := stL_len B.length l 6
  have hs6 : ∀ v : Nat, v < B.length → -6 ≤ getI (stL B.length l 6) (v : Int) ∧ getI (stL B.length l 6) (v : Int) ≤ 6 := fun v hv => by
    rw [stL_get hv]
    exact stN_le _ 6
  generalize stL B.length l 6 = S at *
  have iS := isL_fz S
  have g := gr_of h1
  have hcl := canL_len B
  have hRl : (mi (canL B) S).length = B.length := by rw [mi_len]; exact hcl
  have hRg : ∀ v : Nat, v < B.length → getI (mi (canL B) S) (v : Int) = getI (canL B) (v : Int) - getI S (v : Int) := fun v hv => mi_get (by omega)
  have hCg : ∀ v : Nat, v < B.length → -2 ≤ getI (canL B) (v : Int) ∧ getI (canL B) (v : Int) ≤ 34 := fun v hv => by
    rw [canL_get hv]
    have := deg_nn g hv
    omega
  have hRb : ∀ v : Nat, v < B.length → -100 ≤ getI (mi (canL B) S) (v : Int) ∧ getI (mi (canL B) S) (v : Int) ≤ 100 := fun v hv => by
    have := hRg v hv; have := hCg v hv; have := hs6 v hv; omega
  have h3 : InR B.length 1048576 (mi (canL B) S) := inR_mk hRl fun v hv => by have := hRb v hv; omega
  have hro := roch h1 (s := S) hsl
  have hdd : degs B = degsB B := rfl
  rw [hdd] at hro
  have hS := sumTo_le (f := gf S) (M := 6) (n := B.length) hs6
  have hT := sumTo_le (f := gf (mi (canL B) S)) (M := 100) (n := B.length) hRb
  have e41 := fun H => c41 iB h1 (m := M) (by omega) H
  have e32 := fun H => c32 iS (by omega) (fun v hv => by have := h2.2 v hv; omega) (m := M) (by omega) H
  have hsu : sumI S = sumTo (gf S) B.length := by rw [← hsl]; rfl
  rw [hsu] at e32
  have hsr : sumI (mi (canL B) S) = sumTo (gf (mi (canL B) S)) B.length := by
    show sumTo (gf (mi (canL B) S)) (mi (canL B) S).length = _
    rw [hRl]
  have e32r : ∀ H : Heap, H.data? 0 = some (iL (mi (canL B) S)) → callPure (evF tab it M) true 32 [.sl 0 1 0 B.length] H = some (.int .i64 (sumTo (gf (mi (canL B) S)) B.length), H) := fun H h => by
    have f := f32 (rd_isL hRl) (by omega) (fun v hv => by have := h3.2 v hv; omega) (m := M) (by omega)
    rw [hsr] at f
    exact callPure_own (frzL_cons (frz_sl h hRl) frzL_nil) f rfl rfl rfl
  have e40 : sumTo (gf S) B.length ≤ 8 → ∀ H, callPure (evF tab it M) true 40 [fzLL B, fzL S] H = some (.tup [.int .i64 (rkI B S), .int .i64 0], H) := fun h8 H =>
    callPure_free (by simp [idFreeL, AV.idFree, iB.free, iS.free]) (by simp) (f40 iB iS h1 h2 (by omega) (by omega) (m := M) (by omega)) rfl
  have e40r : sumTo (gf (mi (canL B) S)) B.length ≤ 8 → ∀ H : Heap, H.data? 0 = some (iL (mi (canL B) S)) → callPure (evF tab it M) true 40 [fzLL B, .sl 0 1 0 B.length] H = some (.tup [.int .i64 (rkI B (mi (canL B) S)), .int .i64 0], H) := fun h8 H h =>
    callPure_own (frzL_cons (frzV_of iB.free) (frzL_cons (frz_sl h hRl) frzL_nil)) (f40 iB (rd_isL hRl) h1 h3 (by omega) (by omega) (m := M) (by omega)) rfl rfl rfl
  have hrk1 : -1 ≤ rkI B S ∧ rkI B S ≤ 1000 := by
    obtain ⟨a, -, c⟩ := rk_first h1 S
    have := c 100 (ls_neg h1 100 (redL_len B S 0) hn1 (by
      have e : sumTo (gf (redL B S 0)) B.length = sumTo (gf S) B.length := sum_apl h1 S _
      omega))
    omega
  have hrk2 : -1 ≤ rkI B (mi (canL B) S) ∧ rkI B (mi (canL B) S) ≤ 1000 := by
    obtain ⟨a, -, c⟩ := rk_first h1 (mi (canL B) S)
    have := c 500 (ls_neg h1 500 (redL_len B (mi (canL B) S) 0) hn1 (by
      have e : sumTo (gf (redL B (mi (canL B) S) 0)) B.length = sumTo (gf (mi (canL B) S)) B.length := sum_apl h1 (mi (canL B) S) _
      omega))
    omega
  have hn : (B.length : Int) ≤ 4 := by omega
  have fB := iB.free; have fS := iS.free
  have iC := rd_isL hcl
  have fC := iC.free
  have lS : ∀ H, evP H .len [fzL S] = some (.int .i64 ((B.length : Nat) : Int)) := fun H => by rw [← hsl]; exact p_lenI iS
  generalize hRR : mi (canL B) S = R at *
  generalize hvC : AV.rd 1 B.length (iL (canL B)) = vC at *
  generalize hvB : fzLL B = vB at *
  generalize hvS : fzL S = vS at *
  have lC : ∀ H, evP H .len [vC] = some (.int .i64 ((B.length : Nat) : Int)) := fun H => by rw [← hvC]; rfl
  generalize canL B = C at *
  generalize hGe : degsB B / 2 - (B.length : Int) + 1 = G at *
  generalize sumTo (gf S) B.length = sS at *
  generalize sumTo (gf R) B.length = sR at *
  generalize hr1 : rkI B S = r1 at *
  generalize hr2 : rkI B R = r2 at *
  clear hM
  refine f_enter rfl rfl ?_
  generalize evF tab it M = call at *
  have gA : ∀ (i : Nat) (L : List AV), gc 0 [vB, vS, vC, .int .i64 G, ownV 0 L, .int .i64 (i : Int)] (owH L) = some ([vB, vS, vC, .int .i64 G, ownV 0 L, .int .i64 (i : Int)], owH L) := fun i L => by
    cases L <;> simp [ownV, owH, go_sem, fB, fS, fC]
  repeat' first
 | (apply s_mov; (focus ((conv => lhs; whnf); done)))
 | (apply s_gT; exact rfl)
 | (apply c_nil)
 | (apply s_pickF; exact rfl; (focus ((conv => lhs; whnf); done)))
 | ((first | apply s_lss | apply s_leq | apply s_gtr | apply s_geq | apply s_eql | apply s_neq); exact rfl; all_goals (intro _; try (exfalso; omega)))
 | (apply s_cn; (focus (repeat (first | apply opds_nil | (apply opds_cons; (first | (focus ((conv => lhs; whnf); done)) | exact rfl))))); exact e34 _)
 | (apply s_cn; (focus (repeat (first | apply opds_nil | (apply opds_cons; (first | (focus ((conv => lhs; whnf); done)) | exact rfl))))); exact e36 _)
 | (apply s_cn; (focus (repeat (first | apply opds_nil | (apply opds_cons; (first | (focus ((conv => lhs; whnf); done)) | exact rfl))))); exact e41 _)
 | (apply s_pn; (focus (repeat (first | apply opds_nil | (apply opds_cons; (first | (focus ((conv => lhs; whnf); done)) | exact rfl))))); exact lS _)
 | (apply s_pn; (focus (repeat (first | apply opds_nil | (apply opds_cons; (first | (focus ((conv => lhs; whnf); done)) | exact rfl))))); exact lC _)
 | (apply s_pd; (focus ((conv => lhs; whnf); done)))
 | (apply c_seq)
 | (apply c_reg)
 | (apply c_block)
 | (apply c_skip)
 | (apply c_condF; exact rfl)
 | (with_reducible apply k_c)
  all_goals try (exfalso; omega)
  refine c_loop ?_
  refine loop_gc (σ := Nat) (fun i => [vB, vS, vC, .int .i64 G, ownV 0 (iL (R.take i)), .int .i64 (i : Int)]) (fun i => owH (iL (R.take i))) (fun i => i ≤ B.length) (fun i => B.length - i) ?_ _ 0 _ _ (by omega) (by omega) (gA 0 [])
  intro i hi K hK
  by_cases hin : i < B.length
  · have q1 := hRg i hin
    have q2 := hCg i hin
    have q3 := hs6 i hin
    have hstep : R.take (i + 1) = R.take i ++ [getI C (i : Int) - getI S (i : Int)] := by
      rw [← List.take_append_getElem (by omega : i < R.length)]
      congr 1
      rw [getI_nat] at q1
      simpa [List.getD, show i < R.length by omega] using q1
    have hK1 := hK (i + 1)
    rw [hstep] at hK1
    have e1 : ∀ z : Int, iL (R.take i ++ [z]) = iL (R.take i) ++ [.int .i64 z] := fun z => by simp [iL]
    rw [e1] at hK1
    have hAl : (iL (R.take i)).length ≤ 12 := by rw [iL_len]; simp; omega
    generalize iL (R.take i) = A at *
    rcases A with _ | ⟨u, us⟩
    · simp only [ownV, owH] at *
      repeat' first
 | (apply s_mov; (focus ((conv => lhs; whnf); done)))
 | (apply c_nil)
 | ((first | apply s_lss | apply s_leq | apply s_gtr | apply s_geq | apply s_eql | apply s_neq); exact rfl; all_goals (intro _; try (exfalso; omega)))
 | ((first | apply s_add | apply s_sub); exact rfl; omega)
 | (apply s_pn; (focus (repeat (first | apply opds_nil | (apply opds_cons; (first | (focus ((conv => lhs; whnf); done)) | exact rfl))))); exact lS _)
 | (apply s_en; (focus (repeat (first | apply opds_nil | (apply opds_cons; (first | (focus ((conv => lhs; whnf); done)) | exact rfl))))); exact e_bld1 rfl rfl rfl rfl)
 | (apply s_en; (focus (repeat (first | apply opds_nil | (apply opds_cons; (first | (focus ((conv => lhs; whnf); done)) | exact rfl))))); exact e_app_nil rfl (by omega) (by decide))
 | (apply s_idx; (focus ((conv => lhs; whnf); done)); exact rfl; (first | assumption | (apply IsLL.at; assumption; omega)); omega)
 | (apply s_ldI; exact rfl; omega)
 | (apply c_seq)
 | (apply c_reg)
 | (apply c_block)
 | (apply c_skip)
 | (apply c_condT; exact rfl)
 | (with_reducible apply k_c)
      all_goals first | (exfalso; omega) | exact hK1 _ _ (by omega) (by omega) (by simp [ownV, owH, go_sem, fB, fS, fC])
    · simp only [ownV, owH] at *
      repeat' first
 | (apply s_mov; (focus ((conv => lhs; whnf); done)))
 | (apply c_nil)
 | ((first | apply s_lss | apply s_leq | apply s_gtr | apply s_geq | apply s_eql | apply s_neq); exact rfl; all_goals (intro _; try (exfalso; omega)))
 | ((first | apply s_add | apply s_sub); exact rfl; omega)
 | (apply s_pn; (focus (repeat (first | apply opds_nil | (apply opds_cons; (first | (focus ((conv => lhs; whnf); done)) | exact rfl))))); exact lS _)
 | (apply s_en; (focus (repeat (first | apply opds_nil | (apply opds_cons; (first | (focus ((conv => lhs; whnf); done)) | exact rfl))))); exact e_bld1 rfl rfl rfl rfl)
 | (apply s_en; (focus (repeat (first | apply opds_nil | (apply opds_cons; (first | (focus ((conv => lhs; whnf); done)) | exact rfl))))); exact e_app_sl rfl rfl (by omega) (by simp at hAl; unfold most; omega))
 | (apply s_idx; (focus ((conv => lhs; whnf); done)); exact rfl; (first | assumption | (apply IsLL.at; assumption; omega)); omega)
 | (apply s_ldI; exact rfl; omega)
 | (apply c_seq)
 | (apply c_reg)
 | (apply c_block)
 | (apply c_skip)
 | (apply c_condT; exact rfl)
 | (with_reducible apply k_c)
      all_goals first | (exfalso; omega) | exact hK1 _ _ (by omega) (by omega) (by simp [ownV, owH, go_sem, fB, fS, fC])
  · obtain rfl : i = B.length := by omega
    have hall : R.take B.length = R := List.take_of_length_le (by omega)
    rw [hall]
    have hown : ownV 0 (iL R) = .sl 0 1 0 B.length ∧ owH (iL R) = [some (.data (iL R))] := by
      have h1 := iL_len R
      rw [hRl] at h1
      generalize iL R = C at *
      cases C with
      | nil => simp at h1; omega
      | cons c cs => simp only [List.length_cons] at h1; constructor <;> simp [ownV, owH]; omega
    rw [hown.1, hown.2]
    have gE : gc 0 [vB, vS, .int .i64 G, .sl 0 1 0 B.length] [some (.data (iL R))] = some ([vB, vS, .int .i64 G, .sl 0 1 0 B.length], [some (.data (iL R))]) := by
      simp [go_sem, fB, fS]
    have e32r' := e32r [some (.data (iL R))] rfl
    skip
    repeat' first
 | (apply s_mov; (focus ((conv => lhs; whnf); done)))
 | (apply c_nil)
 | ((first | apply s_lss | apply s_leq | apply s_gtr | apply s_geq | apply s_eql | apply s_neq); exact rfl; all_goals (intro _; try (exfalso; omega)))
 | (apply s_pn; (focus (repeat (first | apply opds_nil | (apply opds_cons; (first | (focus ((conv => lhs; whnf); done)) | exact rfl))))); exact lS _)
 | (apply c_seq)
 | (apply c_reg)
 | (apply c_exitH)
 | (apply c_condF; exact rfl)
 | (with_reducible apply k_c)
    all_goals try (exfalso; omega)
    apply c_pre
    · exact gE
    by_cases h8 : sS ≤ 8
    · by_cases h9 : sR ≤ 8
      · have e40' := e40 h8
        have e40r' := e40r h9 [some (.data (iL R))] rfl
        repeat' first
 | (apply s_mov; (focus ((conv => lhs; whnf); done)))
 | (apply s_gT; exact rfl)
 | (apply c_nil)
 | (apply s_pickT; exact rfl; (focus ((conv => lhs; whnf); done)))
 | (apply s_pickF; exact rfl; (focus ((conv => lhs; whnf); done)))
 | ((first | apply s_lss | apply s_leq | apply s_gtr | apply s_geq | apply s_eql | apply s_neq); exact rfl; all_goals (intro _; try (exfalso; omega)))
 | ((first | apply s_add | apply s_sub); exact rfl; omega)
 | (apply s_cn; (focus (repeat (first | apply opds_nil | (apply opds_cons; (first | (focus ((conv => lhs; whnf); done)) | exact rfl))))); exact e32 _)
 | (apply s_cn; (focus (repeat (first | apply opds_nil | (apply opds_cons; (first | (focus ((conv => lhs; whnf); done)) | exact rfl))))); exact e32r')
 | (apply s_cn; (focus (repeat (first | apply opds_nil | (apply opds_cons; (first | (focus ((conv => lhs; whnf); done)) | exact rfl))))); exact e40' _)
 | (apply s_cn; (focus (repeat (first | apply opds_nil | (apply opds_cons; (first | (focus ((conv => lhs; whnf); done)) | exact rfl))))); exact e40r')
 | (apply s_cn; (focus (repeat (first | apply opds_nil | (apply opds_cons; (first | (focus ((conv => lhs; whnf); done)) | exact rfl))))); exact h25 _)
 | (apply s_pd; (focus ((conv => lhs; whnf); done)))
 | (apply c_seq)
 | (apply c_reg)
 | (apply c_skip)
 | (apply c_ret)
 | (apply c_condF; exact rfl)
 | (with_reducible apply k_c)
        all_goals first
          | (exfalso; omega)
          | exact fin_t (by (conv => lhs; whnf)) (by rfl) rfl
      · skip
        repeat' first
 | (apply s_mov; (focus ((conv => lhs; whnf); done)))
 | (apply s_gT; exact rfl)
 | (apply c_nil)
 | (apply s_pickF; exact rfl; (focus ((conv => lhs; whnf); done)))
 | ((first | apply s_lss | apply s_leq | apply s_gtr | apply s_geq | apply s_eql | apply s_neq); exact rfl; all_goals (intro _; try (exfalso; omega)))
 | (apply s_cn; (focus (repeat (first | apply opds_nil | (apply opds_cons; (first | (focus ((conv => lhs; whnf); done)) | exact rfl))))); exact e32 _)
 | (apply s_cn; (focus (repeat (first | apply opds_nil | (apply opds_cons; (first | (focus ((conv => lhs; whnf); done)) | exact rfl))))); exact e32r')
 | (apply s_cn; (focus (repeat (first | apply opds_nil | (apply opds_cons; (first | (focus ((conv => lhs; whnf); done)) | exact rfl))))); exact h25 _)
 | (apply c_seq)
 | (apply c_reg)
 | (apply c_ret)
 | (apply c_condT; exact rfl)
 | (with_reducible apply k_c)
        all_goals first
          | (exfalso; omega)
          | exact fin_t (by (conv => lhs; whnf)) (by rfl) rfl
    · skip
      repeat' first
 | (apply s_mov; (focus ((conv => lhs; whnf); done)))
 | (apply s_gF; exact rfl)
 | (apply s_gFD; exact rfl)
 | (apply c_nil)
 | (apply s_pickT; exact rfl; (focus ((conv => lhs; whnf); done)))
 | ((first | apply s_lss | apply s_leq | apply s_gtr | apply s_geq | apply s_eql | apply s_neq); exact rfl; all_goals (intro _; try (exfalso; omega)))
 | (apply s_cn; (focus (repeat (first | apply opds_nil | (apply opds_cons; (first | (focus ((conv => lhs; whnf); done)) | exact rfl))))); exact e32 _)
 | (apply s_cn; (focus (repeat (first | apply opds_nil | (apply opds_cons; (first | (focus ((conv => lhs; whnf); done)) | exact rfl))))); exact h25 _)
 | (apply c_seq)
 | (apply c_reg)
 | (apply c_ret)
 | (apply c_condT; exact rfl)
 | (with_reducible apply k_c)
      all_goals first
        | (exfalso; omega)
        | exact fin_t (by (conv => lhs; whnf)) (by rfl) rfl
end Go.AM.Ch
