/- A part of the proof: U54 U65 U42. -/
import Derived.Test.YtmegimhfoedcdaaU49
import Derived.Test.YtmegimhfoedcdaaU36
set_option linter.unusedSectionVars false
set_option linter.unusedVariables false
set_option linter.unusedSimpArgs false
namespace Go.AM.Ch
set_option maxHeartbeats 4000000
/-! ### an order in which all burns, and no winning -/
/-- a list that burns all is of no value that is all at least 0 -/
theorem no_eff {b : List (List Int)} (hB : IsB b) {l O : List Int} (hO : O.length = b.length) (hk : ∀ k : Nat, k < b.length → OkAt b l O k) (t : Nat → Int) : ¬ ∀ v, v < b.length → 0 ≤ ap b.length (ed b) (gf l) t v := by
  intro hc
  have g := gr_of hB
  have hn := hB.n1
  -- the greatest number of the script, at places of the order
  obtain ⟨m, hm, hmax⟩ := ex_max (fun k => t (getI O (k : Int)).toNat) (n := b.length) (by omega)
  -- all places are of the order
  have hall : ∀ v : Nat, v < b.length → ∃ k : Nat, k < b.length ∧ getI O (k : Int) = (v : Int) := by
    have hnd : ((List.range b.length).map fun k => (getI O ((k : Nat) : Int)).toNat).Nodup := by
      rw [List.nodup_iff_pairwise_ne, List.pairwise_map]
      refine (List.pairwise_iff_getElem).2 fun i j hi hj hij => ?_
      simp only [List.length_range] at hi hj
      simp only [List.getElem_range]
      have a := (hk j hj).2.1 i hij
      have c := (hk i hi).1
      have d := (hk j hj).1
      omega
    intro v hv
    apply Classical.byContradiction
    intro hno
    have hnd2 : (v :: ((List.range b.length).map fun k => (getI O ((k : Nat) : Int)).toNat)).Nodup := List.nodup_cons.2 ⟨fun hmem => by
      obtain ⟨k, hkm, e⟩ := List.mem_map.1 hmem
      have hkn := List.mem_range.1 hkm
      have := (hk k hkn).1
      exact hno ⟨k, hkn, by omega⟩, hnd⟩
    have := nodup_len hnd2 (l2 := List.range b.length) fun w hw => by
      rcases List.mem_cons.1 hw with rfl | hw
      · exact List.mem_range.2 hv
      · obtain ⟨k, hkm, rfl⟩ := List.mem_map.1 hw
        have := (hk k (List.mem_range.1 hkm)).1
        exact List.mem_range.2 (by omega)
    simp at this
    omega
  -- the first of them
  have key : ∀ k : Nat, (∃ j : Nat, j < k ∧ j < b.length ∧ t (getI O (j : Int)).toNat = t (getI O (m : Int)).toNat) → ∃ j : Nat, j < b.length ∧ t (getI O (j : Int)).toNat = t (getI O (m : Int)).toNat ∧ ∀ i : Nat, i < j → t (getI O (i : Int)).toNat ≠ t (getI O (m : Int)).toNat := by
    intro k
    induction k with
    | zero => rintro ⟨j, hj, _⟩; omega
    | succ k ih =>
      rintro ⟨j, hj, hjl, hs⟩
      by_cases hex : ∃ j : Nat, j < k ∧ j < b.length ∧ t (getI O (j : Int)).toNat = t (getI O (m : Int)).toNat
      · exact ih hex
      · exact ⟨j, hjl, hs, fun i hi e => hex ⟨i, by omega, by omega, e⟩⟩
  obtain ⟨j, hj, hjt, hfirst⟩ := key (m + 1) ⟨m, by omega, hm, rfl⟩
  obtain ⟨h1, h2, h3⟩ := hk j hj
  obtain ⟨w, hw⟩ : ∃ w : Nat, getI O (j : Int) = (w : Int) := ⟨(getI O (j : Int)).toNat, by omega⟩
  have hwn : w < b.length := by omega
  have hsum := preS_sum (O := O) (n := b.length) (fun u => getI (getLL b (w : Int)) u) (k := j) (by omega) fun i hi => ⟨(hk i (by omega)).1, (hk i (by omega)).2.1⟩
  rw [hw] at h3 hjt
  rw [Int.toNat_natCast] at hjt
  have hnet : sumTo (fun i => getI (getLL b (w : Int)) (getI O (i : Int))) j ≤ net b.length (ed b) t w := by
    rw [← hsum]
    refine sumTo_mono fun u hu => ?_
    have he := g.nn w u hwn hu
    obtain ⟨k, hkn, hku⟩ := hall u hu
    have hle : t u ≤ t w := by
      have := hmax k hkn
      try dsimp only at this
      rw [hku, Int.toNat_natCast] at this
      omega
    by_cases hp : preS O j u = true
    · rw [if_pos hp]
      simp only [preS, decide_eq_true_eq] at hp
      obtain ⟨i, hi, e⟩ := (mem_take (by omega)).1 hp
      have := hfirst i hi
      rw [e, Int.toNat_natCast] at this
      have h4 : 1 ≤ t w - t u := by omega
      have := Int.mul_le_mul_of_nonneg_left h4 he
      rw [Int.mul_one] at this
      exact this
    · rw [if_neg hp]
      exact Int.mul_nonneg he (by omega)
  have := hc w hwn
  unfold ap at this
  have h5 : gf l w = getI l (w : Int) := rfl
  omega
theorem sum_perm {b : List (List Int)} {l O : List Int} (hO : O.length = b.length) (hk : ∀ k : Nat, k < b.length → OkAt b l O k) (f : Nat → Int) : sumTo (fun k => f (getI O (k : Int)).toNat) b.length = sumTo f b.length := by
  have hs := preS_sum (O := O) (n := b.length) (fun u => f u.toNat) (k := b.length) (by omega) fun j hj => ⟨(hk j hj).1, (hk j hj).2.1⟩
  rw [← hs]
  have hnd : ((List.range b.length).map fun k => (getI O ((k : Nat) : Int)).toNat).Nodup := by
    rw [List.nodup_iff_pairwise_ne, List.pairwise_map]
    refine (List.pairwise_iff_getElem).2 fun i j hi hj hij => ?_
    simp only [List.length_range] at hi hj
    simp only [List.getElem_range]
    have a := (hk j hj).2.1 i hij
    have c := (hk i hi).1
    have d := (hk j hj).1
    omega
  refine sumTo_congr fun v hv => ?_
  have : preS O b.length v = true := by
    apply Classical.byContradiction
    intro hno
    have hm : ¬ (v : Int) ∈ O.take b.length := by simpa [preS] using hno
    have hnd2 : (v :: ((List.range b.length).map fun k => (getI O ((k : Nat) : Int)).toNat)).Nodup := List.nodup_cons.2 ⟨fun hmem => by
      obtain ⟨k, hkm, e⟩ := List.mem_map.1 hmem
      have hkn := List.mem_range.1 hkm
      have := (hk k hkn).1
      exact hm ((mem_take (by omega)).2 ⟨k, hkn, by omega⟩), hnd⟩
    have := nodup_len hnd2 (l2 := List.range b.length) fun w hw => by
      rcases List.mem_cons.1 hw with rfl | hw
      · exact List.mem_range.2 hv
      · obtain ⟨k, hkm, rfl⟩ := List.mem_map.1 hw
        have := (hk k (List.mem_range.1 hkm)).1
        exact List.mem_range.2 (by omega)
    simp at this
    omega
  rw [if_pos this, Int.toNat_natCast]
/-- twice the sum over earlier pairs is the sum over all pairs -/
theorem tri {F : Nat → Nat → Int} : ∀ {n : Nat}, (∀ i j, i < n → j < n → F i j = F j i) → (∀ i, i < n → F i i = 0) → 2 * sumTo (fun k => sumTo (fun j => F k j) k) n = sumTo (fun k => sumTo (fun j => F k j) n) n
  | 0, _, _ => rfl
  | n + 1, hs, hz => by
    have ih := tri (F := F) (n := n) (fun i j hi hj => hs i j (by omega) (by omega)) fun i hi => hz i (by omega)
    have e1 : sumTo (fun k => sumTo (fun j => F k j) (n + 1)) n = sumTo (fun k => sumTo (fun j => F k j) n) n + sumTo (fun k => F k n) n := by rw [← sumTo_add]; rfl
    have e2 : sumTo (fun k => F k n) n = sumTo (fun j => F n j) n := sumTo_congr fun k hk => hs k n (by omega) (by omega)
    have e3 := hz n (by omega)
    simp only [sumTo] at e1 ⊢
    rw [e1, e2, e3]
    omega
def degs (b : List (List Int)) : Int := sumTo (fun v => deg b.length (ed b) v) b.length
/-- a list that burns all has a small sum -/
theorem ok_sum {b : List (List Int)} (hB : IsB b) {l O : List Int} (hO : O.length = b.length) (hk : ∀ k : Nat, k < b.length → OkAt b l O k) : 2 * sumTo (gf l) b.length + 2 * b.length ≤ degs b := by
  have g := gr_of hB
  have h1 := sum_perm hO hk (gf l)
  have h2 : sumTo (fun k => gf l (getI O (k : Int)).toNat) b.length ≤ sumTo (fun k => sumTo (fun j => ed b (getI O (k : Int)).toNat (getI O (j : Int)).toNat) k - 1) b.length := sumTo_mono fun k hkn => by
    obtain ⟨a, c, d⟩ := hk k hkn
    have e : gf l (getI O (k : Int)).toNat = getI l (getI O (k : Int)) := by unfold gf; rw [Int.toNat_of_nonneg a.1]
    have e2 : sumTo (fun j => getI (getLL b (getI O (k : Int))) (getI O (j : Int))) k = sumTo (fun j => ed b (getI O (k : Int)).toNat (getI O (j : Int)).toNat) k := sumTo_congr fun j hj => by
      have := (hk j (by omega)).1
      unfold ed
      rw [Int.toNat_of_nonneg a.1, Int.toNat_of_nonneg this.1]
    try dsimp only
    omega
  have h3 : sumTo (fun k => sumTo (fun j => ed b (getI O (k : Int)).toNat (getI O (j : Int)).toNat) k - 1) b.length = sumTo (fun k => sumTo (fun j => ed b (getI O (k : Int)).toNat (getI O (j : Int)).toNat) k) b.length - sumTo (fun _ => 1) b.length := sumTo_sub _ _ _
  have h4 : ∀ n : Nat, sumTo (fun _ => (1 : Int)) n = n := fun n => by
    induction n with
    | zero => rfl
    | succ n ih => simp only [sumTo, ih]; omega
  have h5 := tri (F := fun k j => ed b (getI O ((k : Nat) : Int)).toNat (getI O ((j : Nat) : Int)).toNat) (n := b.length) (fun i j hi hj => by
    have a := (hk i hi).1
    have c := (hk j hj).1
    exact g.sy _ _ (by omega) (by omega)) (fun i hi => by
    have a := (hk i hi).1
    have := (hB.ed (getI O (i : Int)).toNat (getI O (i : Int)).toNat (by omega) (by omega)).2.2 rfl
    exact this)
  have h6 : sumTo (fun k => sumTo (fun j => ed b (getI O ((k : Nat) : Int)).toNat (getI O ((j : Nat) : Int)).toNat) b.length) b.length = degs b := by
    have e1 : ∀ k, sumTo (fun j => ed b (getI O ((k : Nat) : Int)).toNat (getI O ((j : Nat) : Int)).toNat) b.length = deg b.length (ed b) (getI O ((k : Nat) : Int)).toNat := fun k => sum_perm hO hk (fun u => ed b (getI O ((k : Nat) : Int)).toNat u)
    rw [show (fun k => sumTo (fun j => ed b (getI O ((k : Nat) : Int)).toNat (getI O ((j : Nat) : Int)).toNat) b.length) = fun k => deg b.length (ed b) (getI O ((k : Nat) : Int)).toNat from funext e1]
    exact sum_perm hO hk (fun v => deg b.length (ed b) v)
  rw [h4] at h3
  omega
/-- the order of what is not won -/
theorem ord_ok {b : List (List Int)} (hB : IsB b) {s : List Int} (hs : InR b.length 1048576 s) (hw : wonB b s = false) : ∀ k : Nat, k < b.length → OkAt b (redL b s 0) (ordB b s) k := by
  have h := win_right hB hs
  rw [hw] at h
  obtain ⟨-, ⟨h1, -⟩ | ⟨-, -, h2⟩⟩ := h
  · cases h1
  · exact h2
theorem sum_apl {b : List (List Int)} (hB : IsB b) (s t : List Int) : sumTo (gf (apl b s t)) b.length = sumTo (gf s) b.length := by
  rw [← ap_sum (gr_of hB) (gf s) (gf t)]
  exact sumTo_congr fun v hv => apl_ap hB s t hv
theorem won_sum {b : List (List Int)} (hB : IsB b) {s : List Int} (hs : InR b.length 1048576 s) : (degs b < 2 * sumTo (gf s) b.length + 2 * b.length → wonB b s = true) ∧ (sumTo (gf s) b.length < 0 → wonB b s = false) := by
  have hq : 0 < b.length := hB.n1
  have hsum : sumTo (gf (redL b s 0)) b.length = sumTo (gf s) b.length := sum_apl hB s _
  constructor
  · intro h
    cases hw : wonB b s with
    | true => rfl
    | false =>
      have := ok_sum hB (ordB_len hB s) (ord_ok hB hs hw)
      omega
  · intro h
    cases hw : wonB b s with
    | false => rfl
    | true =>
      exfalso
      have h0 : 0 ≤ getI (redL b s 0) ((0 : Nat) : Int) := by unfold wonB at hw; simpa using hw
      have hr := redL_red hB s hq
      have : 0 ≤ sumTo (gf (redL b s 0)) b.length := sumTo_nn fun v hv => by
        by_cases e : v = 0
        · subst e; exact h0
        · exact hr.1 v hv e
      omega
/-- Genus -/
theorem c42 {x : AV} {b : List (List Int)} (hx : IsLL x b) (hB : IsB b) {m : Nat} (hm : 1100 ≤ m) (H : Heap) : callPure (evF tab it m) true 42 [x] H = some (.int .i64 (degs b / 2 - b.length + 1), H) := by
  have f42 : evF tab it m 42 [x] [] = some (.int .i64 (degs b / 2 - b.length + 1), []) := by
    obtain ⟨m, rfl⟩ : ∃ j, m = j + 1 := ⟨m - 1, by omega⟩
    have fx := hx.free
    have hn2 := hB.n2
    have g := gr_of hB
    have lx : ∀ H, evP H .len [x] = some (.int .i64 ((b.length : Nat) : Int)) := fun H => by cases hx <;> rfl
    have e35 := fun (i : Nat) (hi : i < b.length) H => c35d hx hB hi (m := m) (by omega) H
    refine f_enter rfl rfl ?_
    generalize evF tab it m = call at *
    repeat' first
 | (apply s_mov; (focus ((conv => lhs; whnf); done)))
 | (apply c_nil)
 | (apply c_seq)
 | (apply c_reg)
 | (apply c_block)
 | (with_reducible apply k_c)
    refine c_loop ?_
    refine loop_gc (σ := Nat) (fun k => [x, .int .i64 (sumTo (fun v => deg b.length (ed b) v) k), .int .i64 (k : Int)]) (fun _ => []) (fun k => k ≤ b.length) (fun k => b.length - k) ?_ _ 0 _ _ (by omega) (by omega) (gc_to rfl (by simp [idFreeL, AV.idFree, *]; done))
    intro k hk K hK
    have hs1 := sumTo_nn (f := fun v => deg b.length (ed b) v) (n := k) fun j hj => (deg_nn g (by omega)).1
    have hs2 := sumTo_le (f := fun v => deg b.length (ed b) v) (M := 36) (n := k) fun j hj => by have := deg_nn g (i := j) (by omega); omega
    have hK1 := hK (k + 1)
    simp only [sumTo] at hK1
    have hd : k = b.length → sumTo (fun v => deg b.length (ed b) v) k = degs b := fun e => by subst e; rfl
    generalize sumTo (fun v => deg b.length (ed b) v) k = Z at *
    by_cases hkn : k < b.length
    · have e35' := e35 k hkn
      have hdg := deg_nn g hkn
      repeat' first
 | (apply s_mov; (focus ((conv => lhs; whnf); done)))
 | (apply c_nil)
 | ((first | apply s_lss | apply s_leq | apply s_gtr | apply s_geq | apply s_eql | apply s_neq); exact rfl; all_goals (intro _; try (exfalso; omega)))
 | ((first | apply s_add | apply s_sub); exact rfl; omega)
 | (apply s_pn; (focus (repeat (first | apply opds_nil | (apply opds_cons; (first | (focus ((conv => lhs; whnf); done)) | exact rfl))))); exact lx _)
 | (apply s_cn; (focus (repeat (first | apply opds_nil | (apply opds_cons; (first | (focus ((conv => lhs; whnf); done)) | exact rfl))))); exact e35' _)
 | (apply c_seq)
 | (apply c_reg)
 | (apply c_block)
 | (apply c_skip)
 | (apply c_condT; exact rfl)
 | (with_reducible apply k_c)
      exact hK1 _ _ (by omega) (by omega) (gc_to rfl (by simp [idFreeL, AV.idFree, *]; done))
    · obtain rfl : k = b.length := by omega
      have quo := fun H => p_quo (H := H) (a := Z) (c := 2) (by omega) (by omega)
      have he := hd rfl
      rw [← he]
      repeat' first
 | (apply s_mov; (focus ((conv => lhs; whnf); done)))
 | (apply c_nil)
 | ((first | apply s_lss | apply s_leq | apply s_gtr | apply s_geq | apply s_eql | apply s_neq); exact rfl; all_goals (intro _; try (exfalso; omega)))
 | ((first | apply s_add | apply s_sub); exact rfl; omega)
 | (apply s_pn; (focus (repeat (first | apply opds_nil | (apply opds_cons; (first | (focus ((conv => lhs; whnf); done)) | exact rfl))))); exact lx _)
 | (apply s_pn; (focus (repeat (first | apply opds_nil | (apply opds_cons; (first | (focus ((conv => lhs; whnf); done)) | exact rfl))))); exact quo _)
 | (apply c_seq)
 | (apply c_reg)
 | (apply c_exitH)
 | (apply c_ret)
 | (apply c_condF; exact rfl)
 | (apply c_preF; (focus (repeat (first | apply looks_nil | (apply looks_cons; (focus ((conv => lhs; whnf); done)))))); (focus (simp [idFreeL, AV.idFree, *]; done)))
 | (with_reducible apply k_c)
      exact fin_t (by (conv => lhs; whnf)) (by rfl) rfl
  exact callPure_free (by simp [idFreeL, AV.idFree, hx.free]) (by simp) f42 rfl
end Go.AM.Ch

set_option linter.unusedSectionVars false
set_option linter.unusedVariables false
set_option linter.unusedSimpArgs false
namespace Go.AM.Ch
set_option maxHeartbeats 4000000
/-! ### ranks -/
/-- the rank: as many can be taken away -/
def IsRk (b : List (List Int)) (s : List Int) (r : Int) : Prop :=
  -1 ≤ r ∧ (∀ k : Nat, (k : Int) ≤ r → (k : Int) ≤ sumTo (gf s) b.length ∧ ¬ Ls b k (redL b s 0) 0) ∧ (sumTo (gf s) b.length ≤ r ∨ Ls b (r + 1).toNat (redL b s 0) 0)
theorem IsRk.uniq {b : List (List Int)} {s : List Int} {r r' : Int} (h : IsRk b s r) (h' : IsRk b s r') : r = r' := by
  have key : ∀ {r r' : Int}, IsRk b s r → IsRk b s r' → ¬ r < r' := fun {r r'} h h' hlt => by
    obtain ⟨h1, -, h2⟩ := h
    obtain ⟨-, h3, -⟩ := h'
    obtain ⟨a, c⟩ := h3 (r + 1).toNat (by omega)
    rcases h2 with h2 | h2
    · omega
    · exact c h2
  have a := key h h'
  have c := key h' h
  omega
theorem sum_set {l : List Int} {n v : Nat} (hl : l.length = n) (hv : v < n) (a : Int) : sumTo (gf (l.set v (getI l (v : Int) - a))) n = sumTo (gf l) n - a := by
  have e : sumTo (gf (l.set v (getI l (v : Int) - a))) n = sumTo (fun i => gf l i + (if (i : Int) = (v : Int) then -a else 0)) n := sumTo_congr fun i hi => by
    show getI (l.set v _) (i : Int) = _
    rw [getI_set (by omega)]
    unfold gf
    by_cases h : i = v
    · subst h; rw [if_pos rfl, if_pos rfl]; omega
    · rw [if_neg h, if_neg (by omega), Int.add_zero]
  rw [e, sumTo_add, sumTo_unit, if_pos hv]
  omega
/-- what loses leads to a list that is not won -/
theorem ls_to {b : List (List Int)} : ∀ {k : Nat} {l : List Int} {fr : Nat}, Ls b k l fr → l.length = b.length →
    ∃ l' : List Int, l'.length = b.length ∧ sumTo (gf l') b.length = sumTo (gf l) b.length - k ∧ (∀ v : Nat, v < b.length → getI l (v : Int) - k ≤ getI l' (v : Int) ∧ getI l' (v : Int) ≤ getI l (v : Int)) ∧ getI (redL b l' 0) 0 < 0
  | 0, l, fr, h, hl => ⟨l, hl, by omega, fun v hv => by omega, h⟩
  | k + 1, l, fr, ⟨v, h1, h2, h3⟩, hl => by
    obtain ⟨l', a1, a2, a3, a4⟩ := ls_to h3 (by simp [hl])
    rw [sum_set hl h2] at a2
    refine ⟨l', a1, by omega, fun u hu => ?_, a4⟩
    have := a3 u hu
    rw [getI_set (by omega)] at this
    split at this
    · rename_i e; subst e; omega
    · omega
theorem ex_pos {e : Nat → Int} {n : Nat} (h : ∀ v, v < n → 0 ≤ e v) (hs : 0 < sumTo e n) : ∃ v, v < n ∧ 0 < e v ∧ ∀ u, u < v → e u = 0 := by
  have key : ∀ k, k ≤ n → (∃ v, v < k ∧ 0 < e v ∧ ∀ u, u < v → e u = 0) ∨ ∀ u, u < k → e u = 0 := fun k => by
    induction k with
    | zero => intro _; exact .inr fun u hu => by omega
    | succ k ih =>
      intro hk
      rcases ih (by omega) with ⟨v, h1, h2⟩ | h1
      · exact .inl ⟨v, by omega, h2⟩
      · have := h k (by omega)
        by_cases e0 : e k = 0
        · refine .inr fun u hu => ?_
          rcases (by omega : u < k ∨ u = k) with h2 | rfl
          · exact h1 u h2
          · exact e0
        · exact .inl ⟨k, by omega, by omega, h1⟩
  rcases key n (Nat.le_refl _) with ⟨v, h1, h2⟩ | h1
  · exact ⟨v, h1, h2⟩
  · have e1 : sumTo e n = sumTo (fun _ => 0) n := sumTo_congr h1
    rw [e1, sumTo_zero] at hs
    omega
/-- chips that can be taken away so that what remains is not won -/
theorem ls_of {b : List (List Int)} : ∀ {k : Nat} {l l' : List Int} {fr : Nat} {e : Nat → Int}, l.length = b.length → l'.length = b.length → (∀ v, v < b.length → 0 ≤ e v) → (∀ v, v < fr → e v = 0) → sumTo e b.length = k →
    (∀ v : Nat, v < b.length → getI l' (v : Int) = getI l (v : Int) - e v) → getI (redL b l' 0) 0 < 0 → Ls b k l fr
  | 0, l, l', fr, e, hl, hl', h0, hf, hs, hg, hr => by
    have : l' = l := ext_getI (by omega) fun i hi => by
      have := hg i (by omega)
      have := sumTo_term h0 (k := i) (by omega)
      have := h0 i (by omega)
      omega
    rw [this] at hr
    exact hr
  | k + 1, l, l', fr, e, hl, hl', h0, hf, hs, hg, hr => by
    obtain ⟨v, hv, hp, hz⟩ := ex_pos h0 (by omega)
    refine ⟨v, ?_, hv, ?_⟩
    · rcases Nat.lt_or_ge v fr with h | h
      · have := hf v h; omega
      · exact h
    · refine ls_of (e := fun u => e u + (if (u : Int) = (v : Int) then -1 else 0)) (by simp [hl]) hl' (fun u hu => ?_) (fun u hu => ?_) ?_ (fun u hu => ?_) hr
      · have := h0 u hu
        split
        · rename_i h; have : u = v := by omega
          subst this; omega
        · omega
      · rw [if_neg (by omega), hz u hu]
        rfl
      · rw [sumTo_add, sumTo_unit, if_pos hv, hs]
        omega
      · rw [getI_set (by omega), hg u hu]
        by_cases h : u = v
        · subst h; rw [if_pos rfl, if_pos rfl]; omega
        · rw [if_neg h, if_neg (by omega)]; omega
theorem degs_even {b : List (List Int)} (hB : IsB b) : ∃ h : Int, degs b = 2 * h :=
  ⟨_, (tri (F := fun k j => ed b k j) (n := b.length) (fun i j hi hj => (gr_of hB).sy i j hi hj) fun i hi => (hB.ed i i hi hi).2.2 rfl).symm⟩
/-- a list that is of no value without debts, with the greatest sum -/
theorem nu_ex {b : List (List Int)} (hB : IsB b) : ∃ N : List Int, N.length = b.length ∧ 2 * sumTo (gf N) b.length + 2 * b.length = degs b ∧ (∀ v : Nat, v < b.length → -1 ≤ getI N (v : Int) ∧ getI N (v : Int) ≤ 36) ∧ ∀ t, ¬ ∀ v, v < b.length → 0 ≤ ap b.length (ed b) (gf N) t v := by
  have hn1 := hB.n1
  have hin : InR b.length 1048576 (List.replicate b.length (-1)) := ⟨by simp, fun v hv => by have := (List.mem_replicate.1 hv).2; omega⟩
  have h4 : ∀ n : Nat, sumTo (fun _ => (-1 : Int)) n = -n := fun n => by
    induction n with
    | zero => rfl
    | succ n ih => simp only [sumTo, ih]; omega
  have hsum : sumTo (gf (List.replicate b.length (-1))) b.length = -b.length := by
    rw [← h4]
    exact sumTo_congr fun v hv => by show getI _ _ = _; rw [getI_nat]; simp [List.getD, hv]
  have hw := (won_sum hB hin).2 (by omega)
  have hk := ord_ok hB hin hw
  have hO := ordB_len hB (List.replicate b.length (-1))
  generalize ordB b (List.replicate b.length (-1)) = O at *
  generalize redL b (List.replicate b.length (-1)) 0 = R at *
  -- where a place is in the order
  have hinj : ∀ i j : Nat, i < b.length → j < b.length → getI O (i : Int) = getI O (j : Int) → i = j := fun i j hi hj e => by
    rcases (by omega : i < j ∨ i = j ∨ j < i) with h | h | h
    · exact absurd e ((hk j hj).2.1 i h)
    · exact h
    · exact absurd e.symm ((hk i hi).2.1 j h)
  let val : Nat → Int := fun k => sumTo (fun j => ed b (getI O (k : Int)).toNat (getI O (j : Int)).toNat) k - 1
  have hpos : ∃ P : Nat → Nat, (∀ v, P v < b.length) ∧ ∀ k : Nat, k < b.length → P (getI O (k : Int)).toNat = k := by
    classical
    refine ⟨fun v => if h : ∃ k : Nat, k < b.length ∧ (getI O (k : Int)).toNat = v then h.choose else 0, fun v => ?_, fun k hkn => ?_⟩
    · dsimp only
      split
      · rename_i h; exact h.choose_spec.1
      · omega
    have hex : ∃ k' : Nat, k' < b.length ∧ (getI O (k' : Int)).toNat = (getI O (k : Int)).toNat := ⟨k, hkn, rfl⟩
    dsimp only
    rw [dif_pos hex]
    obtain ⟨h1, h2⟩ := hex.choose_spec
    have a := (hk _ h1).1
    have c := (hk k hkn).1
    exact hinj _ _ h1 hkn (by omega)
  obtain ⟨P, hPn, hP⟩ := hpos
  let N : List Int := (List.range b.length).map fun v => val (P v)
  have hNl : N.length = b.length := by simp [N]
  have hNg : ∀ v : Nat, v < b.length → gf N v = val (P v) := fun v hv => by
    show getI _ _ = _
    rw [getI_nat]; simp [N, List.getD, hv]
  have hNk : ∀ k : Nat, k < b.length → getI N (getI O (k : Int)) = val k := fun k hkn => by
    have a := (hk k hkn).1
    have := hNg (getI O (k : Int)).toNat (by omega)
    rw [hP k hkn] at this
    unfold gf at this
    rw [Int.toNat_of_nonneg a.1] at this
    exact this
  have hok : ∀ k : Nat, k < b.length → OkAt b N O k := fun k hkn => by
    obtain ⟨a, c, -⟩ := hk k hkn
    refine ⟨a, c, ?_⟩
    rw [hNk k hkn]
    have e2 : sumTo (fun j => getI (getLL b (getI O (k : Int))) (getI O (j : Int))) k = sumTo (fun j => ed b (getI O (k : Int)).toNat (getI O (j : Int)).toNat) k := sumTo_congr fun j hj => by
      have := (hk j (by omega)).1
      unfold ed
      rw [Int.toNat_of_nonneg a.1, Int.toNat_of_nonneg this.1]
    rw [e2]
    show _ - 1 < _
    omega
  have hNb : ∀ v : Nat, v < b.length → -1 ≤ getI N (v : Int) ∧ getI N (v : Int) ≤ 36 := fun v hv => by
    have e : getI N (v : Int) = val (P v) := hNg v hv
    have hp := hPn v
    rw [e]
    have g := gr_of hB
    have hn := g.sz
    have hin : ∀ j, j < P v → 0 ≤ ed b (getI O ((P v : Nat) : Int)).toNat (getI O (j : Int)).toNat ∧ ed b (getI O ((P v : Nat) : Int)).toNat (getI O (j : Int)).toNat ≤ 3 := fun j hj => by
      have a := (hk _ hp).1
      have c := (hk j (by omega)).1
      exact ⟨g.nn _ _ (by omega) (by omega), g.le _ _ (by omega) (by omega)⟩
    have h1 := sumTo_nn fun j hj => (hin j hj).1
    have h2 := sumTo_le (M := 3) (n := P v) (f := fun j => ed b (getI O ((P v : Nat) : Int)).toNat (getI O (j : Int)).toNat) fun j hj => by have := hin j hj; omega
    show -1 ≤ _ - 1 ∧ _ - 1 ≤ 36
    omega
  refine ⟨N, hNl, ?_, hNb, no_eff hB hO hok⟩
  have h1 := sum_perm hO hok (gf N)
  have h2 : sumTo (fun k => gf N (getI O (k : Int)).toNat) b.length = sumTo (fun k => sumTo (fun j => ed b (getI O (k : Int)).toNat (getI O (j : Int)).toNat) k - 1) b.length := sumTo_congr fun k hkn => by
    have a := (hk k hkn).1
    have := hNk k hkn
    unfold gf
    rw [Int.toNat_of_nonneg a.1]
    exact this
  have h3 : sumTo (fun k => sumTo (fun j => ed b (getI O (k : Int)).toNat (getI O (j : Int)).toNat) k - 1) b.length = sumTo (fun k => sumTo (fun j => ed b (getI O (k : Int)).toNat (getI O (j : Int)).toNat) k) b.length - sumTo (fun _ => 1) b.length := sumTo_sub _ _ _
  have h4 : ∀ n : Nat, sumTo (fun _ => (1 : Int)) n = n := fun n => by
    induction n with
    | zero => rfl
    | succ n ih => simp only [sumTo, ih]; omega
  have h5 := tri (F := fun k j => ed b (getI O ((k : Nat) : Int)).toNat (getI O ((j : Nat) : Int)).toNat) (n := b.length) (fun i j hi hj => by
    have a := (hk i hi).1
    have c := (hk j hj).1
    exact (gr_of hB).sy _ _ (by omega) (by omega)) (fun i hi => by
    have a := (hk i hi).1
    exact (hB.ed (getI O (i : Int)).toNat (getI O (i : Int)).toNat (by omega) (by omega)).2.2 rfl)
  have h6 : sumTo (fun k => sumTo (fun j => ed b (getI O ((k : Nat) : Int)).toNat (getI O ((j : Nat) : Int)).toNat) b.length) b.length = degs b := by
    have e1 : ∀ k, sumTo (fun j => ed b (getI O ((k : Nat) : Int)).toNat (getI O ((j : Nat) : Int)).toNat) b.length = deg b.length (ed b) (getI O ((k : Nat) : Int)).toNat := fun k => sum_perm hO hok (fun u => ed b (getI O ((k : Nat) : Int)).toNat u)
    rw [show (fun k => sumTo (fun j => ed b (getI O ((k : Nat) : Int)).toNat (getI O ((j : Nat) : Int)).toNat) b.length) = fun k => deg b.length (ed b) (getI O ((k : Nat) : Int)).toNat from funext e1]
    exact sum_perm hO hok (fun v => deg b.length (ed b) v)
  rw [h4] at h3
  omega
/-- the difference of two lists -/
def mi (a c : List Int) : List Int := (List.range a.length).map fun (v : Nat) => getI a (v : Int) - getI c (v : Int)
theorem mi_len (a c : List Int) : (mi a c).length = a.length := by simp [mi]
theorem mi_get {a c : List Int} {i : Nat} (h : i < a.length) : getI (mi a c) (i : Int) = getI a (i : Int) - getI c (i : Int) := by
  rw [getI_nat]; simp [mi, List.getD, h]
theorem genus_nn {b : List (List Int)} (hB : IsB b) : 2 * (b.length : Int) - 2 ≤ degs b := by
  have hn1 := hB.n1
  have hl : ((List.replicate b.length (0 : Int)).set 0 (getI (List.replicate b.length (0 : Int)) ((0 : Nat) : Int) - 1)).length = b.length := by simp
  have h0 : ∀ v : Nat, v < b.length → getI (List.replicate b.length (0 : Int)) (v : Int) = 0 := fun v hv => by rw [getI_nat]; simp [List.getD, hv]
  have hs : sumTo (gf (List.replicate b.length (0 : Int))) b.length = 0 := (sumTo_congr h0).trans (sumTo_zero _)
  have hsum := sum_set (l := List.replicate b.length (0 : Int)) (n := b.length) (v := 0) (by simp) (by omega) 1
  have hin : InR b.length 1048576 ((List.replicate b.length (0 : Int)).set 0 (getI (List.replicate b.length (0 : Int)) ((0 : Nat) : Int) - 1)) := ⟨hl, fun v hv => by
    rw [h0 0 (by omega)] at hv
    rcases List.mem_or_eq_of_mem_set hv with h | h
    · have := (List.mem_replicate.1 h).2; omega
    · omega⟩
  generalize (List.replicate b.length (0 : Int)).set 0 (getI (List.replicate b.length (0 : Int)) ((0 : Nat) : Int) - 1) = L at *
  have hw := (won_sum hB hin).2 (by omega)
  have h1 := ok_sum hB (ordB_len hB L) (ord_ok hB hin hw)
  have h2 : sumTo (gf (redL b L 0)) b.length = sumTo (gf L) b.length := sum_apl hB L _
  omega
/-- a reduced list that is won has no debt -/
theorem won_nn {b : List (List Int)} (hB : IsB b) {l : List Int} (h : 0 ≤ getI (redL b l 0) 0) : ∀ v, v < b.length → 0 ≤ gf (redL b l 0) v := fun v hv => by
  by_cases e : v = 0
  · subst e; exact h
  · exact (redL_red hB l hB.n1).1 v hv e
/-- all that is left of the sum above the genus -/
theorem rank_high {b : List (List Int)} (hB : IsB b) {s : List Int} (hs12 : sumTo (gf s) b.length ≤ 12) (h : sumTo (gf s) b.length > 2 * (degs b / 2 - b.length + 1) - 2) :
    IsRk b s (if -1 > sumTo (gf s) b.length - (degs b / 2 - b.length + 1) then -1 else sumTo (gf s) b.length - (degs b / 2 - b.length + 1)) := by
  have hn1 := hB.n1; have hn2 := hB.n2
  have g := gr_of hB
  have hq : 0 < b.length := hn1
  obtain ⟨N, hN1, hN2, hN4, hN3⟩ := nu_ex hB
  obtain ⟨hh, hev⟩ := degs_even hB
  have hrs : sumTo (gf (redL b s 0)) b.length = sumTo (gf s) b.length := sum_apl hB s _
  have hr := redL_red hB s hq
  have hrl := redL_len b s 0
  have hgn := genus_nn hB
  have hs1 : -1048576 ≤ sumTo (gf s) b.length ∧ sumTo (gf s) b.length ≤ 12 := by omega
  clear hs12
  unfold IsRk
  generalize redL b s 0 = R at *
  -- the numbers of the reduced list
  have hRo : ∀ v : Nat, v < b.length → v ≠ 0 → 0 ≤ getI R (v : Int) ∧ getI R (v : Int) < 36 := fun v hv h0 => by
    have := red_lt g hr hv h0
    have e : gf R v = getI R (v : Int) := rfl
    omega
  have hR0 : -1100000 ≤ getI R ((0 : Nat) : Int) ∧ getI R ((0 : Nat) : Int) ≤ 12 := by
    have e := sum_set (l := R) (n := b.length) (v := 0) hrl hq (getI R ((0 : Nat) : Int))
    have h1 := sumTo_nn (f := gf (R.set 0 (getI R ((0 : Nat) : Int) - getI R ((0 : Nat) : Int)))) (n := b.length) fun v hv => by
      show 0 ≤ getI _ (v : Int)
      rw [getI_set (by omega)]
      by_cases h0 : v = 0
      · rw [if_pos h0]; omega
      · rw [if_neg h0]; exact (hRo v hv h0).1
    have h2 := sumTo_le (f := gf (R.set 0 (getI R ((0 : Nat) : Int) - getI R ((0 : Nat) : Int)))) (M := 36) (n := b.length) fun v hv => by
      show -36 ≤ getI _ (v : Int) ∧ getI _ (v : Int) ≤ 36
      rw [getI_set (by omega)]
      by_cases h0 : v = 0
      · rw [if_pos h0]; omega
      · rw [if_neg h0]; have := hRo v hv h0; omega
    omega
  have hRa : ∀ v : Nat, v < b.length → -1100000 ≤ getI R (v : Int) ∧ getI R (v : Int) ≤ 36 := fun v hv => by
    by_cases h0 : v = 0
    · subst h0; omega
    · have := hRo v hv h0; omega
  have hRlow : ∀ v : Nat, v < b.length → -1000 ≤ getI R (v : Int) := fun v hv => by
    by_cases h0 : v = 0
    · subst h0
      have e := sum_set (l := R) (n := b.length) (v := 0) hrl hq (getI R ((0 : Nat) : Int))
      have h2 := sumTo_le (f := gf (R.set 0 (getI R ((0 : Nat) : Int) - getI R ((0 : Nat) : Int)))) (M := 36) (n := b.length) fun v hv => by
        show -36 ≤ getI _ (v : Int) ∧ getI _ (v : Int) ≤ 36
        rw [getI_set (by omega)]
        by_cases h0 : v = 0
        · rw [if_pos h0]; omega
        · rw [if_neg h0]; have := hRo v hv h0; omega
      omega
    · have := hRo v hv h0; omega
  have inr : ∀ l : List Int, l.length = b.length → (∀ v : Nat, v < b.length → -1048576 ≤ getI l (v : Int) ∧ getI l (v : Int) ≤ 1048576) → InR b.length 1048576 l := fun l hl hb => ⟨hl, fun v hv => by
    obtain ⟨k, hk, e⟩ := List.getElem_of_mem hv
    have := hb k (by omega)
    rw [getI_nat] at this
    simpa [List.getD, hk, e] using this⟩
  rw [← hrs] at h hs1 ⊢
  clear hrs
  generalize hS : sumTo (gf R) b.length = S at *
  generalize hGG : degs b / 2 - b.length + 1 = G at *
  have hG0 : 0 ≤ G := by omega
  rw [if_neg (show ¬ -1 > S - G by omega)]
  refine ⟨by omega, fun k hk => ⟨by omega, fun hL => ?_⟩, ?_⟩
  · obtain ⟨l', a1, a2, a3, a4⟩ := ls_to hL hrl
    have hin := inr l' a1 fun v hv => by have := a3 v hv; have := hRa v hv; have := hRlow v hv; omega
    have hw := (won_sum hB hin).1 (by omega)
    unfold wonB at hw
    have : 0 ≤ getI (redL b l' 0) ((0 : Nat) : Int) := by simpa using hw
    exact absurd a4 (by simpa using this)
  · by_cases hGz : G = 0
    · left; omega
    · right
      have hdl : (mi R N).length = b.length := by rw [mi_len]; exact hrl
      have hdg : ∀ v : Nat, v < b.length → getI (mi R N) (v : Int) = getI R (v : Int) - getI N (v : Int) := fun v hv => mi_get (by omega)
      have hds : sumTo (gf (mi R N)) b.length = S - sumTo (gf N) b.length := by
        rw [← hS, ← sumTo_sub]
        exact sumTo_congr hdg
      have hin := inr (mi R N) hdl fun v hv => by have := hdg v hv; have := hN4 v hv; have := hRa v hv; have := hRlow v hv; omega
      have hw := (won_sum hB hin).1 (by omega)
      unfold wonB at hw
      have hE := won_nn hB (l := mi R N) (by simpa using hw)
      have hEs : sumTo (gf (redL b (mi R N) 0)) b.length = sumTo (gf (mi R N)) b.length := sum_apl hB _ _
      have hel := redL_len b (mi R N) 0
      have hml : (mi R (redL b (mi R N) 0)).length = b.length := by rw [mi_len]; exact hrl
      have hmg : ∀ v : Nat, v < b.length → getI (mi R (redL b (mi R N) 0)) (v : Int) = getI R (v : Int) - gf (redL b (mi R N) 0) v := fun v hv => mi_get (by omega)
      refine ls_of (k := (S - G + 1).toNat) (l' := mi R (redL b (mi R N) 0)) (e := gf (redL b (mi R N) 0)) hrl hml hE (fun v hv => by omega) (by rw [hEs, hds]; omega) hmg ?_
      apply Classical.byContradiction
      intro hno
      have hz := won_nn hB (l := mi R (redL b (mi R N) 0)) (by omega)
      refine hN3 (fun j => gf (redT b (mi R (redL b (mi R N) 0)) 0) j + (- gf (redT b (mi R N) 0) j)) fun v hv => ?_
      have h1 := hz v hv
      have e2 : gf (redL b (mi R (redL b (mi R N) 0)) 0) v = ap b.length (ed b) (gf (mi R (redL b (mi R N) 0))) (gf (redT b (mi R (redL b (mi R N) 0)) 0)) v := apl_ap hB _ _ hv
      have e1 : gf (redL b (mi R N) 0) v = ap b.length (ed b) (gf (mi R N)) (gf (redT b (mi R N) 0)) v := apl_ap hB _ _ hv
      have e3 := hmg v hv
      have e4 := hdg v hv
      have e5 : gf N v = getI N (v : Int) := rfl
      unfold ap at e1 e2 ⊢
      rw [net_add, net_neg]
      have e6 : gf (mi R (redL b (mi R N) 0)) v = getI (mi R (redL b (mi R N) 0)) (v : Int) := rfl
      have e7 : gf (mi R N) v = getI (mi R N) (v : Int) := rfl
      omega
end Go.AM.Ch

set_option linter.unusedSectionVars false
set_option linter.unusedVariables false
set_option linter.unusedSimpArgs false
namespace Go.AM.Ch
attribute [local go_sem] gc subHeap reach_skip ren_free reach_new reach_newp reach_end rangeL roots boxCells nodupB posOf renL AV.ren pickO renH renO looks look bindEnv envOf reach_int reach_bool reach_nilS reach_rd putRow cells_sl cells_int cells_bool cells_nilS cells_rd cells_agg reach_agg reach_tup idFreeL idf_sl idf_ptr idf_int idf_bool idf_nilS idf_rd reach_fn reach_mp cells_fn cells_ptr cells_mp idf_mp idf_fn idf_agg idf_tup
set_option maxHeartbeats 8000000
/-- the reference's distances -/
theorem f106 {x : AV} {b : List (List Int)} (hx : IsLL x b) (hb : Bd b) {q0 : Nat} (hq : q0 < b.length) {m : Nat} (hm : 200 ≤ m) : evF tab it m 106 [x, .int .i64 (q0 : Int)] [] = some (.sl 0 1 0 b.length, [some (.data (iL (dist b q0).1))]) := by
  obtain ⟨m, rfl⟩ : ∃ j, m = j + 1 := ⟨m - 1, by omega⟩
  have fx := hx.free
  have hl12 := hb.len
  have mk := fun call H => @e_mkI call H b.length (by unfold most; omega)
  have lx : ∀ H, evP H .len [x] = some (.int .i64 ((b.length : Nat) : Int)) := fun H => by cases hx <;> rfl
  have bld : ∀ call H (a : Int), evE call H (.bldS true false 1 1 [.int .i64 0] [(0, 1)]) [.int .i64 a] = some (.sl H.length 1 0 1, H ++ [some (.data [.int .i64 a])]) := fun call H a => rfl
  generalize hR : dist b q0 = R
  refine f_enter rfl rfl ?_
  generalize evF tab it m = call at *
  have gcO : ∀ (v : Nat) (C : List AV), gc 0 [x, .int .i64 (q0 : Int), .sl 0 1 0 b.length, .int .i64 (v : Int)] [some (.data C)] = some ([x, .int .i64 (q0 : Int), .sl 0 1 0 b.length, .int .i64 (v : Int)], [some (.data C)]) := fun v C => by simp [go_sem, fx]
  repeat' first
 | (apply s_mov; (focus ((conv => lhs; whnf); done)))
 | (apply c_nil)
 | (apply s_pn; (focus (repeat (first | apply opds_nil | (apply opds_cons; (first | (focus ((conv => lhs; whnf); done)) | exact rfl))))); exact lx _)
 | (apply s_en; (focus (repeat (first | apply opds_nil | (apply opds_cons; (first | (focus ((conv => lhs; whnf); done)) | exact rfl))))); exact mk _ _)
 | (apply c_seq)
 | (apply c_reg)
 | (apply c_block)
 | (with_reducible apply k_c)
  refine c_loop ?_
  refine loop_gc (σ := Nat × List Int) (fun p => [x, .int .i64 (q0 : Int), .sl 0 1 0 b.length, .int .i64 (p.1 : Int)]) (fun p => [some (.data (iL p.2))]) (fun p => p.1 ≤ b.length ∧ p.2.length = b.length ∧ ∀ i : Nat, i < p.1 → getI p.2 (i : Int) = -1) (fun p => b.length - p.1) ?_ _ (0, List.replicate b.length 0) _ _ ⟨by omega, by simp, fun i hi => by omega⟩ (by show b.length - 0 < _; omega) (gcO 0 _)
  intro ⟨v, out⟩ ⟨hv, hol, hout⟩ K hK
  dsimp only at hv hol hout hK ⊢
  by_cases hvn : v < b.length
  · have hs1 := fun (vv : Int) call H h => e_stO (call := call) (H := H) (id := 0) (l := out) (i := v) (v := vv) h (by omega)
    repeat' first
 | (apply s_mov; (focus ((conv => lhs; whnf); done)))
 | (apply c_nil)
 | ((first | apply s_lss | apply s_leq | apply s_gtr | apply s_geq | apply s_eql | apply s_neq); exact rfl; all_goals (intro _; try (exfalso; omega)))
 | ((first | apply s_add | apply s_sub); exact rfl; omega)
 | (apply s_pn; (focus (repeat (first | apply opds_nil | (apply opds_cons; (first | (focus ((conv => lhs; whnf); done)) | exact rfl))))); exact lx _)
 | (apply s_pn; (focus (repeat (first | apply opds_nil | (apply opds_cons; (first | (focus ((conv => lhs; whnf); done)) | exact rfl))))); exact p_ixO hvn)
 | (apply s_st; (focus (repeat (first | apply opds_nil | (apply opds_cons; (first | (focus ((conv => lhs; whnf); done)) | exact rfl))))); exact hs1 _ _ _ rfl)
 | (apply c_seq)
 | (apply c_reg)
 | (apply c_block)
 | (apply c_skip)
 | (apply c_condT; exact rfl)
 | (with_reducible apply k_c)
    refine hK (v + 1, out.set v (-1)) _ _ ⟨by omega, by simp [hol], fun i hi => ?_⟩ (by show b.length - (v + 1) < _; omega) (gcO (v + 1) _)
    dsimp only
    rw [getI_set (by omega)]
    split
    · rfl
    · exact hout i (by omega)
  · obtain rfl : v = b.length := by omega
    obtain rfl : out = List.replicate b.length (-1) := by
      refine List.ext_getElem (by simp [hol]) fun j h1 h2 => ?_
      have := hout j (by omega)
      rw [getI_nat] at this
      simpa [List.getD, h1] using this
    have hs1 := fun (vv : Int) call H h => e_stO (call := call) (H := H) (id := 0) (l := List.replicate b.length (-1)) (i := q0) (v := vv) h (by simpa using hq)
    repeat' first
 | (apply s_mov; (focus ((conv => lhs; whnf); done)))
 | (apply c_nil)
 | ((first | apply s_lss | apply s_leq | apply s_gtr | apply s_geq | apply s_eql | apply s_neq); exact rfl; all_goals (intro _; try (exfalso; omega)))
 | (apply s_pn; (focus (repeat (first | apply opds_nil | (apply opds_cons; (first | (focus ((conv => lhs; whnf); done)) | exact rfl))))); exact lx _)
 | (apply c_seq)
 | (apply c_reg)
 | (apply c_exitH)
 | (apply c_condF; exact rfl)
 | (with_reducible apply k_c)
    apply c_pre (vs := [x, .int .i64 (q0 : Int), .sl 0 1 0 b.length]) (H' := [some (.data (iL (List.replicate b.length (-1))))])
    · simp [go_sem, fx]
    repeat' first
 | (apply s_mov; (focus ((conv => lhs; whnf); done)))
 | (apply c_nil)
 | (apply s_pn; (focus (repeat (first | apply opds_nil | (apply opds_cons; (first | (focus ((conv => lhs; whnf); done)) | exact rfl))))); exact p_ixO hq)
 | (apply s_st; (focus (repeat (first | apply opds_nil | (apply opds_cons; (first | (focus ((conv => lhs; whnf); done)) | exact rfl))))); exact hs1 _ _ _ rfl)
 | (apply s_en; (focus (repeat (first | apply opds_nil | (apply opds_cons; (first | (focus ((conv => lhs; whnf); done)) | exact rfl))))); exact bld _ _ _)
 | (apply c_seq)
 | (apply c_reg)
 | (apply c_block)
 | (with_reducible apply k_c)
    have gcQ : ∀ (k j : Nat) (C D : List AV), gc 0 [x, .sl 0 1 0 b.length, .sl 1 1 0 k, .int .i64 (j : Int)] [some (.data C), some (.data D)] = some ([x, .sl 0 1 0 b.length, .sl 1 1 0 k, .int .i64 (j : Int)], [some (.data C), some (.data D)]) := fun k j C D => by simp [go_sem, fx]
    have hn0 := negs_le (d0 b.length q0)
    have hd0 : (d0 b.length q0).length = b.length := by simp [d0]
    refine c_loop ?_
    refine loop_gc (σ := List Int × List Nat × List Nat) (fun p => [x, .sl 0 1 0 b.length, .sl 1 1 0 (p.2.1 ++ p.2.2).length, .int .i64 (p.2.1.length : Int)]) (fun p => [some (.data (iL p.1)), some (.data (iL (nI (p.2.1 ++ p.2.2))))]) (fun p => Bfs b.length p.1 p.2.1 p.2.2 ∧ ∃ f, 2 * negs p.1 + p.2.2.length ≤ f ∧ bfsF b b.length f p.1 p.2.1 p.2.2 = R) (fun p => 2 * negs p.1 + p.2.2.length) ?_ _ (d0 b.length q0, [], [q0]) _ _ ⟨Bfs.init hq, 2 * b.length + 2, by simp only [List.length_cons, List.length_nil]; omega, hR⟩ (by simp only [List.length_cons, List.length_nil]; omega) (gcQ 1 0 _ _)
    intro ⟨d, dn, q⟩ ⟨hB, f, hf, hfR⟩ K2 hK2
    dsimp only at hB hf hfR hK2 ⊢
    have hdl := hB.len
    rcases q with _ | ⟨v, q⟩
    · have : R = (d, dn) := by rw [← hfR]; cases f <;> rfl
      subst this
      simp only [List.append_nil]
      repeat' first
 | (apply s_mov; (focus ((conv => lhs; whnf); done)))
 | (apply c_nil)
 | ((first | apply s_lss | apply s_leq | apply s_gtr | apply s_geq | apply s_eql | apply s_neq); exact rfl; all_goals (intro _; try (exfalso; omega)))
 | (apply s_lenSl; exact rfl)
 | (apply c_seq)
 | (apply c_reg)
 | (apply c_exitH)
 | (apply c_condF; exact rfl)
 | (with_reducible apply k_c)
      all_goals first | (exfalso; omega) | skip
      apply c_pre (vs := [.sl 0 1 0 b.length]) (H' := [some (.data (iL d))])
      · simp [go_sem]
      repeat' first
 | (apply s_mov; (focus ((conv => lhs; whnf); done)))
 | (apply c_nil)
 | (apply c_seq)
 | (apply c_reg)
 | (apply c_ret)
 | (with_reducible apply k_c)
      simp [finish, ress, resOf, look, tupOf, go_sem]
    · have hv : v < b.length := hB.lt v (by simp)
      have hvd := (hB.iff v hv).2 (by simp)
      have e0 : dn ++ v :: q = dn ++ [v] ++ q := by simp
      have hB' : Bfs b.length d (dn ++ [v]) q := ⟨hB.len, hB.low, e0 ▸ hB.nd, e0 ▸ hB.lt, e0 ▸ hB.iff, e0 ▸ hB.far⟩
      have hcap : ∀ {d1 : List Int} {dn1 q1 : List Nat}, Bfs b.length d1 dn1 q1 → (dn1 ++ q1).length ≤ b.length := fun h => by
        have := nodup_len h.nd fun w hw => List.mem_range.2 (h.lt w hw)
        rwa [List.length_range] at this
      have hcap0 := hcap hB
      obtain ⟨f, rfl⟩ : ∃ j, f = j + 1 := ⟨f - 1, by simp only [List.length_cons] at hf; omega⟩
      simp only [bfsF] at hfR
      obtain ⟨hpop, hdec⟩ := Bfs.pop (b := b) hB
      have hrow := hx.at (i := (v : Int)) ⟨by omega, by omega⟩
      have hrl := hb.row v hv
      have fr := hrow.free
      have hlq : dn.length < (dn ++ v :: q).length := by simp
      have hgv : getI (nI (dn ++ v :: q)) (dn.length : Int) = (v : Int) := by rw [getI_nat]; simp [nI, List.getD]
      have ixq := fun H => p_ixO (H := H) (id := 1) (n := (dn ++ v :: q).length) (i := dn.length) hlq
      have ldq := fun (H : Heap) (h : H.data? 1 = some (iL (nI (dn ++ v :: q)))) => (p_ldO (id := 1) (i := dn.length) h (by simp [nI])).trans (by rw [hgv])
      repeat' first
 | (apply s_mov; (focus ((conv => lhs; whnf); done)))
 | (apply c_nil)
 | ((first | apply s_lss | apply s_leq | apply s_gtr | apply s_geq | apply s_eql | apply s_neq); exact rfl; all_goals (intro _; try (exfalso; omega)))
 | (apply s_pn; (focus (repeat (first | apply opds_nil | (apply opds_cons; (first | (focus ((conv => lhs; whnf); done)) | exact rfl))))); exact ixq _)
 | (apply s_pn; (focus (repeat (first | apply opds_nil | (apply opds_cons; (first | (focus ((conv => lhs; whnf); done)) | exact rfl))))); exact ldq _ rfl)
 | (apply s_lenSl; exact rfl)
 | (apply c_seq)
 | (apply c_reg)
 | (apply c_block)
 | (apply c_skip)
 | (apply c_condT; exact rfl)
 | (with_reducible apply k_c)
      all_goals first | (exfalso; omega) | skip
      have gcI : ∀ (k i j : Nat) (C D : List AV), gc 0 [x, .sl 0 1 0 b.length, .sl 1 1 0 k, .int .i64 (i : Int), .int .i64 (v : Int), .int .i64 (j : Int)] [some (.data C), some (.data D)] = some ([x, .sl 0 1 0 b.length, .sl 1 1 0 k, .int .i64 (i : Int), .int .i64 (v : Int), .int .i64 (j : Int)], [some (.data C), some (.data D)]) := fun k i j C D => by simp [go_sem, fx]
      have gcI2 : ∀ (k i j : Nat) (C D : List AV), gc 0 [x, .sl 0 1 0 b.length, .sl 2 1 0 k, .int .i64 (i : Int), .int .i64 (v : Int), .int .i64 (j : Int)] [some (.data C), none, some (.data D)] = some ([x, .sl 0 1 0 b.length, .sl 1 1 0 k, .int .i64 (i : Int), .int .i64 (v : Int), .int .i64 (j : Int)], [some (.data C), some (.data D)]) := fun k i j C D => by simp [go_sem, fx]
      rw [e0]
      refine c_loop ?_
      refine loop_gc (σ := Nat) (fun j => [x, .sl 0 1 0 b.length, .sl 1 1 0 (dn ++ [v] ++ (bIn b v j (d, q)).2).length, .int .i64 (dn.length : Int), .int .i64 (v : Int), .int .i64 (j : Int)]) (fun j => [some (.data (iL (bIn b v j (d, q)).1)), some (.data (iL (nI (dn ++ [v] ++ (bIn b v j (d, q)).2))))]) (fun j => j ≤ b.length) (fun j => b.length - j) ?_ _ 0 _ _ (Nat.zero_le _) (by omega) (gcI _ dn.length 0 _ _)
      intro j hj K3 hK3
      obtain ⟨hB1, hv1, hm1⟩ := bIn_ok (b := b) hB' hv hvd j hj
      by_cases hjn : j < b.length
      · have hcap1 := hcap hB1
        have hstep : bIn b v (j + 1) (d, q) = if 0 < getI (getLL b (v : Int)) (j : Int) ∧ getI (bIn b v j (d, q)).1 (j : Int) < 0 then ((bIn b v j (d, q)).1.set j (getI (bIn b v j (d, q)).1 (v : Int) + 1), (bIn b v j (d, q)).2 ++ [j]) else bIn b v j (d, q) := rfl
        have hK31 := hK3 (j + 1)
        simp only [hstep] at hK31
        have hlow := hB1.low j hjn
        have hlow2 := hB.far v hv
        generalize bIn b v j (d, q) = st at *
        obtain ⟨d1, q1⟩ := st
        dsimp only at *
        have hl1 := hB1.len
        have ldk := fun (H : Heap) (h : H.data? 0 = some (iL d1)) => p_ldO (id := 0) (i := j) h (by omega)
        have ldv := fun (H : Heap) (h : H.data? 0 = some (iL d1)) => p_ldO (id := 0) (i := v) h (by omega)
        have stk := fun (vv : Int) call (H : Heap) (h : H.data? 0 = some (iL d1)) => e_stO (call := call) (H := H) (id := 0) (l := d1) (i := j) (v := vv) h (by omega)
        have apq := fun call (H : Heap) (h : H.data? 1 = some (iL ([] ++ nI (dn ++ [v] ++ q1)))) => e_appO (call := call) (a := (j : Int)) (id := 1) (pr := []) h rfl (nI_len _) (by unfold most; omega)
        by_cases hc : 0 < getI (getLL b (v : Int)) (j : Int) ∧ getI d1 (j : Int) < 0
        · simp only [if_pos hc] at hK31
          obtain ⟨hc1, hc2⟩ := hc
          repeat' first
 | (apply s_mov; (focus ((conv => lhs; whnf); done)))
 | (apply s_gT; exact rfl)
 | (apply c_nil)
 | (apply s_pickT; exact rfl; (focus ((conv => lhs; whnf); done)))
 | ((first | apply s_lss | apply s_leq | apply s_gtr | apply s_geq | apply s_eql | apply s_neq); exact rfl; all_goals (intro _; try (exfalso; omega)))
 | ((first | apply s_add | apply s_sub); exact rfl; omega)
 | (apply s_pn; (focus (repeat (first | apply opds_nil | (apply opds_cons; (first | (focus ((conv => lhs; whnf); done)) | exact rfl))))); exact p_ixO hjn)
 | (apply s_pn; (focus (repeat (first | apply opds_nil | (apply opds_cons; (first | (focus ((conv => lhs; whnf); done)) | exact rfl))))); exact p_ixO hv)
 | (apply s_pn; (focus (repeat (first | apply opds_nil | (apply opds_cons; (first | (focus ((conv => lhs; whnf); done)) | exact rfl))))); exact ldk _ rfl)
 | (apply s_pn; (focus (repeat (first | apply opds_nil | (apply opds_cons; (first | (focus ((conv => lhs; whnf); done)) | exact rfl))))); exact ldv _ rfl)
 | (apply s_st; (focus (repeat (first | apply opds_nil | (apply opds_cons; (first | (focus ((conv => lhs; whnf); done)) | exact rfl))))); exact stk _ _ _ rfl)
 | (apply s_en; (focus (repeat (first | apply opds_nil | (apply opds_cons; (first | (focus ((conv => lhs; whnf); done)) | exact rfl))))); exact e_bld1 rfl rfl rfl rfl)
 | (apply s_en; (focus (repeat (first | apply opds_nil | (apply opds_cons; (first | (focus ((conv => lhs; whnf); done)) | exact rfl))))); exact apq _ _ rfl)
 | (apply s_lenLL; (focus ((conv => lhs; whnf); done)); assumption)
 | (apply s_idx; (focus ((conv => lhs; whnf); done)); exact rfl; (first | assumption | (apply IsLL.at; assumption; omega)); omega)
 | (apply s_idxLL; (focus ((conv => lhs; whnf); done)); exact rfl; assumption; omega)
 | (apply s_ldI; exact rfl; omega)
 | (apply s_ldLL; exact rfl; assumption; omega)
 | (apply c_seq)
 | (apply c_reg)
 | (apply c_block)
 | (apply c_skip)
 | (apply c_condT; exact rfl)
 | (with_reducible apply k_c)
          all_goals first | (exfalso; omega) | skip
          have eq1 : nI (dn ++ [v] ++ q1) ++ [(j : Int)] = nI (dn ++ [v] ++ (q1 ++ [j])) := by simp [nI]
          rw [eq1]
          have eq2 : (dn ++ [v] ++ q1).length + 1 = (dn ++ [v] ++ (q1 ++ [j])).length := by simp; omega
          rw [eq2]
          exact hK31 _ _ (by omega) (by omega) (gcI2 _ dn.length (j + 1) _ _)
        · simp only [if_neg hc] at hK31
          repeat' first
 | (apply s_mov; (focus ((conv => lhs; whnf); done)))
 | (apply s_gT; exact rfl)
 | (apply s_gF; exact rfl)
 | (apply c_nil)
 | (apply s_pickT; exact rfl; (focus ((conv => lhs; whnf); done)))
 | (apply s_pickF; exact rfl; (focus ((conv => lhs; whnf); done)))
 | ((first | apply s_lss | apply s_leq | apply s_gtr | apply s_geq | apply s_eql | apply s_neq); exact rfl; all_goals (intro _; try (exfalso; omega)))
 | ((first | apply s_add | apply s_sub); exact rfl; omega)
 | (apply s_pn; (focus (repeat (first | apply opds_nil | (apply opds_cons; (first | (focus ((conv => lhs; whnf); done)) | exact rfl))))); exact p_ixO hjn)
 | (apply s_pn; (focus (repeat (first | apply opds_nil | (apply opds_cons; (first | (focus ((conv => lhs; whnf); done)) | exact rfl))))); exact ldk _ rfl)
 | (apply s_lenLL; (focus ((conv => lhs; whnf); done)); assumption)
 | (apply s_idx; (focus ((conv => lhs; whnf); done)); exact rfl; (first | assumption | (apply IsLL.at; assumption; omega)); omega)
 | (apply s_idxLL; (focus ((conv => lhs; whnf); done)); exact rfl; assumption; omega)
 | (apply s_ldI; exact rfl; omega)
 | (apply s_ldLL; exact rfl; assumption; omega)
 | (apply c_seq)
 | (apply c_reg)
 | (apply c_block)
 | (apply c_skip)
 | (apply c_condT; exact rfl)
 | (apply c_condF; exact rfl)
 | (with_reducible apply k_c)
          all_goals first | exact hK31 _ _ (by omega) (by omega) (gcI _ dn.length (j + 1) _ _) | (exfalso; omega) | skip
      · obtain rfl : j = b.length := by omega
        repeat' first
 | (apply s_mov; (focus ((conv => lhs; whnf); done)))
 | (apply c_nil)
 | ((first | apply s_lss | apply s_leq | apply s_gtr | apply s_geq | apply s_eql | apply s_neq); exact rfl; all_goals (intro _; try (exfalso; omega)))
 | (apply s_lenLL; (focus ((conv => lhs; whnf); done)); assumption)
 | (apply c_seq)
 | (apply c_reg)
 | (apply c_exitH)
 | (apply c_condF; exact rfl)
 | (with_reducible apply k_c)
        apply c_pre (vs := [x, .sl 0 1 0 b.length, .sl 1 1 0 (dn ++ [v] ++ (bIn b v b.length (d, q)).2).length, .int .i64 (dn.length : Int)]) (H' := [some (.data (iL (bIn b v b.length (d, q)).1)), some (.data (iL (nI (dn ++ [v] ++ (bIn b v b.length (d, q)).2))))])
        · exact gcQ _ dn.length _ _
        repeat' first
 | (apply s_mov; (focus ((conv => lhs; whnf); done)))
 | (apply c_nil)
 | ((first | apply s_add | apply s_sub); exact rfl; omega)
 | (apply c_reg)
        refine hK2 ((bIn b v b.length (d, q)).1, dn ++ [v], (bIn b v b.length (d, q)).2) _ _ ⟨hpop, f, by dsimp only; omega, hfR⟩ (by dsimp only; exact hdec) ?_
        have e9 : ((dn ++ [v]).length : Int) = (dn.length : Int) + 1 := by simp
        dsimp only
        rw [e9]
        simp [go_sem, fx]
theorem c106 {x : AV} {b : List (List Int)} (hx : IsLL x b) (hb : Bd b) {q0 : Nat} (hq : q0 < b.length) {m : Nat} (hm : 200 ≤ m) (H : Heap) : callPure (evF tab it m) true 106 [x, .int .i64 (q0 : Int)] H = some (.rd 1 b.length (iL (dist b q0).1), H) :=
  callPure_frz (by simp [idFreeL, AV.idFree, hx.free]) (by simp) (f106 hx hb hq hm) (frz_sl rfl (dist_len b q0))
end Go.AM.Ch
