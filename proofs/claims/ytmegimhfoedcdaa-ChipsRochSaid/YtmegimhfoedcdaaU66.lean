/- A part of the proof: U49 U54 U65 U45 U46 U61 U66. -/
import Derived.Test.YtmegimhfoedcdaaU52
import Derived.Test.YtmegimhfoedcdaaU36
import Derived.Test.YtmegimhfoedcdaaU53
import Derived.Test.YtmegimhfoedcdaaU28
import Derived.Test.YtmegimhfoedcdaaU24
set_option linter.unusedSectionVars false
set_option linter.unusedVariables false
set_option linter.unusedSimpArgs false
namespace Go.AM.Ch
set_option maxHeartbeats 8000000
/-- won: no debt is left at 0 -/
noncomputable def wonB (b : List (List Int)) (s : List Int) : Bool := decide (0 ≤ getI (redL b s 0) ((0 : Nat) : Int))
/-- the order in which all burns -/
noncomputable def ordB (b : List (List Int)) (s : List Int) : List Int := nI (burnL b (redL b s 0) 0)
theorem ordB_len {b : List (List Int)} (hB : IsB b) (s : List Int) : (ordB b s).length = b.length := by
  have hq : 0 < b.length := hB.n1
  have hr := redL_red hB s hq
  obtain ⟨h1, h2⟩ := burnL_ok (b := b) (l := redL b s 0) hq
  have hl := h1.len
  have hleg := burn_leg (b := b) (l := redL b s 0) hq
  unfold ordB
  rw [nI_len]
  apply Classical.byContradiction
  intro hne
  have hqm : (fun u => !(burnL b (redL b s 0) 0).contains u) 0 = false := by
    have : 0 ∈ burnL b (redL b s 0) 0 := List.mem_of_getElem? h1.hd
    simp [this]
  have hex : ∃ w, w < b.length ∧ (fun u => !(burnL b (redL b s 0) 0).contains u) w = true := by
    apply Classical.byContradiction
    intro hc
    have hall : ∀ w ∈ List.range b.length, w ∈ burnL b (redL b s 0) 0 := fun w hw => by
      apply Classical.byContradiction
      intro hm
      exact hc ⟨w, List.mem_range.1 hw, by simp [hm]⟩
    have := nodup_len List.nodup_range hall
    rw [List.length_range] at this
    omega
  obtain ⟨v, hv, hs, hlt⟩ := hr.2 _ hqm hex
  have := hleg v hv hs
  omega
/-- win's winning is right -/
theorem win_right {b : List (List Int)} (hB : IsB b) {s : List Int} (hs : InR b.length 1048576 s) : RightW b s (wonB b s) (redT b s 0) (if wonB b s = true then [] else ordB b s) := by
  have hq : 0 < b.length := hB.n1
  have hr := redL_red hB s hq
  have hRb := redT_st hB hs hq
  have hRl := (redT_ok hB s hq).1
  refine ⟨⟨hRl, fun v hv => ?_⟩, ?_⟩
  · obtain ⟨k, hk, e⟩ := List.getElem_of_mem hv
    have := hRb k (by omega)
    rw [getI_nat] at this
    have h2 : (redT b s 0).getD k 0 = v := by simp [List.getD, hk, e]
    rw [h2] at this
    omega
  · show (_ ∧ _ ∧ ∀ i : Nat, i < b.length → 0 ≤ getI (redL b s 0) (i : Int)) ∨ (_ ∧ _ ∧ ∀ k : Nat, k < b.length → OkAt b (redL b s 0) _ k)
    cases hw : wonB b s with
    | true =>
      left
      refine ⟨rfl, by simp, fun i hi => ?_⟩
      by_cases e : i = 0
      · subst e
        unfold wonB at hw
        simpa using hw
      · exact hr.1 i hi e
    | false =>
      right
      have hol := ordB_len hB s
      refine ⟨rfl, by simpa using hol, fun k hk => ?_⟩
      simp only [Bool.false_eq_true, if_false]
      obtain ⟨h1, -⟩ := burnL_ok (b := b) (l := redL b s 0) hq
      have hlow : ¬ 0 ≤ getI (redL b s 0) ((0 : Nat) : Int) := by unfold wonB at hw; simpa using hw
      unfold ordB at hol ⊢
      generalize burnL b (redL b s 0) 0 = ord at *
      rw [nI_len] at hol
      have hko : k < ord.length := by omega
      have hkl := h1.lt _ (List.getElem_mem hko)
      unfold OkAt
      rw [nI_get hko]
      refine ⟨by omega, fun j hj => ?_, ?_⟩
      · rw [nI_get (by omega)]
        have := (List.pairwise_iff_getElem.1 h1.nd) j k (by omega) hko hj
        omega
      · by_cases e : k = 0
        · subst e
          have h0 := h1.hd
          rw [List.getElem?_eq_getElem hko] at h0
          simp only [Option.some.injEq] at h0
          rw [h0]
          simp only [sumTo]
          omega
        · have := h1.low k (by omega) hko
          unfold brn at this
          rw [List.length_take, Nat.min_eq_left (by omega)] at this
          have e2 : sumTo (fun j => getI (getLL b ((ord[k] : Nat) : Int)) (getI (nI (ord.take k)) (j : Int))) k = sumTo (fun j => getI (getLL b ((ord[k] : Nat) : Int)) (getI (nI ord) (j : Int))) k := sumTo_congr fun j hj => by
            rw [nI_get (by rw [List.length_take]; omega), nI_get (by omega)]
            simp
          rw [e2] at this
          exact this
end Go.AM.Ch

set_option linter.unusedSectionVars false
set_option linter.unusedVariables false
set_option linter.unusedSimpArgs false
namespace Go.AM.Ch
set_option maxHeartbeats 4000000
theorem c34 {x : AV} {b : List (List Int)} {w : Nat} (hx : IsLL x b) (hb : b.length < 9223372036854775808) (hw : 1 ≤ w ∧ w ≤ 10) {m : Nat} (hm : 100 ≤ m) (H : Heap) :
    callPure (evF tab it m) true 34 [x, .int .i64 (w : Int)] H = some (fzLL (growL b w), H) :=
  callPure_frz (by simp [idFreeL, AV.idFree, hx.free]) (by simp) (f34 hx hb hw hm) (hb_frz (growL_rows b w) (grN_le b hw.1).1 (by have := (grN_le b hw.1).2; omega))
/-! ### an order in which all burns, and no winning -/
/-- a list that burns all is of no value that is all at least 0 -/
theorem no_eff {b : List (List Int)} (hB : IsB b) {l O : List Int} (hO : O.length = b.length) (hk : ∀ k : Nat, k < b.length → OkAt b l O k) (t : Nat → Int) : ¬ ∀ v, v < b.length → 0 ≤ ap b.length (ed b) (gf l) t v := by
  intro hc
  have g := gr_of hB
  have hn := hB.n1
  -- the greatest number of the script, at places of the order
  obtain ⟨m, hm, hmax⟩ := ex_max (fun k => t (getI O (k : Int)).toNat) (n := b.length) (by omega)
  -- all places are of the order
  have hall : ∀ v : Nat, v < b.length → ∃ k : Nat, k < b.length ∧ getI O (k : Int) = (v : Int) := by
    have hnd : ((List.range b.length).map fun k => (getI O ((k : Nat) : Int)).toNat).Nodup := by
      rw [List.nodup_iff_pairwise_ne, List.pairwise_map]
      refine (List.pairwise_iff_getElem).2 fun i j hi hj hij => ?_
      simp only [List.length_range] at hi hj
      simp only [List.getElem_range]
      have a := (hk j hj).2.1 i hij
      have c := (hk i hi).1
      have d := (hk j hj).1
      omega
    intro v hv
    apply Classical.byContradiction
    intro hno
    have hnd2 : (v :: ((List.range b.length).map fun k => (getI O ((k : Nat) : Int)).toNat)).Nodup := List.nodup_cons.2 ⟨fun hmem => by
      obtain ⟨k, hkm, e⟩ := List.mem_map.1 hmem
      have hkn := List.mem_range.1 hkm
      have := (hk k hkn).1
      exact hno ⟨k, hkn, by omega⟩, hnd⟩
    have := nodup_len hnd2 (l2 := List.range b.length) fun w hw => by
      rcases List.mem_cons.1 hw with rfl | hw
      · exact List.mem_range.2 hv
      · obtain ⟨k, hkm, rfl⟩ := List.mem_map.1 hw
        have := (hk k (List.mem_range.1 hkm)).1
        exact List.mem_range.2 (by omega)
    simp at this
    omega
  -- the first of them
  have key : ∀ k : Nat, (∃ j : Nat, j < k ∧ j < b.length ∧ t (getI O (j : Int)).toNat = t (getI O (m : Int)).toNat) → ∃ j : Nat, j < b.length ∧ t (getI O (j : Int)).toNat = t (getI O (m : Int)).toNat ∧ ∀ i : Nat, i < j → t (getI O (i : Int)).toNat ≠ t (getI O (m : Int)).toNat := by
    intro k
    induction k with
    | zero => rintro ⟨j, hj, _⟩; omega
    | succ k ih =>
      rintro ⟨j, hj, hjl, hs⟩
      by_cases hex : ∃ j : Nat, j < k ∧ j < b.length ∧ t (getI O (j : Int)).toNat = t (getI O (m : Int)).toNat
      · exact ih hex
      · exact ⟨j, hjl, hs, fun i hi e => hex ⟨i, by omega, by omega, e⟩⟩
  obtain ⟨j, hj, hjt, hfirst⟩ := key (m + 1) ⟨m, by omega, hm, rfl⟩
  obtain ⟨h1, h2, h3⟩ := hk j hj
  obtain ⟨w, hw⟩ : ∃ w : Nat, getI O (j : Int) = (w : Int) := ⟨(getI O (j : Int)).toNat, by omega⟩
  have hwn : w < b.length := by omega
  have hsum := preS_sum (O := O) (n := b.length) (fun u => getI (getLL b (w : Int)) u) (k := j) (by omega) fun i hi => ⟨(hk i (by omega)).1, (hk i (by omega)).2.1⟩
  rw [hw] at h3 hjt
  rw [Int.toNat_natCast] at hjt
  have hnet : sumTo (fun i => getI (getLL b (w : Int)) (getI O (i : Int))) j ≤ net b.length (ed b) t w := by
    rw [← hsum]
    refine sumTo_mono fun u hu => ?_
    have he := g.nn w u hwn hu
    obtain ⟨k, hkn, hku⟩ := hall u hu
    have hle : t u ≤ t w := by
      have := hmax k hkn
      try dsimp only at this
      rw [hku, Int.toNat_natCast] at this
      omega
    by_cases hp : preS O j u = true
    · rw [if_pos hp]
      simp only [preS, decide_eq_true_eq] at hp
      obtain ⟨i, hi, e⟩ := (mem_take (by omega)).1 hp
      have := hfirst i hi
      rw [e, Int.toNat_natCast] at this
      have h4 : 1 ≤ t w - t u := by omega
      have := Int.mul_le_mul_of_nonneg_left h4 he
      rw [Int.mul_one] at this
      exact this
    · rw [if_neg hp]
      exact Int.mul_nonneg he (by omega)
  have := hc w hwn
  unfold ap at this
  have h5 : gf l w = getI l (w : Int) := rfl
  omega
theorem sum_perm {b : List (List Int)} {l O : List Int} (hO : O.length = b.length) (hk : ∀ k : Nat, k < b.length → OkAt b l O k) (f : Nat → Int) : sumTo (fun k => f (getI O (k : Int)).toNat) b.length = sumTo f b.length := by
  have hs := preS_sum (O := O) (n := b.length) (fun u => f u.toNat) (k := b.length) (by omega) fun j hj => ⟨(hk j hj).1, (hk j hj).2.1⟩
  rw [← hs]
  have hnd : ((List.range b.length).map fun k => (getI O ((k : Nat) : Int)).toNat).Nodup := by
    rw [List.nodup_iff_pairwise_ne, List.pairwise_map]
    refine (List.pairwise_iff_getElem).2 fun i j hi hj hij => ?_
    simp only [List.length_range] at hi hj
    simp only [List.getElem_range]
    have a := (hk j hj).2.1 i hij
    have c := (hk i hi).1
    have d := (hk j hj).1
    omega
  refine sumTo_congr fun v hv => ?_
  have : preS O b.length v = true := by
    apply Classical.byContradiction
    intro hno
    have hm : ¬ (v : Int) ∈ O.take b.length := by simpa [preS] using hno
    have hnd2 : (v :: ((List.range b.length).map fun k => (getI O ((k : Nat) : Int)).toNat)).Nodup := List.nodup_cons.2 ⟨fun hmem => by
      obtain ⟨k, hkm, e⟩ := List.mem_map.1 hmem
      have hkn := List.mem_range.1 hkm
      have := (hk k hkn).1
      exact hm ((mem_take (by omega)).2 ⟨k, hkn, by omega⟩), hnd⟩
    have := nodup_len hnd2 (l2 := List.range b.length) fun w hw => by
      rcases List.mem_cons.1 hw with rfl | hw
      · exact List.mem_range.2 hv
      · obtain ⟨k, hkm, rfl⟩ := List.mem_map.1 hw
        have := (hk k (List.mem_range.1 hkm)).1
        exact List.mem_range.2 (by omega)
    simp at this
    omega
  rw [if_pos this, Int.toNat_natCast]
/-- twice the sum over earlier pairs is the sum over all pairs -/
theorem tri {F : Nat → Nat → Int} : ∀ {n : Nat}, (∀ i j, i < n → j < n → F i j = F j i) → (∀ i, i < n → F i i = 0) → 2 * sumTo (fun k => sumTo (fun j => F k j) k) n = sumTo (fun k => sumTo (fun j => F k j) n) n
  | 0, _, _ => rfl
  | n + 1, hs, hz => by
    have ih := tri (F := F) (n := n) (fun i j hi hj => hs i j (by omega) (by omega)) fun i hi => hz i (by omega)
    have e1 : sumTo (fun k => sumTo (fun j => F k j) (n + 1)) n = sumTo (fun k => sumTo (fun j => F k j) n) n + sumTo (fun k => F k n) n := by rw [← sumTo_add]; rfl
    have e2 : sumTo (fun k => F k n) n = sumTo (fun j => F n j) n := sumTo_congr fun k hk => hs k n (by omega) (by omega)
    have e3 := hz n (by omega)
    simp only [sumTo] at e1 ⊢
    rw [e1, e2, e3]
    omega
def degs (b : List (List Int)) : Int := sumTo (fun v => deg b.length (ed b) v) b.length
/-- a list that burns all has a small sum -/
theorem ok_sum {b : List (List Int)} (hB : IsB b) {l O : List Int} (hO : O.length = b.length) (hk : ∀ k : Nat, k < b.length → OkAt b l O k) : 2 * sumTo (gf l) b.length + 2 * b.length ≤ degs b := by
  have g := gr_of hB
  have h1 := sum_perm hO hk (gf l)
  have h2 : sumTo (fun k => gf l (getI O (k : Int)).toNat) b.length ≤ sumTo (fun k => sumTo (fun j => ed b (getI O (k : Int)).toNat (getI O (j : Int)).toNat) k - 1) b.length := sumTo_mono fun k hkn => by
    obtain ⟨a, c, d⟩ := hk k hkn
    have e : gf l (getI O (k : Int)).toNat = getI l (getI O (k : Int)) := by unfold gf; rw [Int.toNat_of_nonneg a.1]
    have e2 : sumTo (fun j => getI (getLL b (getI O (k : Int))) (getI O (j : Int))) k = sumTo (fun j => ed b (getI O (k : Int)).toNat (getI O (j : Int)).toNat) k := sumTo_congr fun j hj => by
      have := (hk j (by omega)).1
      unfold ed
      rw [Int.toNat_of_nonneg a.1, Int.toNat_of_nonneg this.1]
    try dsimp only
    omega
  have h3 : sumTo (fun k => sumTo (fun j => ed b (getI O (k : Int)).toNat (getI O (j : Int)).toNat) k - 1) b.length = sumTo (fun k => sumTo (fun j => ed b (getI O (k : Int)).toNat (getI O (j : Int)).toNat) k) b.length - sumTo (fun _ => 1) b.length := sumTo_sub _ _ _
  have h4 : ∀ n : Nat, sumTo (fun _ => (1 : Int)) n = n := fun n => by
    induction n with
    | zero => rfl
    | succ n ih => simp only [sumTo, ih]; omega
  have h5 := tri (F := fun k j => ed b (getI O ((k : Nat) : Int)).toNat (getI O ((j : Nat) : Int)).toNat) (n := b.length) (fun i j hi hj => by
    have a := (hk i hi).1
    have c := (hk j hj).1
    exact g.sy _ _ (by omega) (by omega)) (fun i hi => by
    have a := (hk i hi).1
    have := (hB.ed (getI O (i : Int)).toNat (getI O (i : Int)).toNat (by omega) (by omega)).2.2 rfl
    exact this)
  have h6 : sumTo (fun k => sumTo (fun j => ed b (getI O ((k : Nat) : Int)).toNat (getI O ((j : Nat) : Int)).toNat) b.length) b.length = degs b := by
    have e1 : ∀ k, sumTo (fun j => ed b (getI O ((k : Nat) : Int)).toNat (getI O ((j : Nat) : Int)).toNat) b.length = deg b.length (ed b) (getI O ((k : Nat) : Int)).toNat := fun k => sum_perm hO hk (fun u => ed b (getI O ((k : Nat) : Int)).toNat u)
    rw [show (fun k => sumTo (fun j => ed b (getI O ((k : Nat) : Int)).toNat (getI O ((j : Nat) : Int)).toNat) b.length) = fun k => deg b.length (ed b) (getI O ((k : Nat) : Int)).toNat from funext e1]
    exact sum_perm hO hk (fun v => deg b.length (ed b) v)
  rw [h4] at h3
  omega
/-- the order of what is not won -/
theorem ord_ok {b : List (List Int)} (hB : IsB b) {s : List Int} (hs : InR b.length 1048576 s) (hw : wonB b s = false) : ∀ k : Nat, k < b.length → OkAt b (redL b s 0) (ordB b s) k := by
  have h := win_right hB hs
  rw [hw] at h
  obtain ⟨-, ⟨h1, -⟩ | ⟨-, -, h2⟩⟩ := h
  · cases h1
  · exact h2
theorem sum_apl {b : List (List Int)} (hB : IsB b) (s t : List Int) : sumTo (gf (apl b s t)) b.length = sumTo (gf s) b.length := by
  rw [← ap_sum (gr_of hB) (gf s) (gf t)]
  exact sumTo_congr fun v hv => apl_ap hB s t hv
theorem won_sum {b : List (List Int)} (hB : IsB b) {s : List Int} (hs : InR b.length 1048576 s) : (degs b < 2 * sumTo (gf s) b.length + 2 * b.length → wonB b s = true) ∧ (sumTo (gf s) b.length < 0 → wonB b s = false) := by
  have hq : 0 < b.length := hB.n1
  have hsum : sumTo (gf (redL b s 0)) b.length = sumTo (gf s) b.length := sum_apl hB s _
  constructor
  · intro h
    cases hw : wonB b s with
    | true => rfl
    | false =>
      have := ok_sum hB (ordB_len hB s) (ord_ok hB hs hw)
      omega
  · intro h
    cases hw : wonB b s with
    | false => rfl
    | true =>
      exfalso
      have h0 : 0 ≤ getI (redL b s 0) ((0 : Nat) : Int) := by unfold wonB at hw; simpa using hw
      have hr := redL_red hB s hq
      have : 0 ≤ sumTo (gf (redL b s 0)) b.length := sumTo_nn fun v hv => by
        by_cases e : v = 0
        · subst e; exact h0
        · exact hr.1 v hv e
      omega
end Go.AM.Ch

set_option linter.unusedSectionVars false
set_option linter.unusedVariables false
set_option linter.unusedSimpArgs false
namespace Go.AM.Ch
set_option maxHeartbeats 4000000
/-! ### ranks -/
/-- the rank: as many can be taken away -/
def IsRk (b : List (List Int)) (s : List Int) (r : Int) : Prop :=
  -1 ≤ r ∧ (∀ k : Nat, (k : Int) ≤ r → (k : Int) ≤ sumTo (gf s) b.length ∧ ¬ Ls b k (redL b s 0) 0) ∧ (sumTo (gf s) b.length ≤ r ∨ Ls b (r + 1).toNat (redL b s 0) 0)
theorem IsRk.uniq {b : List (List Int)} {s : List Int} {r r' : Int} (h : IsRk b s r) (h' : IsRk b s r') : r = r' := by
  have key : ∀ {r r' : Int}, IsRk b s r → IsRk b s r' → ¬ r < r' := fun {r r'} h h' hlt => by
    obtain ⟨h1, -, h2⟩ := h
    obtain ⟨-, h3, -⟩ := h'
    obtain ⟨a, c⟩ := h3 (r + 1).toNat (by omega)
    rcases h2 with h2 | h2
    · omega
    · exact c h2
  have a := key h h'
  have c := key h' h
  omega
theorem sum_set {l : List Int} {n v : Nat} (hl : l.length = n) (hv : v < n) (a : Int) : sumTo (gf (l.set v (getI l (v : Int) - a))) n = sumTo (gf l) n - a := by
  have e : sumTo (gf (l.set v (getI l (v : Int) - a))) n = sumTo (fun i => gf l i + (if (i : Int) = (v : Int) then -a else 0)) n := sumTo_congr fun i hi => by
    show getI (l.set v _) (i : Int) = _
    rw [getI_set (by omega)]
    unfold gf
    by_cases h : i = v
    · subst h; rw [if_pos rfl, if_pos rfl]; omega
    · rw [if_neg h, if_neg (by omega), Int.add_zero]
  rw [e, sumTo_add, sumTo_unit, if_pos hv]
  omega
/-- what loses leads to a list that is not won -/
theorem ls_to {b : List (List Int)} : ∀ {k : Nat} {l : List Int} {fr : Nat}, Ls b k l fr → l.length = b.length →
    ∃ l' : List Int, l'.length = b.length ∧ sumTo (gf l') b.length = sumTo (gf l) b.length - k ∧ (∀ v : Nat, v < b.length → getI l (v : Int) - k ≤ getI l' (v : Int) ∧ getI l' (v : Int) ≤ getI l (v : Int)) ∧ getI (redL b l' 0) 0 < 0
  | 0, l, fr, h, hl => ⟨l, hl, by omega, fun v hv => by omega, h⟩
  | k + 1, l, fr, ⟨v, h1, h2, h3⟩, hl => by
    obtain ⟨l', a1, a2, a3, a4⟩ := ls_to h3 (by simp [hl])
    rw [sum_set hl h2] at a2
    refine ⟨l', a1, by omega, fun u hu => ?_, a4⟩
    have := a3 u hu
    rw [getI_set (by omega)] at this
    split at this
    · rename_i e; subst e; omega
    · omega
theorem ex_pos {e : Nat → Int} {n : Nat} (h : ∀ v, v < n → 0 ≤ e v) (hs : 0 < sumTo e n) : ∃ v, v < n ∧ 0 < e v ∧ ∀ u, u < v → e u = 0 := by
  have key : ∀ k, k ≤ n → (∃ v, v < k ∧ 0 < e v ∧ ∀ u, u < v → e u = 0) ∨ ∀ u, u < k → e u = 0 := fun k => by
    induction k with
    | zero => intro _; exact .inr fun u hu => by omega
    | succ k ih =>
      intro hk
      rcases ih (by omega) with ⟨v, h1, h2⟩ | h1
      · exact .inl ⟨v, by omega, h2⟩
      · have := h k (by omega)
        by_cases e0 : e k = 0
        · refine .inr fun u hu => ?_
          rcases (by omega : u < k ∨ u = k) with h2 | rfl
          · exact h1 u h2
          · exact e0
        · exact .inl ⟨k, by omega, by omega, h1⟩
  rcases key n (Nat.le_refl _) with ⟨v, h1, h2⟩ | h1
  · exact ⟨v, h1, h2⟩
  · have e1 : sumTo e n = sumTo (fun _ => 0) n := sumTo_congr h1
    rw [e1, sumTo_zero] at hs
    omega
/-- chips that can be taken away so that what remains is not won -/
theorem ls_of {b : List (List Int)} : ∀ {k : Nat} {l l' : List Int} {fr : Nat} {e : Nat → Int}, l.length = b.length → l'.length = b.length → (∀ v, v < b.length → 0 ≤ e v) → (∀ v, v < fr → e v = 0) → sumTo e b.length = k →
    (∀ v : Nat, v < b.length → getI l' (v : Int) = getI l (v : Int) - e v) → getI (redL b l' 0) 0 < 0 → Ls b k l fr
  | 0, l, l', fr, e, hl, hl', h0, hf, hs, hg, hr => by
    have : l' = l := ext_getI (by omega) fun i hi => by
      have := hg i (by omega)
      have := sumTo_term h0 (k := i) (by omega)
      have := h0 i (by omega)
      omega
    rw [this] at hr
    exact hr
  | k + 1, l, l', fr, e, hl, hl', h0, hf, hs, hg, hr => by
    obtain ⟨v, hv, hp, hz⟩ := ex_pos h0 (by omega)
    refine ⟨v, ?_, hv, ?_⟩
    · rcases Nat.lt_or_ge v fr with h | h
      · have := hf v h; omega
      · exact h
    · refine ls_of (e := fun u => e u + (if (u : Int) = (v : Int) then -1 else 0)) (by simp [hl]) hl' (fun u hu => ?_) (fun u hu => ?_) ?_ (fun u hu => ?_) hr
      · have := h0 u hu
        split
        · rename_i h; have : u = v := by omega
          subst this; omega
        · omega
      · rw [if_neg (by omega), hz u hu]
        rfl
      · rw [sumTo_add, sumTo_unit, if_pos hv, hs]
        omega
      · rw [getI_set (by omega), hg u hu]
        by_cases h : u = v
        · subst h; rw [if_pos rfl, if_pos rfl]; omega
        · rw [if_neg h, if_neg (by omega)]; omega
theorem degs_even {b : List (List Int)} (hB : IsB b) : ∃ h : Int, degs b = 2 * h :=
  ⟨_, (tri (F := fun k j => ed b k j) (n := b.length) (fun i j hi hj => (gr_of hB).sy i j hi hj) fun i hi => (hB.ed i i hi hi).2.2 rfl).symm⟩
/-- the greatest numbers that burn in an order -/
theorem nu_of {b : List (List Int)} (hB : IsB b) {O : List Int} (hO : O.length = b.length) (hk : ∀ k : Nat, k < b.length → (0 ≤ getI O (k : Int) ∧ getI O (k : Int) < b.length) ∧ ∀ j : Nat, j < k → getI O (j : Int) ≠ getI O (k : Int)) :
    ∃ N : List Int, N.length = b.length ∧ (∀ k : Nat, k < b.length → getI N (getI O (k : Int)) = sumTo (fun j => ed b (getI O (k : Int)).toNat (getI O (j : Int)).toNat) k - 1) ∧ 2 * sumTo (gf N) b.length + 2 * b.length = degs b ∧ (∀ v : Nat, v < b.length → -1 ≤ getI N (v : Int) ∧ getI N (v : Int) ≤ 36) ∧ ∀ k : Nat, k < b.length → OkAt b N O k := by
  have hn1 := hB.n1
  -- where a place is in the order
  have hinj : ∀ i j : Nat, i < b.length → j < b.length → getI O (i : Int) = getI O (j : Int) → i = j := fun i j hi hj e => by
    rcases (by omega : i < j ∨ i = j ∨ j < i) with h | h | h
    · exact absurd e ((hk j hj).2 i h)
    · exact h
    · exact absurd e.symm ((hk i hi).2 j h)
  let val : Nat → Int := fun k => sumTo (fun j => ed b (getI O (k : Int)).toNat (getI O (j : Int)).toNat) k - 1
  have hpos : ∃ P : Nat → Nat, (∀ v, P v < b.length) ∧ ∀ k : Nat, k < b.length → P (getI O (k : Int)).toNat = k := by
    classical
    refine ⟨fun v => if h : ∃ k : Nat, k < b.length ∧ (getI O (k : Int)).toNat = v then h.choose else 0, fun v => ?_, fun k hkn => ?_⟩
    · dsimp only
      split
      · rename_i h; exact h.choose_spec.1
      · omega
    have hex : ∃ k' : Nat, k' < b.length ∧ (getI O (k' : Int)).toNat = (getI O (k : Int)).toNat := ⟨k, hkn, rfl⟩
    dsimp only
    rw [dif_pos hex]
    obtain ⟨h1, h2⟩ := hex.choose_spec
    have a := (hk _ h1).1
    have c := (hk k hkn).1
    exact hinj _ _ h1 hkn (by omega)
  obtain ⟨P, hPn, hP⟩ := hpos
  let N : List Int := (List.range b.length).map fun v => val (P v)
  have hNl : N.length = b.length := by simp [N]
  have hNg : ∀ v : Nat, v < b.length → gf N v = val (P v) := fun v hv => by
    show getI _ _ = _
    rw [getI_nat]; simp [N, List.getD, hv]
  have hNk : ∀ k : Nat, k < b.length → getI N (getI O (k : Int)) = val k := fun k hkn => by
    have a := (hk k hkn).1
    have := hNg (getI O (k : Int)).toNat (by omega)
    rw [hP k hkn] at this
    unfold gf at this
    rw [Int.toNat_of_nonneg a.1] at this
    exact this
  have hok : ∀ k : Nat, k < b.length → OkAt b N O k := fun k hkn => by
    obtain ⟨a, c⟩ := hk k hkn
    refine ⟨a, c, ?_⟩
    rw [hNk k hkn]
    have e2 : sumTo (fun j => getI (getLL b (getI O (k : Int))) (getI O (j : Int))) k = sumTo (fun j => ed b (getI O (k : Int)).toNat (getI O (j : Int)).toNat) k := sumTo_congr fun j hj => by
      have := (hk j (by omega)).1
      unfold ed
      rw [Int.toNat_of_nonneg a.1, Int.toNat_of_nonneg this.1]
    rw [e2]
    show _ - 1 < _
    omega
  have hNb : ∀ v : Nat, v < b.length → -1 ≤ getI N (v : Int) ∧ getI N (v : Int) ≤ 36 := fun v hv => by
    have e : getI N (v : Int) = val (P v) := hNg v hv
    have hp := hPn v
    rw [e]
    have g := gr_of hB
    have hn := g.sz
    have hin : ∀ j, j < P v → 0 ≤ ed b (getI O ((P v : Nat) : Int)).toNat (getI O (j : Int)).toNat ∧ ed b (getI O ((P v : Nat) : Int)).toNat (getI O (j : Int)).toNat ≤ 3 := fun j hj => by
      have a := (hk _ hp).1
      have c := (hk j (by omega)).1
      exact ⟨g.nn _ _ (by omega) (by omega), g.le _ _ (by omega) (by omega)⟩
    have h1 := sumTo_nn fun j hj => (hin j hj).1
    have h2 := sumTo_le (M := 3) (n := P v) (f := fun j => ed b (getI O ((P v : Nat) : Int)).toNat (getI O (j : Int)).toNat) fun j hj => by have := hin j hj; omega
    show -1 ≤ _ - 1 ∧ _ - 1 ≤ 36
    omega
  refine ⟨N, hNl, hNk, ?_, hNb, hok⟩
  have h1 := sum_perm hO hok (gf N)
  have h2 : sumTo (fun k => gf N (getI O (k : Int)).toNat) b.length = sumTo (fun k => sumTo (fun j => ed b (getI O (k : Int)).toNat (getI O (j : Int)).toNat) k - 1) b.length := sumTo_congr fun k hkn => by
    have a := (hk k hkn).1
    have := hNk k hkn
    unfold gf
    rw [Int.toNat_of_nonneg a.1]
    exact this
  have h3 : sumTo (fun k => sumTo (fun j => ed b (getI O (k : Int)).toNat (getI O (j : Int)).toNat) k - 1) b.length = sumTo (fun k => sumTo (fun j => ed b (getI O (k : Int)).toNat (getI O (j : Int)).toNat) k) b.length - sumTo (fun _ => 1) b.length := sumTo_sub _ _ _
  have h4 : ∀ n : Nat, sumTo (fun _ => (1 : Int)) n = n := fun n => by
    induction n with
    | zero => rfl
    | succ n ih => simp only [sumTo, ih]; omega
  have h5 := tri (F := fun k j => ed b (getI O ((k : Nat) : Int)).toNat (getI O ((j : Nat) : Int)).toNat) (n := b.length) (fun i j hi hj => by
    have a := (hk i hi).1
    have c := (hk j hj).1
    exact (gr_of hB).sy _ _ (by omega) (by omega)) (fun i hi => by
    have a := (hk i hi).1
    exact (hB.ed (getI O (i : Int)).toNat (getI O (i : Int)).toNat (by omega) (by omega)).2.2 rfl)
  have h6 : sumTo (fun k => sumTo (fun j => ed b (getI O ((k : Nat) : Int)).toNat (getI O ((j : Nat) : Int)).toNat) b.length) b.length = degs b := by
    have e1 : ∀ k, sumTo (fun j => ed b (getI O ((k : Nat) : Int)).toNat (getI O ((j : Nat) : Int)).toNat) b.length = deg b.length (ed b) (getI O ((k : Nat) : Int)).toNat := fun k => sum_perm hO hok (fun u => ed b (getI O ((k : Nat) : Int)).toNat u)
    rw [show (fun k => sumTo (fun j => ed b (getI O ((k : Nat) : Int)).toNat (getI O ((j : Nat) : Int)).toNat) b.length) = fun k => deg b.length (ed b) (getI O ((k : Nat) : Int)).toNat from funext e1]
    exact sum_perm hO hok (fun v => deg b.length (ed b) v)
  rw [h4] at h3
  omega
/-- a list that is of no value without debts, with the greatest sum -/
theorem nu_ex {b : List (List Int)} (hB : IsB b) : ∃ N : List Int, N.length = b.length ∧ 2 * sumTo (gf N) b.length + 2 * b.length = degs b ∧ (∀ v : Nat, v < b.length → -1 ≤ getI N (v : Int) ∧ getI N (v : Int) ≤ 36) ∧ ∀ t, ¬ ∀ v, v < b.length → 0 ≤ ap b.length (ed b) (gf N) t v := by
  have hn1 := hB.n1
  have hin : InR b.length 1048576 (List.replicate b.length (-1)) := ⟨by simp, fun v hv => by have := (List.mem_replicate.1 hv).2; omega⟩
  have h4 : ∀ n : Nat, sumTo (fun _ => (-1 : Int)) n = -n := fun n => by
    induction n with
    | zero => rfl
    | succ n ih => simp only [sumTo, ih]; omega
  have hsum : sumTo (gf (List.replicate b.length (-1))) b.length = -b.length := by
    rw [← h4]
    exact sumTo_congr fun v hv => by show getI _ _ = _; rw [getI_nat]; simp [List.getD, hv]
  have hw := (won_sum hB hin).2 (by omega)
  have hk := ord_ok hB hin hw
  have hO := ordB_len hB (List.replicate b.length (-1))
  generalize ordB b (List.replicate b.length (-1)) = O at *
  generalize redL b (List.replicate b.length (-1)) 0 = R at *
  obtain ⟨N, h1, h2, h3, h4, h5⟩ := nu_of hB hO fun k hkn => ⟨(hk k hkn).1, (hk k hkn).2.1⟩
  exact ⟨N, h1, h3, h4, no_eff hB hO h5⟩
/-- the difference of two lists -/
def mi (a c : List Int) : List Int := (List.range a.length).map fun (v : Nat) => getI a (v : Int) - getI c (v : Int)
theorem mi_len (a c : List Int) : (mi a c).length = a.length := by simp [mi]
theorem mi_get {a c : List Int} {i : Nat} (h : i < a.length) : getI (mi a c) (i : Int) = getI a (i : Int) - getI c (i : Int) := by
  rw [getI_nat]; simp [mi, List.getD, h]
theorem genus_nn {b : List (List Int)} (hB : IsB b) : 2 * (b.length : Int) - 2 ≤ degs b := by
  have hn1 := hB.n1
  have hl : ((List.replicate b.length (0 : Int)).set 0 (getI (List.replicate b.length (0 : Int)) ((0 : Nat) : Int) - 1)).length = b.length := by simp
  have h0 : ∀ v : Nat, v < b.length → getI (List.replicate b.length (0 : Int)) (v : Int) = 0 := fun v hv => by rw [getI_nat]; simp [List.getD, hv]
  have hs : sumTo (gf (List.replicate b.length (0 : Int))) b.length = 0 := (sumTo_congr h0).trans (sumTo_zero _)
  have hsum := sum_set (l := List.replicate b.length (0 : Int)) (n := b.length) (v := 0) (by simp) (by omega) 1
  have hin : InR b.length 1048576 ((List.replicate b.length (0 : Int)).set 0 (getI (List.replicate b.length (0 : Int)) ((0 : Nat) : Int) - 1)) := ⟨hl, fun v hv => by
    rw [h0 0 (by omega)] at hv
    rcases List.mem_or_eq_of_mem_set hv with h | h
    · have := (List.mem_replicate.1 h).2; omega
    · omega⟩
  generalize (List.replicate b.length (0 : Int)).set 0 (getI (List.replicate b.length (0 : Int)) ((0 : Nat) : Int) - 1) = L at *
  have hw := (won_sum hB hin).2 (by omega)
  have h1 := ok_sum hB (ordB_len hB L) (ord_ok hB hin hw)
  have h2 : sumTo (gf (redL b L 0)) b.length = sumTo (gf L) b.length := sum_apl hB L _
  omega
/-- a reduced list that is won has no debt -/
theorem won_nn {b : List (List Int)} (hB : IsB b) {l : List Int} (h : 0 ≤ getI (redL b l 0) 0) : ∀ v, v < b.length → 0 ≤ gf (redL b l 0) v := fun v hv => by
  by_cases e : v = 0
  · subst e; exact h
  · exact (redL_red hB l hB.n1).1 v hv e
/-- all that is left of the sum above the genus -/
theorem rank_high {b : List (List Int)} (hB : IsB b) {s : List Int} (hs12 : sumTo (gf s) b.length ≤ 12) (h : sumTo (gf s) b.length > 2 * (degs b / 2 - b.length + 1) - 2) :
    IsRk b s (if -1 > sumTo (gf s) b.length - (degs b / 2 - b.length + 1) then -1 else sumTo (gf s) b.length - (degs b / 2 - b.length + 1)) := by
  have hn1 := hB.n1; have hn2 := hB.n2
  have g := gr_of hB
  have hq : 0 < b.length := hn1
  obtain ⟨N, hN1, hN2, hN4, hN3⟩ := nu_ex hB
  obtain ⟨hh, hev⟩ := degs_even hB
  have hrs : sumTo (gf (redL b s 0)) b.length = sumTo (gf s) b.length := sum_apl hB s _
  have hr := redL_red hB s hq
  have hrl := redL_len b s 0
  have hgn := genus_nn hB
  have hs1 : -1048576 ≤ sumTo (gf s) b.length ∧ sumTo (gf s) b.length ≤ 12 := by omega
  clear hs12
  unfold IsRk
  generalize redL b s 0 = R at *
  -- the numbers of the reduced list
  have hRo : ∀ v : Nat, v < b.length → v ≠ 0 → 0 ≤ getI R (v : Int) ∧ getI R (v : Int) < 36 := fun v hv h0 => by
    have := red_lt g hr hv h0
    have e : gf R v = getI R (v : Int) := rfl
    omega
  have hR0 : -1100000 ≤ getI R ((0 : Nat) : Int) ∧ getI R ((0 : Nat) : Int) ≤ 12 := by
    have e := sum_set (l := R) (n := b.length) (v := 0) hrl hq (getI R ((0 : Nat) : Int))
    have h1 := sumTo_nn (f := gf (R.set 0 (getI R ((0 : Nat) : Int) - getI R ((0 : Nat) : Int)))) (n := b.length) fun v hv => by
      show 0 ≤ getI _ (v : Int)
      rw [getI_set (by omega)]
      by_cases h0 : v = 0
      · rw [if_pos h0]; omega
      · rw [if_neg h0]; exact (hRo v hv h0).1
    have h2 := sumTo_le (f := gf (R.set 0 (getI R ((0 : Nat) : Int) - getI R ((0 : Nat) : Int)))) (M := 36) (n := b.length) fun v hv => by
      show -36 ≤ getI _ (v : Int) ∧ getI _ (v : Int) ≤ 36
      rw [getI_set (by omega)]
      by_cases h0 : v = 0
      · rw [if_pos h0]; omega
      · rw [if_neg h0]; have := hRo v hv h0; omega
    omega
  have hRa : ∀ v : Nat, v < b.length → -1100000 ≤ getI R (v : Int) ∧ getI R (v : Int) ≤ 36 := fun v hv => by
    by_cases h0 : v = 0
    · subst h0; omega
    · have := hRo v hv h0; omega
  have hRlow : ∀ v : Nat, v < b.length → -1000 ≤ getI R (v : Int) := fun v hv => by
    by_cases h0 : v = 0
    · subst h0
      have e := sum_set (l := R) (n := b.length) (v := 0) hrl hq (getI R ((0 : Nat) : Int))
      have h2 := sumTo_le (f := gf (R.set 0 (getI R ((0 : Nat) : Int) - getI R ((0 : Nat) : Int)))) (M := 36) (n := b.length) fun v hv => by
        show -36 ≤ getI _ (v : Int) ∧ getI _ (v : Int) ≤ 36
        rw [getI_set (by omega)]
        by_cases h0 : v = 0
        · rw [if_pos h0]; omega
        · rw [if_neg h0]; have := hRo v hv h0; omega
      omega
    · have := hRo v hv h0; omega
  have inr : ∀ l : List Int, l.length = b.length → (∀ v : Nat, v < b.length → -1048576 ≤ getI l (v : Int) ∧ getI l (v : Int) ≤ 1048576) → InR b.length 1048576 l := fun l hl hb => ⟨hl, fun v hv => by
    obtain ⟨k, hk, e⟩ := List.getElem_of_mem hv
    have := hb k (by omega)
    rw [getI_nat] at this
    simpa [List.getD, hk, e] using this⟩
  rw [← hrs] at h hs1 ⊢
  clear hrs
  generalize hS : sumTo (gf R) b.length = S at *
  generalize hGG : degs b / 2 - b.length + 1 = G at *
  have hG0 : 0 ≤ G := by omega
  rw [if_neg (show ¬ -1 > S - G by omega)]
  refine ⟨by omega, fun k hk => ⟨by omega, fun hL => ?_⟩, ?_⟩
  · obtain ⟨l', a1, a2, a3, a4⟩ := ls_to hL hrl
    have hin := inr l' a1 fun v hv => by have := a3 v hv; have := hRa v hv; have := hRlow v hv; omega
    have hw := (won_sum hB hin).1 (by omega)
    unfold wonB at hw
    have : 0 ≤ getI (redL b l' 0) ((0 : Nat) : Int) := by simpa using hw
    exact absurd a4 (by simpa using this)
  · by_cases hGz : G = 0
    · left; omega
    · right
      have hdl : (mi R N).length = b.length := by rw [mi_len]; exact hrl
      have hdg : ∀ v : Nat, v < b.length → getI (mi R N) (v : Int) = getI R (v : Int) - getI N (v : Int) := fun v hv => mi_get (by omega)
      have hds : sumTo (gf (mi R N)) b.length = S - sumTo (gf N) b.length := by
        rw [← hS, ← sumTo_sub]
        exact sumTo_congr hdg
      have hin := inr (mi R N) hdl fun v hv => by have := hdg v hv; have := hN4 v hv; have := hRa v hv; have := hRlow v hv; omega
      have hw := (won_sum hB hin).1 (by omega)
      unfold wonB at hw
      have hE := won_nn hB (l := mi R N) (by simpa using hw)
      have hEs : sumTo (gf (redL b (mi R N) 0)) b.length = sumTo (gf (mi R N)) b.length := sum_apl hB _ _
      have hel := redL_len b (mi R N) 0
      have hml : (mi R (redL b (mi R N) 0)).length = b.length := by rw [mi_len]; exact hrl
      have hmg : ∀ v : Nat, v < b.length → getI (mi R (redL b (mi R N) 0)) (v : Int) = getI R (v : Int) - gf (redL b (mi R N) 0) v := fun v hv => mi_get (by omega)
      refine ls_of (k := (S - G + 1).toNat) (l' := mi R (redL b (mi R N) 0)) (e := gf (redL b (mi R N) 0)) hrl hml hE (fun v hv => by omega) (by rw [hEs, hds]; omega) hmg ?_
      apply Classical.byContradiction
      intro hno
      have hz := won_nn hB (l := mi R (redL b (mi R N) 0)) (by omega)
      refine hN3 (fun j => gf (redT b (mi R (redL b (mi R N) 0)) 0) j + (- gf (redT b (mi R N) 0) j)) fun v hv => ?_
      have h1 := hz v hv
      have e2 : gf (redL b (mi R (redL b (mi R N) 0)) 0) v = ap b.length (ed b) (gf (mi R (redL b (mi R N) 0))) (gf (redT b (mi R (redL b (mi R N) 0)) 0)) v := apl_ap hB _ _ hv
      have e1 : gf (redL b (mi R N) 0) v = ap b.length (ed b) (gf (mi R N)) (gf (redT b (mi R N) 0)) v := apl_ap hB _ _ hv
      have e3 := hmg v hv
      have e4 := hdg v hv
      have e5 : gf N v = getI N (v : Int) := rfl
      unfold ap at e1 e2 ⊢
      rw [net_add, net_neg]
      have e6 : gf (mi R (redL b (mi R N) 0)) v = getI (mi R (redL b (mi R N) 0)) (v : Int) := rfl
      have e7 : gf (mi R N) v = getI (mi R N) (v : Int) := rfl
      omega
end Go.AM.Ch

set_option linter.unusedSectionVars false
set_option linter.unusedVariables false
set_option linter.unusedSimpArgs false
namespace Go.AM.Ch
attribute [local go_sem] gc subHeap reach_skip ren_free reach_new reach_newp reach_end rangeL roots boxCells nodupB posOf renL AV.ren pickO renH renO looks look bindEnv envOf reach_int reach_bool reach_nilS reach_rd putRow cells_sl cells_int cells_bool cells_nilS cells_rd cells_agg reach_agg reach_tup idFreeL idf_sl idf_ptr idf_int idf_bool idf_nilS idf_rd reach_fn reach_mp cells_fn cells_ptr cells_mp idf_mp idf_fn idf_agg idf_tup
set_option maxHeartbeats 8000000
/-- twice a list plus another one, many times -/
def pl2 (a c : List Int) (k : Int) : List Int := (List.range a.length).map fun (i : Nat) => 2 * getI a (i : Int) + k * getI c (i : Int)
theorem pl2_len (a c : List Int) (k : Int) : (pl2 a c k).length = a.length := by simp [pl2]
theorem pl2_get {a c : List Int} {k : Int} {i : Nat} (h : i < a.length) : getI (pl2 a c k) (i : Int) = 2 * getI a (i : Int) + k * getI c (i : Int) := by
  rw [getI_nat]
  simp [pl2, List.getD, h]
/-! the upper digits of a number -/
def topZ (a : Int) (j : Nat) : Int := if a < 0 then -((a.natAbs / 2 ^ j : Nat) : Int) else ((a.natAbs / 2 ^ j : Nat) : Int)
def digZ (a : Int) (j : Nat) : Int := if a < 0 then -((a.natAbs / 2 ^ j % 2 : Nat) : Int) else ((a.natAbs / 2 ^ j % 2 : Nat) : Int)
theorem topZ_big {a : Int} (h : -1048576 ≤ a ∧ a ≤ 1048576) : topZ a 41 = 0 := by
  have e : (2 : Nat) ^ 41 = 2199023255552 := by decide
  have : a.natAbs / 2 ^ 41 = 0 := Nat.div_eq_of_lt (by rw [e]; omega)
  unfold topZ
  rw [this]
  split <;> rfl
theorem topZ_le {a : Int} (h : -1048576 ≤ a ∧ a ≤ 1048576) (j : Nat) : -1048576 ≤ topZ a j ∧ topZ a j ≤ 1048576 := by
  have h1 : a.natAbs / 2 ^ j ≤ a.natAbs := Nat.div_le_self _ _
  have h2 : a.natAbs ≤ 1048576 := by omega
  unfold topZ
  generalize a.natAbs / 2 ^ j = N at *
  split <;> omega
theorem digZ_le (a : Int) (j : Nat) : -1 ≤ digZ a j ∧ digZ a j ≤ 1 := by
  unfold digZ
  generalize a.natAbs / 2 ^ j = N at *
  split <;> omega
def topL (s : List Int) (j : Nat) : List Int := s.map fun a => topZ a j
def digL (s : List Int) (j : Nat) : List Int := s.map fun a => digZ a j
theorem topL_get {s : List Int} {j v : Nat} (h : v < s.length) : getI (topL s j) (v : Int) = topZ (getI s (v : Int)) j := by
  rw [getI_nat, getI_nat]; simp [topL, List.getD, h]
theorem digL_get {s : List Int} {j v : Nat} (h : v < s.length) : getI (digL s j) (v : Int) = digZ (getI s (v : Int)) j := by
  rw [getI_nat, getI_nat]; simp [digL, List.getD, h]
end Go.AM.Ch

set_option linter.unusedSectionVars false
set_option linter.unusedVariables false
set_option linter.unusedSimpArgs false
namespace Go.AM.Ch
attribute [local go_sem] gc subHeap reach_skip ren_free reach_new reach_newp reach_end rangeL roots boxCells nodupB posOf renL AV.ren pickO renH renO looks look bindEnv envOf reach_int reach_bool reach_nilS reach_rd putRow cells_sl cells_int cells_bool cells_nilS cells_rd cells_agg reach_agg reach_tup idFreeL idf_sl idf_ptr idf_int idf_bool idf_nilS idf_rd reach_fn reach_mp cells_fn cells_ptr cells_mp idf_mp idf_fn idf_agg idf_tup
set_option maxHeartbeats 8000000
/-- what is known of the list of the upper digits -/
structure DigOk (b : List (List Int)) (s : List Int) (q j : Nat) (N : List Int) : Prop where
  len : N.length = b.length
  eqv : ∃ T : List Int, T.length = b.length ∧ N = apl b (topL s j) T
  red : j < 41 → Red b.length (ed b) q (gf N)
  low : ∀ v, v < b.length → v ≠ q → 0 ≤ gf N v ∧ gf N v ≤ 30
theorem DigOk.own {b : List (List Int)} (hB : IsB b) {s : List Int} (hs : InR b.length 1048576 s) {q : Nat} (hq : q < b.length) {j : Nat} {N : List Int} (h : DigOk b s q j N) : ∀ v : Nat, v < b.length → -10486060 ≤ getI N (v : Int) ∧ getI N (v : Int) ≤ 10486060 := fun v hv => by
  by_cases e : v = q
  · subst e
    obtain ⟨T, hT, rfl⟩ := h.eqv
    have := at_q (gr_of hB) hq hB.n2 (l := gf (topL s j)) (t := gf T) (M := 1048576) (by decide) (fun w hw => by
      have e2 : gf (topL s j) w = topZ (getI s (w : Int)) j := topL_get (by rw [hs.1]; exact hw)
      rw [e2]
      exact topZ_le (inR_get hs w hw) j) (P := 30) (by decide) (fun w hw hwq => by
      rw [← apl_ap hB _ _ hw]
      have := h.low w hw hwq
      unfold gf at this
      omega)
    rw [apl_ap hB _ _ hv]
    omega
  · have := h.low v hv e
    unfold gf at this
    omega
theorem DigOk.near {b : List (List Int)} (hB : IsB b) {s : List Int} (hs : InR b.length 1048576 s) {q : Nat} (hq : q < b.length) {j : Nat} {N : List Int} (h : DigOk b s q (j + 1) N) : Near b.length q (pl2 N (digL s j) 1) := by
  refine ⟨by rw [pl2_len]; exact h.len, fun v hv hvq => ?_, ?_⟩
  · rw [pl2_get (by rw [h.len]; exact hv), digL_get (by rw [hs.1]; exact hv)]
    have := h.low v hv hvq
    have := digZ_le (getI s (v : Int)) j
    unfold gf at *
    omega
  · rw [pl2_get (by rw [h.len]; exact hq), digL_get (by rw [hs.1]; exact hq)]
    have := h.own hB hs hq q hq
    have := digZ_le (getI s (q : Int)) j
    omega
theorem DigOk.first {b : List (List Int)} (hB : IsB b) {s : List Int} (hs : InR b.length 1048576 s) (q : Nat) : DigOk b s q 41 (List.replicate b.length 0) := by
  have hz : topL s 41 = List.replicate b.length 0 := list_zero (by simp [topL, hs.1]) fun v hv => by rw [topL_get (by rw [hs.1]; exact hv)]; exact topZ_big (inR_get hs v hv)
  refine ⟨by simp, ⟨List.replicate b.length 0, by simp, by rw [hz]; exact (apl_zero hB (by simp)).symm⟩, fun h => by omega, fun v hv _ => ?_⟩
  have e : gf (List.replicate b.length 0) v = 0 := by unfold gf; rw [getI_nat]; simp [List.getD, hv]
  omega
end Go.AM.Ch

set_option linter.unusedSectionVars false
set_option linter.unusedVariables false
set_option linter.unusedSimpArgs false
namespace Go.AM.Ch
attribute [local go_sem] gc subHeap reach_skip ren_free reach_new reach_newp reach_end rangeL roots boxCells nodupB posOf renL AV.ren pickO renH renO looks look bindEnv envOf reach_int reach_bool reach_nilS reach_rd putRow cells_sl cells_int cells_bool cells_nilS cells_rd cells_agg reach_agg reach_tup idFreeL idf_sl idf_ptr idf_int idf_bool idf_nilS idf_rd reach_fn reach_mp cells_fn cells_ptr cells_mp idf_mp idf_fn idf_agg idf_tup
set_option maxHeartbeats 8000000
def degsB (b : List (List Int)) : Int := sumTo (fun v => deg b.length (ed b) v) b.length
/-- genus -/
theorem c72 {x : AV} {b : List (List Int)} (hx : IsLL x b) (hB : IsB b) {m : Nat} (hm : 1100 ≤ m) (H : Heap) : callPure (evF tab it m) true 72 [x] H = some (.int .i64 (degsB b / 2 - b.length + 1), H) := by
  have f72 : evF tab it m 72 [x] [] = some (.int .i64 (degsB b / 2 - b.length + 1), []) := by
    obtain ⟨m, rfl⟩ : ∃ j, m = j + 1 := ⟨m - 1, by omega⟩
    have fx := hx.free
    have hn2 := hB.n2
    have g := gr_of hB
    have lx : ∀ H, evP H .len [x] = some (.int .i64 ((b.length : Nat) : Int)) := fun H => by cases hx <;> rfl
    have e74 := fun (i : Nat) (hi : i < b.length) H => c74 hx hB.bd hi (m := m) (by omega) H
    refine f_enter rfl rfl ?_
    generalize evF tab it m = call at *
    repeat' first
 | (apply s_mov; (focus ((conv => lhs; whnf); done)))
 | (apply c_nil)
 | (apply s_pn; (focus (repeat (first | apply opds_nil | (apply opds_cons; (first | (focus ((conv => lhs; whnf); done)) | exact rfl))))); exact lx _)
 | (apply c_seq)
 | (apply c_reg)
 | (apply c_block)
 | (with_reducible apply k_c)
    refine c_loop ?_
    refine loop_gc (σ := Nat) (fun k => [x, .int .i64 (sumTo (fun v => deg b.length (ed b) v) k), .int .i64 ((b.length : Nat) : Int), .int .i64 (k : Int)]) (fun _ => []) (fun k => k ≤ b.length) (fun k => b.length - k) ?_ _ 0 _ _ (by omega) (by omega) (gc_to rfl (by simp [idFreeL, AV.idFree, *]; done))
    intro k hk K hK
    have hs1 := sumTo_nn (f := fun v => deg b.length (ed b) v) (n := k) fun j hj => (deg_nn g (by omega)).1
    have hs2 := sumTo_le (f := fun v => deg b.length (ed b) v) (M := 36) (n := k) fun j hj => by have := deg_nn g (i := j) (by omega); omega
    have hK1 := hK (k + 1)
    simp only [sumTo] at hK1
    have hd : k = b.length → sumTo (fun v => deg b.length (ed b) v) k = degsB b := fun e => by subst e; rfl
    generalize sumTo (fun v => deg b.length (ed b) v) k = Z at *
    by_cases hkn : k < b.length
    · have e74' := e74 k hkn
      have hdg := deg_nn g hkn
      repeat' first
 | (apply s_mov; (focus ((conv => lhs; whnf); done)))
 | (apply c_nil)
 | ((first | apply s_lss | apply s_leq | apply s_gtr | apply s_geq | apply s_eql | apply s_neq); exact rfl; all_goals (intro _; try (exfalso; omega)))
 | ((first | apply s_add | apply s_sub); exact rfl; omega)
 | (apply s_cn; (focus (repeat (first | apply opds_nil | (apply opds_cons; (first | (focus ((conv => lhs; whnf); done)) | exact rfl))))); exact e74' _)
 | (apply c_seq)
 | (apply c_reg)
 | (apply c_block)
 | (apply c_skip)
 | (apply c_condT; exact rfl)
 | (with_reducible apply k_c)
      exact hK1 _ _ (by omega) (by omega) (gc_to rfl (by simp [idFreeL, AV.idFree, *]; done))
    · obtain rfl : k = b.length := by omega
      have quo := fun H => p_quo (H := H) (a := Z) (c := 2) (by omega) (by omega)
      have he := hd rfl
      rw [← he]
      repeat' first
 | (apply s_mov; (focus ((conv => lhs; whnf); done)))
 | (apply c_nil)
 | ((first | apply s_lss | apply s_leq | apply s_gtr | apply s_geq | apply s_eql | apply s_neq); exact rfl; all_goals (intro _; try (exfalso; omega)))
 | ((first | apply s_add | apply s_sub); exact rfl; omega)
 | (apply s_pn; (focus (repeat (first | apply opds_nil | (apply opds_cons; (first | (focus ((conv => lhs; whnf); done)) | exact rfl))))); exact lx _)
 | (apply s_pn; (focus (repeat (first | apply opds_nil | (apply opds_cons; (first | (focus ((conv => lhs; whnf); done)) | exact rfl))))); exact quo _)
 | (apply c_seq)
 | (apply c_reg)
 | (apply c_exitH)
 | (apply c_ret)
 | (apply c_condF; exact rfl)
 | (apply c_preF; (focus (repeat (first | apply looks_nil | (apply looks_cons; (focus ((conv => lhs; whnf); done)))))); (focus (simp [idFreeL, AV.idFree, *]; done)))
 | (with_reducible apply k_c)
      exact fin_t (by (conv => lhs; whnf)) (by rfl) rfl
  exact callPure_free (by simp [idFreeL, AV.idFree, hx.free]) (by simp) f72 rfl
/-- the canonical state -/
def canL (b : List (List Int)) : List Int := (List.range b.length).map fun v => deg b.length (ed b) v - 2
theorem canL_len (b : List (List Int)) : (canL b).length = b.length := by simp [canL]
theorem canL_get {b : List (List Int)} {v : Nat} (h : v < b.length) : getI (canL b) (v : Int) = deg b.length (ed b) v - 2 := by
  rw [getI_nat]; simp [canL, List.getD, h]
/-- Canonical -/
theorem f41 {x : AV} {b : List (List Int)} (hx : IsLL x b) (hB : IsB b) {m : Nat} (hm : 2200 ≤ m) :
    evF tab it m 41 [x] [] = some (.tup [.sl 0 1 0 b.length, .int .i64 (degsB b / 2 - b.length + 1), .int .i64 0], [some (.data (iL (canL b)))]) := by
  obtain ⟨m, rfl⟩ : ∃ j, m = j + 1 := ⟨m - 1, by omega⟩
  have fx := hx.free
  have hn1 := hB.n1; have hn2 := hB.n2
  have g := gr_of hB
  have lx : ∀ H, evP H .len [x] = some (.int .i64 ((b.length : Nat) : Int)) := fun H => by cases hx <;> rfl
  have e60 := fun H => c60 hx (by omega) (m := m) (by omega) H
  simp only [hB, decide_true] at e60
  have e74 := fun (i : Nat) (hi : i < b.length) H => c74 hx hB.bd hi (m := m) (by omega) H
  have e72 := fun H => c72 hx hB (m := m) (by omega) H
  have hRl := canL_len b
  have hRg := fun (i : Nat) (h : i < b.length) => canL_get h
  generalize canL b = R at *
  refine f_enter rfl rfl ?_
  generalize evF tab it m = call at *
  have own_gc : ∀ (i : Nat) (L : List AV), gc 0 [x, ownV 0 L, .int .i64 ((b.length : Nat) : Int), .int .i64 (i : Int)] (owH L) = some ([x, ownV 0 L, .int .i64 ((b.length : Nat) : Int), .int .i64 (i : Int)], owH L) := fun i L => by
    cases L <;> simp [ownV, owH, go_sem, fx]
  repeat' first
 | (apply s_mov; (focus ((conv => lhs; whnf); done)))
 | (apply c_nil)
 | (apply s_notT; exact rfl)
 | (apply s_cn; (focus (repeat (first | apply opds_nil | (apply opds_cons; (first | (focus ((conv => lhs; whnf); done)) | exact rfl))))); exact e60 _)
 | (apply s_pn; (focus (repeat (first | apply opds_nil | (apply opds_cons; (first | (focus ((conv => lhs; whnf); done)) | exact rfl))))); exact lx _)
 | (apply c_seq)
 | (apply c_reg)
 | (apply c_block)
 | (apply c_skip)
 | (apply c_condF; exact rfl)
 | (with_reducible apply k_c)
  refine c_loop ?_
  refine loop_gc (σ := Nat) (fun i => [x, ownV 0 (iL (R.take i)), .int .i64 ((b.length : Nat) : Int), .int .i64 (i : Int)]) (fun i => owH (iL (R.take i))) (fun i => i ≤ b.length) (fun i => b.length - i) ?_ _ 0 _ _ (by omega) (by omega) (own_gc 0 [])
  intro i hi K hK
  by_cases hin : i < b.length
  · have h3 := hRg i hin
    have e74' := e74 i hin
    have hdg := deg_nn g hin
    have hstep : R.take (i + 1) = R.take i ++ [deg b.length (ed b) i - 2] := by
      rw [← List.take_append_getElem (by omega : i < R.length)]
      congr 1
      rw [getI_nat] at h3
      simpa [List.getD, show i < R.length by omega] using h3
    have hK1 := hK (i + 1)
    rw [hstep] at hK1
    have e1 : ∀ z : Int, iL (R.take i ++ [z]) = iL (R.take i) ++ [.int .i64 z] := fun z => by simp [iL]
    rw [e1] at hK1
    have hAl : (iL (R.take i)).length ≤ 12 := by rw [iL_len]; simp; omega
    generalize iL (R.take i) = A at *
    rcases A with _ | ⟨u, us⟩
    · simp only [ownV, owH] at *
      repeat' first
 | (apply s_mov; (focus ((conv => lhs; whnf); done)))
 | (apply c_nil)
 | ((first | apply s_lss | apply s_leq | apply s_gtr | apply s_geq | apply s_eql | apply s_neq); exact rfl; all_goals (intro _; try (exfalso; omega)))
 | ((first | apply s_add | apply s_sub); exact rfl; omega)
 | (apply s_cn; (focus (repeat (first | apply opds_nil | (apply opds_cons; (first | (focus ((conv => lhs; whnf); done)) | exact rfl))))); exact e74' _)
 | (apply s_en; (focus (repeat (first | apply opds_nil | (apply opds_cons; (first | (focus ((conv => lhs; whnf); done)) | exact rfl))))); exact e_bld1 rfl rfl rfl rfl)
 | (apply s_en; (focus (repeat (first | apply opds_nil | (apply opds_cons; (first | (focus ((conv => lhs; whnf); done)) | exact rfl))))); exact e_app_nil rfl (by omega) (by decide))
 | (apply c_seq)
 | (apply c_reg)
 | (apply c_block)
 | (apply c_skip)
 | (apply c_condT; exact rfl)
 | (with_reducible apply k_c)
      all_goals first | (exfalso; omega) | exact hK1 _ _ (by omega) (by omega) (by simp [ownV, owH, go_sem, fx])
    · simp only [ownV, owH] at *
      repeat' first
 | (apply s_mov; (focus ((conv => lhs; whnf); done)))
 | (apply c_nil)
 | ((first | apply s_lss | apply s_leq | apply s_gtr | apply s_geq | apply s_eql | apply s_neq); exact rfl; all_goals (intro _; try (exfalso; omega)))
 | ((first | apply s_add | apply s_sub); exact rfl; omega)
 | (apply s_cn; (focus (repeat (first | apply opds_nil | (apply opds_cons; (first | (focus ((conv => lhs; whnf); done)) | exact rfl))))); exact e74' _)
 | (apply s_en; (focus (repeat (first | apply opds_nil | (apply opds_cons; (first | (focus ((conv => lhs; whnf); done)) | exact rfl))))); exact e_bld1 rfl rfl rfl rfl)
 | (apply s_en; (focus (repeat (first | apply opds_nil | (apply opds_cons; (first | (focus ((conv => lhs; whnf); done)) | exact rfl))))); exact e_app_sl rfl rfl (by omega) (by simp at hAl; unfold most; omega))
 | (apply c_seq)
 | (apply c_reg)
 | (apply c_block)
 | (apply c_skip)
 | (apply c_condT; exact rfl)
 | (with_reducible apply k_c)
      all_goals first | (exfalso; omega) | exact hK1 _ _ (by omega) (by omega) (by simp [ownV, owH, go_sem, fx])
  · obtain rfl : i = b.length := by omega
    have hall : R.take b.length = R := List.take_of_length_le (by omega)
    rw [hall]
    have hl := iL_len R
    rw [hRl] at hl
    generalize hA : iL R = A at *
    rcases A with _ | ⟨u, us⟩
    · simp at hl; omega
    · simp only [List.length_cons] at hl
      simp only [ownV, owH]
      repeat' first
 | (apply c_nil)
 | ((first | apply s_lss | apply s_leq | apply s_gtr | apply s_geq | apply s_eql | apply s_neq); exact rfl; all_goals (intro _; try (exfalso; omega)))
 | (apply c_seq)
 | (apply c_reg)
 | (apply c_exitH)
 | (apply c_condF; exact rfl)
 | (with_reducible apply k_c)
      apply c_pre (vs := [x, .sl 0 1 0 (us.length + 1)]) (H' := [some (.data (u :: us))])
      · simp [go_sem, fx]
      repeat' first
 | (apply s_mov; (focus ((conv => lhs; whnf); done)))
 | (apply c_nil)
 | (apply s_cn; (focus (repeat (first | apply opds_nil | (apply opds_cons; (first | (focus ((conv => lhs; whnf); done)) | exact rfl))))); exact e72 _)
 | (apply c_seq)
 | (apply c_reg)
 | (apply c_ret)
 | (with_reducible apply k_c)
      rw [hl]
      simp [finish, ress, resOf, look, tupOf, go_sem]
theorem c41 {x : AV} {b : List (List Int)} (hx : IsLL x b) (hB : IsB b) {m : Nat} (hm : 2200 ≤ m) (H : Heap) :
    callPure (evF tab it m) true 41 [x] H = some (.tup [.rd 1 b.length (iL (canL b)), .int .i64 (degsB b / 2 - b.length + 1), .int .i64 0], H) :=
  callPure_frz (by simp [idFreeL, AV.idFree, hx.free]) (by simp) (f41 hx hB hm) (frzV_tup rfl (frzL_cons (frz_sl rfl (canL_len b)) (frzL_cons rfl (frzL_cons rfl frzL_nil))))
end Go.AM.Ch

set_option linter.unusedSectionVars false
set_option linter.unusedVariables false
set_option linter.unusedSimpArgs false
namespace Go.AM.Ch
set_option maxHeartbeats 8000000
/-- sum -/
theorem f63 {x : AV} {l : List Int} (hx : IsL x l) (hl : l.length ≤ 1000) (hb : ∀ j : Nat, j < l.length → -1099511627776 ≤ getI l (j : Int) ∧ getI l (j : Int) ≤ 1099511627776) {m : Nat} (hm : 1010 ≤ m) : evF tab it m 63 [x] [] = some (.int .i64 (sumTo (gf l) l.length), []) := by
  obtain ⟨m, rfl⟩ : ∃ j, m = j + 1 := ⟨m - 1, by omega⟩
  have fx := hx.free
  have lx : ∀ H, evP H .len [x] = some (.int .i64 ((l.length : Nat) : Int)) := fun H => p_lenI hx
  refine f_enter rfl rfl ?_
  generalize evF tab it m = call at *
  repeat' first
 | (apply s_mov; (focus ((conv => lhs; whnf); done)))
 | (apply c_nil)
 | (apply s_pn; (focus (repeat (first | apply opds_nil | (apply opds_cons; (first | (focus ((conv => lhs; whnf); done)) | exact rfl))))); exact lx _)
 | (apply c_seq)
 | (apply c_reg)
 | (apply c_block)
 | (with_reducible apply k_c)
  refine c_loop ?_
  refine loop_gc (σ := Nat) (fun i => [.int .i64 (sumTo (fun j => getI l (j : Int)) i), x, .int .i64 ((l.length : Nat) : Int), .int .i64 (i : Int)]) (fun _ => []) (fun i => i ≤ l.length) (fun i => l.length - i) ?_ _ 0 _ _ (by omega) (by omega) (gc_to rfl (by simp [idFreeL, AV.idFree, *]; done))
  intro i hi K hK
  have hbd := sumTo_le (f := fun j => getI l (j : Int)) (M := 1099511627776) (n := i) fun j hj => hb j (by omega)
  by_cases hil : i < l.length
  · have hgi := hb i hil
    repeat' first
 | (apply s_mov; (focus ((conv => lhs; whnf); done)))
 | (apply c_nil)
 | ((first | apply s_lss | apply s_leq | apply s_gtr | apply s_geq | apply s_eql | apply s_neq); exact rfl; all_goals (intro _; try (exfalso; omega)))
 | ((first | apply s_add | apply s_sub); exact rfl; omega)
 | (apply s_idx; (focus ((conv => lhs; whnf); done)); exact rfl; (first | assumption | (apply IsLL.at; assumption; omega)); omega)
 | (apply s_ldI; exact rfl; omega)
 | (apply c_seq)
 | (apply c_reg)
 | (apply c_block)
 | (apply c_skip)
 | (apply c_condT; exact rfl)
 | (with_reducible apply k_c)
    all_goals exact hK (i + 1) _ _ (by omega) (by omega) (gc_to rfl (by simp [idFreeL, AV.idFree, *]; done))
  · obtain rfl : i = l.length := by omega
    repeat' first
 | (apply s_mov; (focus ((conv => lhs; whnf); done)))
 | (apply c_nil)
 | ((first | apply s_lss | apply s_leq | apply s_gtr | apply s_geq | apply s_eql | apply s_neq); exact rfl; all_goals (intro _; try (exfalso; omega)))
 | (apply c_seq)
 | (apply c_reg)
 | (apply c_exitH)
 | (apply c_ret)
 | (apply c_condF; exact rfl)
 | (apply c_preF; (focus (repeat (first | apply looks_nil | (apply looks_cons; (focus ((conv => lhs; whnf); done)))))); (focus (simp [idFreeL, AV.idFree, *]; done)))
 | (with_reducible apply k_c)
    exact fin_t (v := .int .i64 (sumTo (gf l) l.length)) (by rfl) (by rfl) rfl
theorem c63 {x : AV} {l : List Int} (hx : IsL x l) (hl : l.length ≤ 1000) (hb : ∀ j : Nat, j < l.length → -1099511627776 ≤ getI l (j : Int) ∧ getI l (j : Int) ≤ 1099511627776) {m : Nat} (hm : 1010 ≤ m) (H : Heap) : callPure (evF tab it m) true 63 [x] H = some (.int .i64 (sumTo (gf l) l.length), H) :=
  callPure_free (by simp [idFreeL, hx.free]) (by simp) (f63 hx hl hb hm) rfl
theorem c63p {id n : Nat} {l : List Int} (hn : l.length = n) (hl : l.length ≤ 1000) (hb : ∀ j : Nat, j < l.length → -1099511627776 ≤ getI l (j : Int) ∧ getI l (j : Int) ≤ 1099511627776) {m : Nat} (hm : 1010 ≤ m) {H : Heap} (h : H.data? id = some (iL l)) : callPure (evF tab it m) true 63 [.sl id 1 0 n] H = some (.int .i64 (sumTo (gf l) n), H) := by
  have f := f63 (rd_isL hn) hl hb hm
  rw [hn] at f
  exact callPure_own (frzL_cons (frz_sl h hn) frzL_nil) f rfl (by simp) rfl
theorem ex_first {Q : Nat → Prop} : ∀ {n : Nat}, Q n → ∃ k, Q k ∧ ∀ j, j < k → ¬ Q j := fun {n} => by
  induction n using Nat.strongRecOn with
  | ind n ih =>
    intro h
    by_cases hex : ∃ j, j < n ∧ Q j
    · obtain ⟨j, hj, hq⟩ := hex
      exact ih j hj hq
    · exact ⟨n, h, fun j hj hq => hex ⟨j, hj, hq⟩⟩
theorem isRk_of {b : List (List Int)} {s : List Int} {k : Nat} (h : ∀ j : Nat, j < k → (j : Int) ≤ sumTo (gf s) b.length ∧ ¬ Ls b j (redL b s 0) 0) (he : sumTo (gf s) b.length < k ∨ Ls b k (redL b s 0) 0) : IsRk b s ((k : Int) - 1) := by
  refine ⟨by omega, fun j hj => h j (by omega), ?_⟩
  have e : ((k : Int) - 1 + 1).toNat = k := by omega
  rw [e]
  rcases he with h | h
  · left; omega
  · right; exact h
theorem rk_ex (b : List (List Int)) (s : List Int) : ∃ r, IsRk b s r := by
  obtain ⟨k, hk, hno⟩ := ex_first (Q := fun k : Nat => sumTo (gf s) b.length < k ∨ Ls b k (redL b s 0) 0) (n := (sumTo (gf s) b.length + 1).toNat) (.inl (by omega))
  exact ⟨_, isRk_of (fun j hj => by
    have := hno j hj
    exact ⟨by
      apply Classical.byContradiction
      intro h
      exact this (.inl (by omega)), fun h => this (.inr h)⟩) hk⟩
/-- the rank -/
noncomputable def rkI (b : List (List Int)) (s : List Int) : Int := Classical.choose (rk_ex b s)
theorem rk_eq {b : List (List Int)} {s : List Int} {r : Int} (h : IsRk b s r) : r = rkI b s := h.uniq (Classical.choose_spec (rk_ex b s))
/-- the numbers of a reduced list -/
theorem red_own {b : List (List Int)} (hB : IsB b) (s : List Int) : (∀ v : Nat, v < b.length → v ≠ 0 → 0 ≤ getI (redL b s 0) (v : Int) ∧ getI (redL b s 0) (v : Int) < 36) ∧ sumTo (gf s) b.length - 360 ≤ getI (redL b s 0) ((0 : Nat) : Int) ∧ getI (redL b s 0) ((0 : Nat) : Int) ≤ sumTo (gf s) b.length := by
  have hn1 := hB.n1; have hn2 := hB.n2
  have g := gr_of hB
  have hrs : sumTo (gf (redL b s 0)) b.length = sumTo (gf s) b.length := sum_apl hB s _
  have hr := redL_red hB s hn1
  have hrl := redL_len b s 0
  rw [← hrs]
  generalize redL b s 0 = R at *
  have hRo : ∀ v : Nat, v < b.length → v ≠ 0 → 0 ≤ getI R (v : Int) ∧ getI R (v : Int) < 36 := fun v hv h0 => by
    have := red_lt g hr hv h0
    have e : gf R v = getI R (v : Int) := rfl
    omega
  refine ⟨hRo, ?_⟩
  have e := sum_set (l := R) (n := b.length) (v := 0) hrl (by omega) (getI R ((0 : Nat) : Int))
  have h1 := sumTo_nn (f := gf (R.set 0 (getI R ((0 : Nat) : Int) - getI R ((0 : Nat) : Int)))) (n := b.length) fun v hv => by
    show 0 ≤ getI _ (v : Int)
    rw [getI_set (by omega)]
    by_cases h0 : v = 0
    · rw [if_pos h0]; omega
    · rw [if_neg h0]; exact (hRo v hv h0).1
  have h2 := sumTo_le (f := gf (R.set 0 (getI R ((0 : Nat) : Int) - getI R ((0 : Nat) : Int)))) (M := 36) (n := b.length) fun v hv => by
    show -36 ≤ getI _ (v : Int) ∧ getI _ (v : Int) ≤ 36
    rw [getI_set (by omega)]
    by_cases h0 : v = 0
    · rw [if_pos h0]; omega
    · rw [if_neg h0]; have := hRo v hv h0; omega
  omega
theorem red_tk {b : List (List Int)} (hB : IsB b) {s : List Int} {k : Nat} (hk : (k : Int) ≤ sumTo (gf s) b.length) (hs : sumTo (gf s) b.length ≤ 12) : Tk b.length k (redL b s 0) := by
  obtain ⟨h1, h2⟩ := red_own hB s
  exact ⟨redL_len b s 0, fun v hv h0 => by have := h1 v hv h0; omega, by omega⟩
theorem sum_in {b : List (List Int)} {s : List Int} {n : Nat} (hn : n ≤ 12) (hs : ∀ v : Nat, v < n → -1048576 ≤ getI s (v : Int) ∧ getI s (v : Int) ≤ 1048576) : -12582912 ≤ sumTo (gf s) n ∧ sumTo (gf s) n ≤ 12582912 := by
  have := sumTo_le (f := gf s) (M := 1048576) (n := n) hs
  omega
end Go.AM.Ch
