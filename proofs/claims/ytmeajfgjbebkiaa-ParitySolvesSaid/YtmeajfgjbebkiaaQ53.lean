/- A part of the proof: Q53. -/
import Derived.Test.YtmeajfgjbebkiaaQ28
import Derived.Test.YtmeajfgjbebkiaaQ12
import Derived.Test.YtmeajfgjbebkiaaQ40
set_option linter.unusedSectionVars false
set_option linter.unusedVariables false
set_option linter.unusedSimpArgs false
namespace Go.AM.Pa
attribute [local go_sem] gc subHeap reach_skip ren_free reach_new reach_newp reach_end rangeL roots boxCells nodupB posOf renL AV.ren pickO renH renO looks look bindEnv envOf reach_int reach_bool reach_nilS reach_rd putRow cells_sl cells_int cells_bool cells_nilS cells_rd cells_agg reach_agg reach_tup idFreeL idf_sl idf_ptr idf_int idf_bool idf_nilS idf_rd
/-! the attractors of both programs, in a region -/
section
variable {g : Gm} {n : Nat} (hg : Good g) (hnn : g.next.length = n) {p : Int} {inn reg : List Bool} (ha : Area g inn) (hrl : reg.length = n) (he : ∀ i : Nat, getB inn i = getB reg i)
include hg hnn ha hrl he
theorem scanG_eq {o24 on : List Bool} (ho : ∀ i : Nat, getB o24 i = getB on i) : ∀ (r : List Int), (∀ u ∈ r, 0 ≤ u ∧ u < n) → ∀ s e m, (scan inn o24 r s e m).1 = (scanR reg on r s e).1 ∧ (scan inn o24 r s e m).2.1 = (scanR reg on r s e).2
  | [], _, s, e, m => ⟨rfl, rfl⟩
  | u :: r, hu, s, e, m => by
    have h1 := hu u List.mem_cons_self
    have ih := scanG_eq ho r (fun w hw => hu w (List.mem_cons_of_mem _ hw))
    obtain ⟨k, rfl⟩ : ∃ k : Nat, u = (k : Int) := ⟨u.toNat, by omega⟩
    simp only [scan, scanR, he k, ho k]
    cases hr : getB reg k
    · simpa using ih s e m
    · cases hb : getB on k
      · simpa using ih s false m
      · simpa using ih true e k
theorem scanG_all {on : List Bool} : ∀ (r : List Int), (∀ u ∈ r, 0 ≤ u ∧ u < n) → ∀ s e, (scanR reg on r s e).2 = true → ((∃ u ∈ r, getB reg u = true) ∨ s = true) → (scanR reg on r s e).1 = true
  | [], _, s, e, h, h2 => by
    rcases h2 with ⟨u, hu, -⟩ | h2
    · cases hu
    · simpa [scanR] using h2
  | u :: r, hu, s, e, h, h2 => by
    have ih := scanG_all (on := on) r (fun w hw => hu w (List.mem_cons_of_mem _ hw))
    have key : ∀ (r : List Int) s, (scanR reg on r s false).2 = false := by
      intro r
      induction r with
      | nil => intro s; rfl
      | cons a r ih2 => intro s; simp only [scanR]; split <;> simp [ih2]
    simp only [scanR] at h ⊢
    cases hr : getB reg u
    · rw [hr] at h
      simp only [Bool.false_eq_true, if_false] at h ⊢
      refine ih _ _ h ?_
      rcases h2 with ⟨w, hw, h3⟩ | h2
      · rcases List.mem_cons.1 hw with rfl | hw
        · rw [hr] at h3; cases h3
        · exact .inl ⟨w, hw, h3⟩
      · exact .inr h2
    · rw [hr] at h
      simp only [if_true] at h ⊢
      refine ih _ _ h ?_
      cases hb : getB on u
      · rw [hb] at h
        simp only [Bool.and_false] at h
        rw [key] at h
        cases h
      · right; simp
theorem visitG_eq {a : List Bool × List Int × Bool} {b : List Bool × Bool} (h : Eqv n a b) {v : Nat} (hv : getB inn v = true) : Eqv n (visit g inn p a v) (visitR g reg p b v) := by
  obtain ⟨h1, h2, h3, h4⟩ := h
  have hn24 : n ≤ 24 := by have := hg.1; omega
  have hvn : v < n := by have := ha.lt v hv; omega
  have e2 : getB reg v = true := by rw [← he]; exact hv
  unfold visit visitR
  rw [h3 v]
  cases hb : getB b.1 v
  · have hs := scanG_eq hg hnn ha hrl he h3 (getLL g.next v) (row_mem hg hnn hvn) false true (-1)
    have hal := scanG_all hg hnn ha hrl he (on := b.1) (getLL g.next v) (row_mem hg hnn hvn) false true
    have hv2 : ¬ (false = true ∨ getB reg (v : Int) = false) := by rw [e2]; simp
    have hex : ∃ u ∈ getLL g.next v, getB reg u = true := by
      obtain ⟨u, hu1, hu2⟩ := ha.go v hv
      have := row_mem hg hnn hvn u hu1
      obtain ⟨k, rfl⟩ : ∃ k : Nat, u = (k : Int) := ⟨u.toNat, by omega⟩
      exact ⟨k, hu1, by rw [← he]; exact hu2⟩
    rw [if_neg (show ¬ (false = true) by simp), if_neg hv2]
    simp only [hs.1, hs.2]
    generalize scanR reg b.1 (getLL g.next v) false true = q at *
    have hiff : ((getI g.owner v = p ∧ q.1 = true) ∨ (getI g.owner v ≠ p ∧ q.1 = true ∧ q.2 = true)) ↔ ((getI g.owner v = p ∧ q.1 = true) ∨ (getI g.owner v ≠ p ∧ q.2 = true)) := by
      constructor
      · rintro (h | ⟨h, h', h''⟩)
        · exact .inl h
        · exact .inr ⟨h, h''⟩
      · rintro (h | ⟨h, h'⟩)
        · exact .inl h
        · exact .inr ⟨h, hal h' (.inl hex), h'⟩
    simp only [hiff]
    split
    · refine ⟨by simp [h1], by simp [h2], fun i => ?_, rfl⟩
      rw [getB_set, getB_set, h3 i, h1, h2]
      simp [hvn, show v < 24 by omega]
    · exact ⟨h1, h2, h3, h4⟩
  · rw [if_pos rfl, if_pos (.inl rfl)]
    exact ⟨h1, h2, h3, h4⟩
theorem sweepG_eq : ∀ (d i : Nat), i + d = 24 → ∀ {a : List Bool × List Int × Bool} {b : List Bool × Bool}, Eqv n a b → Eqv n ((truesFrom inn d i).foldl (visit g inn p) a) (swR g reg p (n - i) i b)
  | 0, i, hi, a, b, h => by
    have hn24 : n ≤ 24 := by have := hg.1; omega
    rw [show n - i = 0 by omega]
    exact h
  | d + 1, i, hi, a, b, h => by
    have hn24 : n ≤ 24 := by have := hg.1; omega
    simp only [truesFrom]
    by_cases hin : getB inn i = true
    · have hlt : i < n := by have := ha.lt i hin; omega
      rw [if_pos hin, List.foldl_cons, show n - i = (n - (i + 1)) + 1 by omega]
      exact sweepG_eq d (i + 1) (by omega) (visitG_eq hg hnn ha hrl he h hin)
    · rw [if_neg hin]
      by_cases hlt : i < n
      · have hr : getB reg i = false := by rw [← he]; simpa using hin
        have hsk : visitR g reg p b i = b := by unfold visitR; rw [if_pos (.inr hr)]
        rw [show n - i = (n - (i + 1)) + 1 by omega]
        show Eqv n _ (swR g reg p (n - (i + 1)) (i + 1) (visitR g reg p b i))
        rw [hsk]
        exact sweepG_eq d (i + 1) (by omega) h
      · have := sweepG_eq d (i + 1) (by omega) h
        rw [show n - (i + 1) = n - i by omega] at this
        rw [show n - i = 0 by omega] at this ⊢
        exact this
theorem runG_eq : ∀ (k : Nat) (o24 on : List Bool) (mv : List Int), o24.length = 24 → on.length = n → (∀ i : Nat, getB o24 i = getB on i) → ∀ i : Nat, getB (runN g inn p k o24 mv).1 i = getB (runR g reg p k on) i
  | 0, o24, on, mv, _, _, h => h
  | k + 1, o24, on, mv, h1, h2, h => by
    have hs : Eqv n (sweep g inn p o24 mv) (swR g reg p n 0 (on, false)) := sweepG_eq hg hnn ha hrl he (p := p) 24 0 (by omega) (a := (o24, mv, false)) (b := (on, false)) ⟨h1, h2, h, rfl⟩
    simp only [runN, runR]
    rw [h2]
    generalize sweep g inn p o24 mv = S at *
    generalize swR g reg p n 0 (on, false) = T at *
    obtain ⟨S1, S2, S3⟩ := S
    obtain ⟨T1, T2⟩ := T
    obtain ⟨e1, e2, e3, e4⟩ := hs
    simp only at e1 e2 e3 e4
    subst e4
    simp only
    split
    · exact runG_eq k _ _ _ e1 e2 e3
    · exact e3
end
/-- ref.attract -/
theorem c48f {x : AV} {a : Gm} {set reg : List Bool} {p : Int} {n : Nat} {args : List AV} {H : Heap} (e : frzL H 40 args = some [x, .int .i64 p, .rd 1 n (bL set), .rd 1 n (bL reg)]) (hx : IsG x a) (hg : Good a) (hnn : a.next.length = n) (hs : set.length = n) (hrg : reg.length = n) (hrow : ∀ i : Int, (getLL a.next i).length < 50) {m : Nat} (hm : 103 ≤ m) :
    callPure (evF tab it m) true 48 args H = some (.rd 1 n (bL (runR a reg p 26 (ini set reg n n))), H) := by
  have hl := runR_len (g := a) (reg := reg) (p := p) 26 (ini set reg n n) (ini_len set reg n n)
  simp only [callPure, e, Option.bind_some, f48 hx hg hnn hs hrg hrow m hm]
  simp [AV.hasRd, HO.hasRd, bL_noRd, frzV_sl, Heap.data?, bL_len, hl, List.take_of_length_le]
/-- ref.minus -/
theorem c69 {a b : List Bool} {n : Nat} (ha : a.length = n) (hb : b.length = n) (hn : n < 100) {m : Nat} (hm : 102 ≤ m) (H : Heap) :
    callPure (evF tab it m) true 69 [.rd 1 n (bL a), .rd 1 n (bL b)] H = some (.rd 1 n (bL ((List.range n).map fun (i : Nat) => getB a i && !getB b i)), H) := by
  refine callPure_frz rfl (by simp) (v := .sl 0 1 0 n) (H1 := [some (.data (bL ((List.range n).map fun (i : Nat) => getB a i && !getB b i)))]) ?_ ?_
  · obtain ⟨m, rfl⟩ : ∃ j, m = j + 1 := ⟨m - 1, by omega⟩
    refine f_enter rfl rfl ?_
    repeat' first
 | (apply s_mov; (focus ((conv => lhs; whnf); done)))
 | (apply c_nil)
 | (apply s_en; (focus (repeat (first | apply opds_nil | (apply opds_cons; (first | (focus ((conv => lhs; whnf); done)) | exact rfl))))); exact e_mkB (by unfold most; omega))
 | (apply s_lenRd; exact rfl)
 | (apply c_seq)
 | (apply c_reg)
 | (apply c_block)
 | (with_reducible apply k_c)
    refine c_loop ?_
    refine loop_gc (σ := Nat) (fun i => [.rd 1 n (bL a), .rd 1 n (bL b), .sl 0 1 0 n, .int .i64 i]) (fun i => [some (.data (bL (upto n (fun (i : Nat) => getB a i && !getB b i) i)))]) (fun i => i ≤ n) (fun i => n - i) ?_ _ 0 _ _ (by omega) (by omega) (by simp [go_sem, upto_zero]; done)
    intro i hi K hK
    have hul := upto_len n (fun (i : Nat) => getB a i && !getB b i) i
    repeat' first
 | (apply s_mov; (focus ((conv => lhs; whnf); done)))
 | (apply s_gT; exact rfl)
 | (apply s_gF; exact rfl)
 | (apply c_nil)
 | (apply s_pickT; exact rfl; (focus ((conv => lhs; whnf); done)))
 | (apply s_pickF; exact rfl; (focus ((conv => lhs; whnf); done)))
 | (apply s_notT; exact rfl)
 | (apply s_notF; exact rfl)
 | ((first | apply s_lss | apply s_leq | apply s_gtr | apply s_geq | apply s_eql | apply s_neq); exact rfl; all_goals (intro _; try (exfalso; omega)))
 | ((first | apply s_add | apply s_sub); exact rfl; omega)
 | (apply s_st; (focus (repeat (first | apply opds_nil | (apply opds_cons; (first | (focus ((conv => lhs; whnf); done)) | exact rfl))))); exact e_stB rfl (by omega))
 | (apply s_lenRd; exact rfl)
 | (apply s_ldRB; exact rfl; omega; all_goals intro _)
 | (apply s_idxRB; exact rfl; exact rfl; omega)
 | (apply s_idxS; exact rfl; exact rfl; omega)
 | (apply c_seq)
 | (apply c_reg)
 | (apply c_block)
 | (apply c_exitH)
 | (apply c_skip)
 | (apply c_condT; exact rfl)
 | (apply c_condF; exact rfl)
 | (with_reducible apply k_c)
    · rename_i q1 q2 q3
      refine hK (i + 1) _ _ (by omega) (by omega) ?_
      rw [← upto_set (b := false) (by simp [q2, q3])]
      exact (by simp [go_sem, Int.toNat_natCast]; done)
    · rename_i q1 q2 q3
      refine hK (i + 1) _ _ (by omega) (by omega) ?_
      rw [← upto_set (b := true) (by simp [q2, q3])]
      exact (by simp [go_sem, Int.toNat_natCast]; done)
    · rename_i q1 q2
      refine hK (i + 1) _ _ (by omega) (by omega) ?_
      rw [← upto_set (b := false) (by simp [q2])]
      exact (by simp [go_sem, Int.toNat_natCast]; done)
    · have hin : i = n := by omega
      subst hin
      rw [upto_all]
      refine c_pre (vs := [.sl 0 1 0 i]) (H' := [some (.data (bL ((List.range i).map fun (j : Nat) => getB a j && !getB b j)))]) (by simp [go_sem]; done) ?_
      repeat' first
 | (apply s_mov; (focus ((conv => lhs; whnf); done)))
 | (apply c_nil)
 | (apply c_seq)
 | (apply c_reg)
 | (apply c_ret)
 | (with_reducible apply k_c)
      simp [finish, ress, resOf, look, tupOf, gc, subHeap, reach_new, reach_end, rangeL, roots, boxCells, nodupB, posOf, renL, AV.ren, pickO, renH, renO, bindEnv]
  · have h2 : (bL ((List.range n).map fun (i : Nat) => getB a i && !getB b i)).length = n := by rw [bL_len]; simp
    have h3 : (bL ((List.range n).map fun (i : Nat) => getB a i && !getB b i)).take n = bL ((List.range n).map fun (i : Nat) => getB a i && !getB b i) := List.take_of_length_le (by omega)
    simp [frzV, Heap.data?, h2, h3]
end Go.AM.Pa
