/- A part of the proof: U43 U44 U45. -/
import Derived.Test.YtmegimhfoedcdaaU42
import Derived.Test.YtmegimhfoedcdaaD2
import Derived.Test.YtmegimhfoedcdaaE3
set_option linter.unusedVariables false
set_option linter.unusedSimpArgs false
set_option linter.unusedSectionVars false
namespace Go.AM.Ch
set_option maxHeartbeats 8000000
def bitS (S : Nat) (j : Nat) : Bool := S / 2 ^ j % 2 == 1
theorem bitS_bitN (S : Nat → Bool) {n i : Nat} (h : i < n) : bitS (bitN S n) i = S i := by
  unfold bitS
  rw [bitN_bit S h]
  cases S i <;> rfl
theorem outE_congr {n : Nat} {E : Nat → Nat → Int} {S S' : Nat → Bool} (h : ∀ j, j < n → S j = S' j) (v : Nat) : outE n E S v = outE n E S' v := sumTo_congr fun j hj => by rw [h j hj]
theorem outE_anti {n : Nat} {E : Nat → Nat → Int} (g : Gr n E) {S S' : Nat → Bool} (h : ∀ j, j < n → S j = true → S' j = true) {v : Nat} (hv : v < n) : outE n E S' v ≤ outE n E S v := sumTo_mono fun j hj => by
  have := g.nn v j hv hj
  cases h1 : S j with
  | true => rw [h j hj h1]; simp
  | false => simp only [Bool.false_eq_true, if_false]; split <;> omega
theorem c57 {x : AV} {b : List (List Int)} {S i : Nat} (hx : IsLL x b) (hb : Bd b) (hi : i < b.length) {m : Nat} (hm : 100 ≤ m) (H : Heap) : callPure (evF tab it m) true 57 [x, .int .i64 (S : Int), .int .i64 (i : Int)] H = some (.int .i64 (outE b.length (ed b) (bitS S) i), H) := by
  have f57 : evF tab it m 57 [x, .int .i64 (S : Int), .int .i64 (i : Int)] [] = some (.int .i64 (outE b.length (ed b) (bitS S) i), []) := by
    obtain ⟨m, rfl⟩ : ∃ j, m = j + 1 := ⟨m - 1, by omega⟩
    have fx := hx.free
    have hl := hb.len
    have hrow := hx.at (i := (i : Int)) ⟨by omega, by omega⟩
    have hrl := hb.row i hi
    have lx : ∀ H, evP H .len [x] = some (.int .i64 ((b.length : Nat) : Int)) := fun H => by cases hx <;> rfl
    refine f_enter rfl rfl ?_
    generalize evF tab it m = call at *
    repeat' first
 | (apply s_mov; exact aW)
 | (apply c_nil)
 | (apply c_seq)
 | (apply c_reg)
 | (apply c_block)
 | (with_reducible apply k_c)
    refine c_loop ?_
    refine loop_gc (σ := Nat) (fun k => [x, .int .i64 (S : Int), .int .i64 (i : Int), .int .i64 (sumTo (fun j => if bitS S j = true then 0 else ed b i j) k), .int .i64 (k : Int)]) (fun _ => []) (fun k => k ≤ b.length) (fun k => b.length - k) ?_ _ 0 _ _ (by omega) (by omega) (gc_to rfl (by simp [idFreeL, AV.idFree, *]; done))
    intro k hk K hK
    have hs := sumTo_le (f := fun j => if bitS S j = true then 0 else ed b i j) (M := 3) (n := k) fun j hj => by
      have := hb.val i j hi (by omega)
      try dsimp only
      unfold ed
      split <;> omega
    have hK1 := hK (k + 1)
    simp only [sumTo] at hK1
    have hend : k = b.length → sumTo (fun j => if bitS S j = true then 0 else ed b i j) k = outE b.length (ed b) (bitS S) i := fun e => by subst e; rfl
    generalize hZ : sumTo (fun j => if bitS S j = true then 0 else ed b i j) k = Z at *
    by_cases hkn : k < b.length
    · have hv := hb.val i k hi hkn
      have hed : ed b i k = getI (getLL b (i : Int)) (k : Int) := rfl
      rw [hed] at hK1
      have shr := fun H => p_shr (H := H) (a := S) (b := k) (by omega)
      have hbs : bitS S k = (S / 2 ^ k % 2 == 1) := rfl
      generalize hD : S / 2 ^ k = D at *
      have hrem : ∀ H, evP H (.bin .rem) [.int .i64 (D : Int), .int .i64 2] = some (.int .i64 ((D % 2 : Nat) : Int)) := fun H => rfl
      by_cases h1 : D % 2 = 1
      · rw [hbs, if_pos (by simpa using h1), Int.add_zero] at hK1
        repeat' first
 | (apply s_mov; exact aW)
 | (apply c_nil)
 | (apply s_lss; exact rfl; all_goals (intro _; try (exfalso; omega)))
 | (apply s_eql; exact rfl; all_goals (intro _; try (exfalso; omega)))
 | (apply s_add; exact rfl; omega)
 | (apply s_pn; exact aO; exact lx _)
 | (apply s_pn; exact aO; exact shr _)
 | (apply s_pn; exact aO; exact hrem _)
 | (apply c_seq)
 | (apply c_reg)
 | (apply c_block)
 | (apply c_skip)
 | (apply c_condT; exact rfl)
 | (apply c_condF; exact rfl)
 | (with_reducible apply k_c)
        all_goals first | exact hK1 _ _ (by omega) (by omega) (gc_to rfl (by simp [idFreeL, AV.idFree, *]; done)) | (exfalso; omega)
      · rw [hbs, if_neg (by simpa using h1)] at hK1
        repeat' first
 | (apply s_mov; exact aW)
 | (apply c_nil)
 | (apply s_lss; exact rfl; all_goals (intro _; try (exfalso; omega)))
 | (apply s_eql; exact rfl; all_goals (intro _; try (exfalso; omega)))
 | (apply s_add; exact rfl; omega)
 | (apply s_pn; exact aO; exact lx _)
 | (apply s_pn; exact aO; exact shr _)
 | (apply s_pn; exact aO; exact hrem _)
 | (apply s_idx; exact aW; exact rfl; exact aI; omega)
 | (apply s_idxLL; exact aW; exact rfl; assumption; omega)
 | (apply s_ldI; exact rfl; omega)
 | (apply s_ldLL; exact rfl; assumption; omega)
 | (apply c_seq)
 | (apply c_reg)
 | (apply c_block)
 | (apply c_skip)
 | (apply c_condT; exact rfl)
 | (with_reducible apply k_c)
        all_goals first | exact hK1 _ _ (by omega) (by omega) (gc_to rfl (by simp [idFreeL, AV.idFree, *]; done)) | (exfalso; omega)
    · obtain rfl : k = b.length := by omega
      have he := hend rfl
      repeat' first
 | (apply s_mov; exact aW)
 | (apply c_nil)
 | (apply s_lss; exact rfl; all_goals (intro _; try (exfalso; omega)))
 | (apply s_pn; exact aO; exact lx _)
 | (apply c_seq)
 | (apply c_reg)
 | (apply c_exitH)
 | (apply c_ret)
 | (apply c_condF; exact rfl)
 | (apply c_preF; exact aK; exact aF)
 | (with_reducible apply k_c)
      exact fin_t (by (conv => lhs; whnf)) (by rfl) (by rw [he])
  exact callPure_free (by simp [idFreeL, AV.idFree, hx.free]) (by simp) f57 rfl
theorem c107 {y z : AV} {l d : List Int} {n : Nat} {e : Int} (hy : IsL y l) (hz : IsL z d) (hl : l.length = n) (hd : d.length = n) (hn : n ≤ 12) {m : Nat} (hm : 100 ≤ m) (H : Heap) : callPure (evF tab it m) true 107 [y, z, .int .i64 e] H = some (.bool (decide (∃ v : Nat, v < n ∧ getI d (v : Int) = e ∧ getI l (v : Int) < 0)), H) := by
  have f107 : evF tab it m 107 [y, z, .int .i64 e] [] = some (.bool (decide (∃ v : Nat, v < n ∧ getI d (v : Int) = e ∧ getI l (v : Int) < 0)), []) := by
    obtain ⟨m, rfl⟩ : ∃ j, m = j + 1 := ⟨m - 1, by omega⟩
    have fy := hy.free; have fz := hz.free
    have ly : ∀ H, evP H .len [y] = some (.int .i64 ((n : Nat) : Int)) := fun H => by rw [← hl]; exact p_lenI hy
    refine f_enter rfl rfl ?_
    generalize evF tab it m = call at *
    repeat' first
 | (apply s_mov; exact aW)
 | (apply c_nil)
 | (apply c_seq)
 | (apply c_reg)
 | (apply c_block)
 | (with_reducible apply k_c)
    refine c_loop ?_
    refine loop_gc (σ := Nat) (fun k => [y, z, .int .i64 e, .int .i64 (k : Int)]) (fun _ => []) (fun k => k ≤ n ∧ ∀ v : Nat, v < k → ¬ (getI d (v : Int) = e ∧ getI l (v : Int) < 0)) (fun k => n - k) ?_ _ 0 _ _ ⟨by omega, fun v hv => by omega⟩ (by omega) (gc_to rfl (by simp [idFreeL, AV.idFree, *]; done))
    intro k ⟨hk, hno⟩ K hK
    by_cases hkn : k < n
    · skip
      repeat' first
 | (apply s_mov; exact aW)
 | (apply s_gT; exact rfl)
 | (apply s_gF; exact rfl)
 | (apply c_nil)
 | (apply s_pickT; exact rfl; exact aW)
 | (apply s_pickF; exact rfl; exact aW)
 | (apply s_lss; exact rfl; all_goals (intro _; try (exfalso; omega)))
 | (apply s_eql; exact rfl; all_goals (intro _; try (exfalso; omega)))
 | (apply s_add; exact rfl; omega)
 | (apply s_pn; exact aO; exact ly _)
 | (apply s_idx; exact aW; exact rfl; exact aI; omega)
 | (apply s_ldI; exact rfl; omega)
 | (apply c_seq)
 | (apply c_reg)
 | (apply c_block)
 | (apply c_skip)
 | (apply c_ret)
 | (apply c_condT; exact rfl)
 | (apply c_condF; exact rfl)
 | (with_reducible apply k_c)
      all_goals first
        | (exact fin_t (by (conv => lhs; whnf)) (by rfl) (leafT ⟨k, hkn, by omega, by omega⟩))
        | (refine hK (k + 1) _ _ ⟨by omega, fun v hv => ?_⟩ (by omega) (gc_to rfl (by simp [idFreeL, AV.idFree, *]; done))
           rcases (by omega : v < k ∨ v = k) with h | rfl
           · exact hno v h
           · omega)
    · obtain rfl : k = n := by omega
      repeat' first
 | (apply s_mov; exact aW)
 | (apply c_nil)
 | (apply s_lss; exact rfl; all_goals (intro _; try (exfalso; omega)))
 | (apply s_pn; exact aO; exact ly _)
 | (apply c_seq)
 | (apply c_reg)
 | (apply c_exitH)
 | (apply c_ret)
 | (apply c_condF; exact rfl)
 | (apply c_preF; exact aK; exact aF)
 | (with_reducible apply k_c)
      exact fin_t (by (conv => lhs; whnf)) (by rfl) (leafF fun ⟨v, hv, h1, h2⟩ => hno v hv ⟨h1, h2⟩)
  exact callPure_free (by simp [idFreeL, AV.idFree, hy.free, hz.free]) (by simp) f107 rfl
noncomputable def ubS (n : Nat) (E : Nat → Nat → Int) (q : Nat) (c : Nat → Int) (v : Nat) : Bool :=
  open Classical in decide (∃ S : Nat → Bool, S q = false ∧ Leg n E c S ∧ S v = true)
theorem ubS_iff {n : Nat} {E : Nat → Nat → Int} {q : Nat} {c : Nat → Int} {v : Nat} : ubS n E q c v = true ↔ ∃ S : Nat → Bool, S q = false ∧ Leg n E c S ∧ S v = true := by
  unfold ubS; simp
theorem ubS_q {n : Nat} {E : Nat → Nat → Int} {q : Nat} {c : Nat → Int} : ubS n E q c q = false := by
  cases h : ubS n E q c q with
  | false => rfl
  | true => obtain ⟨S, h1, _, h2⟩ := ubS_iff.1 h; rw [h1] at h2; cases h2
theorem ubS_leg {n : Nat} {E : Nat → Nat → Int} (g : Gr n E) {q : Nat} {c : Nat → Int} : Leg n E c (ubS n E q c) := fun v hv hs => by
  obtain ⟨S, h1, h2, h3⟩ := ubS_iff.1 hs
  exact Int.le_trans (outE_anti g (fun j _ hj => ubS_iff.2 ⟨S, h1, h2, hj⟩) hv) (h2 v hv h3)
theorem ubS_congr {n : Nat} {E : Nat → Nat → Int} {q : Nat} {c c' : Nat → Int} (h : ∀ v, v < n → c v = c' v) (v : Nat) : ubS n E q c v = ubS n E q c' v := by
  rw [Bool.eq_iff_iff, ubS_iff, ubS_iff]
  constructor
  · rintro ⟨S, a, b, d⟩; exact ⟨S, a, fun w hw hs => by rw [← h w hw]; exact b w hw hs, d⟩
  · rintro ⟨S, a, b, d⟩; exact ⟨S, a, fun w hw hs => by rw [h w hw]; exact b w hw hs, d⟩
theorem bitN_all : ∀ n, bitN (fun _ => true) n + 1 = 2 ^ n
  | 0 => rfl
  | n + 1 => by
    have := bitN_all n
    simp only [bitN, if_true]
    rw [Nat.pow_succ]
    omega
theorem f108 {x y : AV} {b : List (List Int)} {l : List Int} {q : Nat} (hx : IsLL x b) (hy : IsL y l) (hB : IsB b) (hq : q < b.length) (hln : l.length = b.length) {m : Nat} (hm : 5000 ≤ m) :
    evF tab it m 108 [x, y, .int .i64 (q : Int)] [] = some (.int .i64 ((bitN (ubS b.length (ed b) q (gf l)) b.length : Nat) : Int), []) := by
  obtain ⟨m, rfl⟩ : ∃ j, m = j + 1 := ⟨m - 1, by omega⟩
  have fx := hx.free; have fy := hy.free
  have hn1 := hB.n1; have hn2 := hB.n2
  have hbd := hB.bd
  have g := gr_of hB
  have lx : ∀ H, evP H .len [x] = some (.int .i64 ((b.length : Nat) : Int)) := fun H => by cases hx <;> rfl
  have e57 := fun (S i : Nat) (hi : i < b.length) H => c57 (S := S) hx hbd hi (m := m) (by omega) H
  have sh1 := fun H => p_shl (H := H) (b := b.length) (by omega)
  have sh2 := fun H => p_shl (H := H) (b := q) (by omega)
  have ha := bitN_all b.length
  have hs0 := bitN_set (S := fun j => j != q) (S' := fun _ => true) (i := q) (by simp) (fun j => by cases h : (j == q) <;> simp [bne, h]) hq
  have hp10 : ∀ i, i < b.length → 2 ^ i ≤ 1024 := fun i hi => Nat.le_trans (Nat.pow_le_pow_right (by omega) (show i ≤ 10 by omega)) (by decide)
  have hp11 : 2 ^ b.length ≤ 1024 := Nat.le_trans (Nat.pow_le_pow_right (by omega) (show b.length ≤ 10 by omega)) (by decide)
  have hpq := hp10 q hq
  have hinit : ((2 ^ b.length : Nat) : Int) - 1 - ((2 ^ q : Nat) : Int) = ((bitN (fun j => j != q) b.length : Nat) : Int) := by omega
  generalize hRR : bitN (ubS b.length (ed b) q (gf l)) b.length = R
  refine f_enter rfl rfl ?_
  generalize evF tab it m = call at *
  generalize hP1 : (2 ^ b.length : Nat) = P1 at *
  generalize hP2 : (2 ^ q : Nat) = P2 at *
  skip
  repeat' first
 | (apply s_mov; exact aW)
 | (apply c_nil)
 | (apply s_sub; exact rfl; omega)
 | (apply s_pn; exact aO; exact lx _)
 | (apply s_pn; exact aO; exact sh1 _)
 | (apply s_pn; exact aO; exact sh2 _)
 | (apply c_seq)
 | (apply c_reg)
 | (apply c_block)
 | (with_reducible apply k_c)
  refine c_loop ?_
  refine loop_gc (σ := (Nat → Bool) × Bool) (fun p => [x, y, .int .i64 ((bitN p.1 b.length : Nat) : Int), .bool p.2]) (fun _ => []) (fun p => p.1 q = false ∧ (∀ v, v < b.length → ubS b.length (ed b) q (gf l) v = true → p.1 v = true) ∧ (p.2 = false → Leg b.length (ed b) (gf l) p.1)) (fun p => 2 * bitN p.1 b.length + (if p.2 = true then 1 else 0)) ?_ _ (fun j => j != q, true) _ _ ⟨by simp, fun v hv h => by
    have : v ≠ q := fun e => by subst e; rw [ubS_q] at h; cases h
    simpa using this, by simp⟩ (by dsimp only; simp only [if_true]; omega) (by dsimp only; rw [← hinit]; exact gc_to rfl (by simp [idFreeL, AV.idFree, *]; done))
  intro ⟨U, ag⟩ ⟨hUq, hUb, hUl⟩ K hK
  dsimp only at hUq hUb hUl hK ⊢
  cases ag with
  | false =>
    have hR : bitN U b.length = R := by
      rw [← hRR]
      refine bitN_congr fun j hj => ?_
      rw [Bool.eq_iff_iff]
      exact ⟨fun h => ubS_iff.2 ⟨U, hUq, hUl rfl, h⟩, hUb j hj⟩
    rw [hR]
    repeat' first
 | (apply s_mov; exact aW)
 | (apply c_nil)
 | (apply c_seq)
 | (apply c_reg)
 | (apply c_exitH)
 | (apply c_ret)
 | (apply c_condF; exact rfl)
 | (apply c_preF; exact aK; exact aF)
 | (with_reducible apply k_c)
    exact fin_t (by (conv => lhs; whnf)) (by rfl) rfl
  | true =>
    have hUlt : bitN U b.length < P1 := by rw [← hP1]; exact bitN_lt U b.length
    repeat' first
 | (apply s_mov; exact aW)
 | (apply c_nil)
 | (apply c_seq)
 | (apply c_reg)
 | (apply c_block)
 | (apply c_skip)
 | (apply c_condT; exact rfl)
 | (with_reducible apply k_c)
    refine c_loop ?_
    refine loop_gc (σ := Nat × (Nat → Bool) × Bool) (fun p => [x, y, .int .i64 ((bitN p.2.1 b.length : Nat) : Int), .bool p.2.2, .int .i64 (p.1 : Int)]) (fun _ => []) (fun p => p.1 ≤ b.length ∧ p.2.1 q = false ∧ (∀ v, v < b.length → ubS b.length (ed b) q (gf l) v = true → p.2.1 v = true) ∧ (p.2.2 = false → p.2.1 = U ∧ ∀ v, v < p.1 → U v = true → outE b.length (ed b) U v ≤ gf l v) ∧ (p.2.2 = true → bitN p.2.1 b.length < bitN U b.length) ∧ bitN p.2.1 b.length < P1) (fun p => b.length - p.1) ?_ _ (0, U, false) _ _ ⟨by omega, hUq, hUb, fun _ => ⟨rfl, fun v hv => by omega⟩, by simp, hUlt⟩ (by show b.length - 0 < _; omega) (gc_to rfl (by simp [idFreeL, AV.idFree, *]; done))
    intro ⟨i, V, ag⟩ ⟨hi, hVq, hVb, hVf, hVt, hVlt⟩ K2 hK2
    dsimp only at hi hVq hVb hVf hVt hVlt hK2 ⊢
    by_cases hin : i < b.length
    · have shr := fun H => p_shr (H := H) (a := bitN V b.length) (b := i) (by omega)
      have shl := fun H => p_shl (H := H) (b := i) (by omega)
      have hbit := bitN_bit V hin
      have e57' := e57 (bitN V b.length) i hin
      rw [outE_congr (fun j hj => bitS_bitN V hj)] at e57'
      have hpi := hp10 i hin
      have hout : 0 ≤ outE b.length (ed b) V i := sumTo_nn fun j hj => by
        have := g.nn i j hin hj
        try dsimp only
        split <;> omega
      have hgl : gf l i = getI l (i : Int) := rfl
      have hrem : V i = true → bitN V b.length = bitN (fun j => V j && (j != i)) b.length + 2 ^ i := fun hVi => bitN_set (S := fun j => V j && (j != i)) (S' := V) (by simp) (fun j => by
        by_cases e : j = i
        · subst e; simp [hVi]
        · have : (j == i) = false := by simpa using e
          simp [bne, this]) hin
      have hpp := Nat.pow_pos (n := i) (show 0 < 2 by omega)
      have hfire : V i = true → getI l (i : Int) < outE b.length (ed b) V i → ∀ v, v < b.length → ubS b.length (ed b) q (gf l) v = true → (V v && (v != i)) = true := fun hVi hlt v hv hu => by
        have h1 := hVb v hv hu
        by_cases e : v = i
        · subst e
          have h2 := ubS_leg g (q := q) (c := gf l) v hv hu
          have h3 := outE_anti g hVb hv
          omega
        · simp [h1, e]
      generalize hDD : bitN V b.length / 2 ^ i = D at *
      have hdm : ∀ H, evP H (.bin .rem) [.int .i64 (D : Int), .int .i64 2] = some (.int .i64 ((D % 2 : Nat) : Int)) := fun H => rfl
      have hK21 := fun (W : Nat → Bool) (c : Bool) => hK2 (i + 1, W, c)
      dsimp only at hK21
      generalize hOO : outE b.length (ed b) V i = OO at *
      cases hVi : V i with
      | true =>
        have hr := hrem hVi
        have hfi := hfire hVi
        rw [hVi] at hbit
        simp only [if_true] at hbit
        have hKw := hK21 (fun j => V j && (j != i)) true
        have hbe : ((bitN (fun j => V j && (j != i)) b.length : Nat) : Int) = ((bitN V b.length : Nat) : Int) - ((2 ^ i : Nat) : Int) := by omega
        rw [hbe] at hKw
        have hBi : bitN V b.length < P1 := hVlt
        generalize hSS : bitN V b.length = SS at *
        generalize hPi : 2 ^ i = Pi at *
        by_cases hlt : getI l (i : Int) < OO
        · skip
          repeat' first
 | (apply s_mov; exact aW)
 | (apply s_gT; exact rfl)
 | (apply c_nil)
 | (apply s_pickT; exact rfl; exact aW)
 | (apply s_lss; exact rfl; all_goals (intro _; try (exfalso; omega)))
 | (apply s_eql; exact rfl; all_goals (intro _; try (exfalso; omega)))
 | (apply s_add; exact rfl; omega)
 | (apply s_sub; exact rfl; omega)
 | (apply s_pn; exact aO; exact lx _)
 | (apply s_pn; exact aO; exact shr _)
 | (apply s_pn; exact aO; exact shl _)
 | (apply s_pn; exact aO; exact hdm _)
 | (apply s_cn; exact aO; exact e57' _)
 | (apply s_idx; exact aW; exact rfl; exact aI; omega)
 | (apply s_ldI; exact rfl; omega)
 | (apply c_seq)
 | (apply c_reg)
 | (apply c_block)
 | (apply c_skip)
 | (apply c_condT; exact rfl)
 | (with_reducible apply k_c)
          all_goals first
            | (exfalso; omega)
            | (refine hKw _ _ ⟨by omega, by simp [hVq], hfi hlt, by simp, fun _ => ?_, by omega⟩ (by show b.length - (i + 1) < _; omega) (gc_to rfl (by simp [idFreeL, AV.idFree, *]; done))
               cases ag with
               | false => have := (hVf rfl).1; subst this; omega
               | true => have := hVt rfl; omega)
        · have hKv := hK21 V ag
          rw [hSS] at hKv
          repeat' first
 | (apply s_mov; exact aW)
 | (apply s_gT; exact rfl)
 | (apply c_nil)
 | (apply s_pickT; exact rfl; exact aW)
 | (apply s_lss; exact rfl; all_goals (intro _; try (exfalso; omega)))
 | (apply s_eql; exact rfl; all_goals (intro _; try (exfalso; omega)))
 | (apply s_add; exact rfl; omega)
 | (apply s_pn; exact aO; exact lx _)
 | (apply s_pn; exact aO; exact shr _)
 | (apply s_pn; exact aO; exact hdm _)
 | (apply s_cn; exact aO; exact e57' _)
 | (apply s_idx; exact aW; exact rfl; exact aI; omega)
 | (apply s_ldI; exact rfl; omega)
 | (apply c_seq)
 | (apply c_reg)
 | (apply c_block)
 | (apply c_skip)
 | (apply c_condT; exact rfl)
 | (apply c_condF; exact rfl)
 | (with_reducible apply k_c)
          all_goals first
            | (exfalso; omega)
            | (refine hKv _ _ ⟨by omega, hVq, hVb, fun e => ⟨(hVf e).1, fun v hv hs => ?_⟩, hVt, by omega⟩ (by show b.length - (i + 1) < _; omega) (gc_to rfl (by simp [idFreeL, AV.idFree, *]; done))
               have e2 := (hVf e).1
               rcases (by omega : v < i ∨ v = i) with h | rfl
               · exact (hVf e).2 v h hs
               · rw [← e2, hOO]; omega)
      | false =>
        rw [hVi] at hbit
        simp only [Bool.false_eq_true, if_false] at hbit
        have hKv := hK21 V ag
        generalize hSS : bitN V b.length = SS at *
        repeat' first
 | (apply s_mov; exact aW)
 | (apply s_gF; exact rfl)
 | (apply s_gFD; exact rfl)
 | (apply c_nil)
 | (apply s_pickF; exact rfl; exact aW)
 | (apply s_lss; exact rfl; all_goals (intro _; try (exfalso; omega)))
 | (apply s_eql; exact rfl; all_goals (intro _; try (exfalso; omega)))
 | (apply s_add; exact rfl; omega)
 | (apply s_pn; exact aO; exact lx _)
 | (apply s_pn; exact aO; exact shr _)
 | (apply s_pn; exact aO; exact hdm _)
 | (apply c_seq)
 | (apply c_reg)
 | (apply c_block)
 | (apply c_skip)
 | (apply c_condT; exact rfl)
 | (apply c_condF; exact rfl)
 | (with_reducible apply k_c)
        all_goals first
          | (exfalso; omega)
          | (refine hKv _ _ ⟨by omega, hVq, hVb, fun e => ⟨(hVf e).1, fun v hv hs => ?_⟩, hVt, by omega⟩ (by show b.length - (i + 1) < _; omega) (gc_to rfl (by simp [idFreeL, AV.idFree, *]; done))
             have e2 := (hVf e).1
             rcases (by omega : v < i ∨ v = i) with h | rfl
             · exact (hVf e).2 v h hs
             · rw [← e2, hVi] at hs; cases hs)
    · obtain rfl : i = b.length := by omega
      repeat' first
 | (apply s_mov; exact aW)
 | (apply c_nil)
 | (apply s_lss; exact rfl; all_goals (intro _; try (exfalso; omega)))
 | (apply s_pn; exact aO; exact lx _)
 | (apply c_seq)
 | (apply c_reg)
 | (apply c_exitH)
 | (apply c_condF; exact rfl)
 | (with_reducible apply k_c)
      refine hK (V, ag) _ _ ⟨hVq, hVb, fun e => ?_⟩ ?_ (gc_to rfl (by simp [idFreeL, AV.idFree, *]; done))
      · have := hVf e
        rw [this.1]
        exact fun v hv hs => this.2 v hv hs
      · dsimp only
        cases ag with
        | false => rw [(hVf rfl).1]; simp
        | true => have := hVt rfl; simp only [if_true]; omega
theorem c108 {x y : AV} {b : List (List Int)} {l : List Int} {q : Nat} (hx : IsLL x b) (hy : IsL y l) (hB : IsB b) (hq : q < b.length) (hln : l.length = b.length) {m : Nat} (hm : 5000 ≤ m) (H : Heap) :
    callPure (evF tab it m) true 108 [x, y, .int .i64 (q : Int)] H = some (.int .i64 ((bitN (ubS b.length (ed b) q (gf l)) b.length : Nat) : Int), H) :=
  callPure_free (by simp [idFreeL, AV.idFree, hx.free, hy.free]) (by simp) (f108 hx hy hB hq hln hm) rfl
set_option maxHeartbeats 8000000
theorem isL_ne {x : AV} {l : List Int} (h : IsL x l) (hn : 1 ≤ l.length) : x = fzL l := by
  cases h with
  | nil => simp at hn
  | rd l => exact (fzL_ne rfl hn).symm
theorem gf_bitL {n : Nat} {S : Nat → Bool} : ∀ j, j < n → gf (bitL n (bitN S n)) j = ind S j := fun j hj => by
  unfold gf ind
  rw [bitL_get hj, bitN_bit S hj]
  split <;> rfl
theorem gf_bitN {n : Nat} {D : Nat → Int} {d : Int} : ∀ j, j < n → gf (bitL n (bitN (fun i => decide (D i < d)) n)) j = nearS D d 1 j := fun j hj => by
  rw [gf_bitL j hj]
  unfold ind nearS
  simp
theorem bit_step {n : Nat} (S : Nat → Bool) (k : Nat) : bitN S (k + 1) = bitN S k + (if S k = true then 2 ^ k else 0) := rfl
theorem f82 {x y : AV} {b : List (List Int)} {l : List Int} {q : Nat} (hx : IsLL x b) (hy : IsL y l) (hB : IsB b) (hq : q < b.length) (hl : Near b.length q l) {m : Nat} (hm : smK ≤ m) :
    evF tab it m 82 [x, y, .int .i64 (q : Int)] [] = some (fzL (redL b l q), []) := by
  obtain ⟨m, rfl⟩ : ∃ j, m = j + 1 := ⟨m - 1, by have := smK_big; omega⟩
  have fx := hx.free
  have hn1 := hB.n1; have hn2 := hB.n2
  have hbd := hB.bd
  have g := gr_of hB
  have hd := dist_dst hB hq
  have hln := hl.len
  have hm2 : 90000 ≤ m := by have := smK_big; omega
  have hm3 : 3000000000000000 ≤ m := by have := smK_le; omega
  obtain rfl := isL_ne hy (by omega)
  have lx : ∀ H, evP H .len [x] = some (.int .i64 ((b.length : Nat) : Int)) := fun H => by cases hx <;> rfl
  have e106 := fun H => c106 hx hbd hq (m := m) (by omega) H
  have hfl := dist_len b q
  have hfar : ∀ v : Nat, v < b.length → 0 ≤ getI (dist b q).1 (v : Int) ∧ getI (dist b q).1 (v : Int) ≤ b.length := fun v hv => ⟨hd.nn hv, hd.le v hv⟩
  have hgD : ∀ v : Nat, gf (dist b q).1 v = getI (dist b q).1 (v : Int) := fun _ => rfl
  have e107 := fun (L : List Int) (e : Int) (hL : L.length = b.length) H => c107 (e := e) (isL_fz L) (rd_isL hfl) hL hfl (by omega) (m := m) (by omega) H
  have e108 := fun (L : List Int) (hL : L.length = b.length) H => c108 hx (isL_fz L) hB hq hL (m := m) (by omega) H
  have e78 := fun (L : List Int) (S : Nat) (hL : L.length = b.length) h1 H => c78 (S := S) hx (isL_fz L) hB hL h1 (m := m) (by omega) H
  have h0 : PayOk b.length (ed b) (gf (dist b q).1) (gf l) b.length (payB b.length 100 (b.length - b.length)) (gf (List.replicate b.length 0)) := ⟨fun v hv h => by have := (hfar v hv).2; rw [hgD] at h; omega, fun v hv => by
    have e : gf (List.replicate b.length 0) v = 0 := by unfold gf; rw [getI_nat]; simp [List.getD, hv]
    have := payB_nn (n := b.length) (M := 100) (by decide) (b.length - b.length)
    omega⟩
  have hps := fun (t : List Int) h1 h2 => pot_small hB hq hl (t := t) h1 h2
  have hpot : ∀ t : List Int, (∀ v, v < b.length → 0 ≤ gf t v ∧ gf t v ≤ 2732094289940000) → (∀ v, v < b.length → v ≠ q → 0 ≤ ap b.length (ed b) (gf l) (gf t) v) → (pot b.length (gf (dist b q).1) (ap b.length (ed b) (gf l) (gf t))).toNat < m := fun t h1 h2 => by
    have := hps t h1 h2
    omega
  clear hps hm
  have hz : apl b l (List.replicate b.length 0) = l := apl_zero hB hln
  refine f_enter rfl rfl ?_
  generalize hcall : evF tab it m = call at *
  generalize hF : (dist b q).1 = F at *
  generalize hvf : AV.rd 1 b.length (iL F) = vf at *
  have ff : vf.idFree = true := by rw [← hvf]; exact (rd_isL hfl).free
  have iF : IsL vf F := by rw [← hvf]; exact rd_isL hfl
  have hbig : ∀ t : List Int, t.length = b.length → (∀ v, v < b.length → 0 ≤ gf t v ∧ gf t v ≤ 2732094289950000) → ∀ v : Nat, v < b.length → -288230376151711744 ≤ getI (apl b l t) (v : Int) ∧ getI (apl b l t) (v : Int) ≤ 288230376151711744 := fun t _ ht v hv => by
    rw [apl_ap hB l t hv]
    have h1 := ap_low g (l := gf l) ht (by decide) hv
    have h2 := hl.all v hv
    have h3 : (2732094289950000 : Int) * ((b.length : Int) * 3) ≤ 2732094289950000 * (10 * 3) := Int.mul_le_mul_of_nonneg_left (by omega) (by decide)
    have h4 : gf l v = getI l (v : Int) := rfl
    omega
  skip
  repeat' first
 | (apply s_mov; exact aW)
 | (apply c_nil)
 | (apply s_cn; exact aO; exact e106 _)
 | (apply s_pn; exact aO; exact lx _)
 | (apply c_seq)
 | (apply c_reg)
 | (apply c_block)
 | (with_reducible apply k_c)
  refine c_loop ?_
  refine loop_gc (σ := Nat × List Int) (fun p => [x, fzL (apl b l p.2), .int .i64 (q : Int), vf, .int .i64 (p.1 : Int)]) (fun _ => []) (fun p => p.1 ≤ b.length ∧ p.2.length = b.length ∧ PayOk b.length (ed b) (gf F) (gf l) p.1 (payB b.length 100 (b.length - p.1)) (gf p.2)) (fun p => p.1) ?_ _ (b.length, List.replicate b.length 0) _ _ ⟨by dsimp only; omega, by simp, h0⟩ (by dsimp only; omega) (by dsimp only; rw [hz]; have := (isL_fz l).free; exact gc_to rfl (by simp [idFreeL, AV.idFree, *]; done))
  intro ⟨d, t⟩ ⟨hdn, htl, hok⟩ K hK
  dsimp only at hdn htl hok hK ⊢
  have fz := (isL_fz (apl b l t)).free
  cases d with
  | succ d =>
    have hpb := payB_bound hn2 (M := 100) (by decide) (k := b.length - (d + 1)) (by omega)
    have hpb1 := payB_bound hn2 (M := 100) (by decide) (k := b.length - d) (by omega)
    have hpe : payB b.length 100 (b.length - d) = 100 + payB b.length 100 (b.length - (d + 1)) * (b.length * 3) + payB b.length 100 (b.length - (d + 1)) := by
      rw [show b.length - d = (b.length - (d + 1)) + 1 by omega]; rfl
    have hC0 : 0 ≤ payB b.length 100 (b.length - (d + 1)) * ((b.length : Int) * 3) := Int.mul_nonneg hpb.1 (by omega)
    have hlowt := fun (v : Nat) (hv : v < b.length) => (ap_low g (l := gf l) (t := gf t) hok.nn hpb.1 hv).1
    generalize hBB : payB b.length 100 (b.length - (d + 1)) = BB at *
    generalize hCC : BB * ((b.length : Int) * 3) = CC at *
    have hS := bitN_lt (fun i => decide (gf F i < ((d + 1 : Nat) : Int)))
    have hp11 : ∀ k, k ≤ b.length → 2 ^ k ≤ 1024 := fun k hk => Nat.le_trans (Nat.pow_le_pow_right (by omega) (show k ≤ 10 by omega)) (by decide)
    generalize hvz : fzL (apl b l t) = vz at *
    repeat' first
 | (apply s_mov; exact aW)
 | (apply c_nil)
 | (apply s_geq; exact rfl; all_goals (intro _; try (exfalso; omega)))
 | (apply c_seq)
 | (apply c_reg)
 | (apply c_block)
 | (apply c_skip)
 | (apply c_condT; exact rfl)
 | (with_reducible apply k_c)
    refine c_loop ?_
    refine loop_gc (σ := Nat) (fun k => [x, vz, .int .i64 (q : Int), vf, .int .i64 ((d + 1 : Nat) : Int), .int .i64 ((bitN (fun i => decide (gf F i < ((d + 1 : Nat) : Int))) k : Nat) : Int), .int .i64 (k : Int)]) (fun _ => []) (fun k => k ≤ b.length) (fun k => b.length - k) ?_ _ 0 _ _ (by omega) (by omega) (gc_to rfl (by simp [idFreeL, AV.idFree, *]; done))
    intro k hk K2 hK2
    have hSk := hS k
    have hpk := hp11 k hk
    have hK21 := hK2 (k + 1)
    rw [bit_step] at hK21
    by_cases hkn : k < b.length
    · have shl := fun H => p_shl (H := H) (b := k) (by omega)
      have hgk := hgD k
      have hgk' : getI F (k : Int) = gf F k := hgk.symm
      generalize hP : 2 ^ k = P at *
      generalize hSS : bitN (fun i => decide (gf F i < ((d + 1 : Nat) : Int))) k = SS at *
      by_cases hlt : getI F (k : Int) < ((d + 1 : Nat) : Int)
      · rw [if_pos (by rw [hgk]; simpa using hlt), Int.natCast_add] at hK21
        repeat' first
 | (apply s_mov; exact aW)
 | (apply c_nil)
 | (apply s_lss; exact rfl; all_goals (intro _; try (exfalso; omega)))
 | (apply s_add; exact rfl; omega)
 | (apply s_pn; exact aO; exact lx _)
 | (apply s_pn; exact aO; exact shl _)
 | (apply s_idx; exact aW; exact rfl; exact aI; omega)
 | (apply s_ldI; exact rfl; omega)
 | (apply c_seq)
 | (apply c_reg)
 | (apply c_block)
 | (apply c_skip)
 | (apply c_condT; exact rfl)
 | (with_reducible apply k_c)
        all_goals first | exact hK21 _ _ (by omega) (by omega) (gc_to rfl (by simp [idFreeL, AV.idFree, *]; done)) | (exfalso; omega)
      · rw [if_neg (by rw [hgk]; simpa using hlt), Nat.add_zero] at hK21
        repeat' first
 | (apply s_mov; exact aW)
 | (apply c_nil)
 | (apply s_lss; exact rfl; all_goals (intro _; try (exfalso; omega)))
 | (apply s_add; exact rfl; omega)
 | (apply s_pn; exact aO; exact lx _)
 | (apply s_idx; exact aW; exact rfl; exact aI; omega)
 | (apply s_ldI; exact rfl; omega)
 | (apply c_seq)
 | (apply c_reg)
 | (apply c_block)
 | (apply c_skip)
 | (apply c_condT; exact rfl)
 | (apply c_condF; exact rfl)
 | (with_reducible apply k_c)
        all_goals first | exact hK21 _ _ (by omega) (by omega) (gc_to rfl (by simp [idFreeL, AV.idFree, *]; done)) | (exfalso; omega)
    · obtain rfl : k = b.length := by omega
      have hgN := gf_bitN (n := b.length) (D := gf F) (d := ((d + 1 : Nat) : Int))
      generalize hSS : bitN (fun i => decide (gf F i < ((d + 1 : Nat) : Int))) b.length = SS at *
      skip
      repeat' first
 | (apply s_mov; exact aW)
 | (apply c_nil)
 | (apply s_lss; exact rfl; all_goals (intro _; try (exfalso; omega)))
 | (apply s_pn; exact aO; exact lx _)
 | (apply c_seq)
 | (apply c_reg)
 | (apply c_block)
 | (apply c_exitH)
 | (apply c_condF; exact rfl)
 | (apply c_preF; exact aK; exact aF)
 | (with_reducible apply k_c)
      refine c_loop ?_
      refine loop_gc (σ := List Int × Int) (fun p => [x, fzL (apl b l p.1), .int .i64 (q : Int), vf, .int .i64 ((d + 1 : Nat) : Int), .int .i64 (SS : Int)]) (fun _ => []) (fun p => p.1.length = b.length ∧ 0 ≤ p.2 ∧ p.2 ≤ 100 + CC ∧ ∀ j, j < b.length → gf t j + nearS (gf F) ((d + 1 : Nat) : Int) p.2 j = gf p.1 j) (fun p => (100 + CC - p.2).toNat) ?_ _ (t, 0) _ _ ⟨htl, Int.le_refl _, by dsimp only; omega, fun j _ => by unfold nearS; simp⟩ (by dsimp only; omega) (by dsimp only; rw [hvz]; exact gc_to rfl (by simp [idFreeL, AV.idFree, *]; done))
      intro ⟨t', c⟩ ⟨htl', hc0, hc1, hct⟩ K3 hK3
      dsimp only at htl' hc0 hc1 hct hK3 ⊢
      have hap : ∀ v, v < b.length → ¬ gf F v < ((d + 1 : Nat) : Int) → ap b.length (ed b) (gf l) (gf t') v = ap b.length (ed b) (gf l) (gf t) v + c * getsN b.length (ed b) (gf F) ((d + 1 : Nat) : Int) v := fun v hv hge => by
        rw [← ap_congr hv hct rfl]
        unfold ap
        rw [net_add, net_near hge]
        omega
      have htb : ∀ v, v < b.length → 0 ≤ gf t' v ∧ gf t' v ≤ BB + (100 + CC) := fun v hv => by
        have h1 := hok.nn v hv
        rw [← hct v hv]
        unfold nearS
        split <;> omega
      have hAl := apl_len b l t'
      have hAg : ∀ v, v < b.length → getI (apl b l t') (v : Int) = ap b.length (ed b) (gf l) (gf t') v := fun v hv => apl_ap hB l t' hv
      have e107' := e107 (apl b l t') ((d + 1 : Nat) : Int) hAl
      have e78' := e78 (apl b l t') SS hAl (hbig t' htl' fun v hv => by have := htb v hv; omega)
      rw [apl_pl hB htl'] at e78'
      have fz' := (isL_fz (apl b l t')).free
      by_cases hdebt : ∃ v : Nat, v < b.length ∧ getI F (v : Int) = ((d + 1 : Nat) : Int) ∧ getI (apl b l t') (v : Int) < 0
      · have hcC : c < 100 + CC := by
          obtain ⟨v, hv, h1, h2⟩ := hdebt
          have hvq : v ≠ q := fun e => by subst e; have := hd.zero; rw [hgD] at this; omega
          have hgp := gets_pos g hd hv hvq
          rw [hgD, h1] at hgp
          rw [hAg v hv, hap v hv (by rw [hgD]; omega)] at h2
          have h3 := hlowt v hv
          have h4 := (hl.oth v hv hvq).1
          have h5 : gf l v = getI l (v : Int) := rfl
          have h6 := Int.mul_le_mul_of_nonneg_left hgp hc0
          rw [Int.mul_one] at h6
          omega
        simp only [hdebt, decide_true] at e107'
        have hK31 := hK3 (pl t' (bitL b.length SS), c + 1)
        dsimp only at hK31
        have fz2 := (isL_fz (apl b l (pl t' (bitL b.length SS)))).free
        generalize fzL (apl b l (pl t' (bitL b.length SS))) = v2 at *
        generalize fzL (apl b l t') = v1 at *
        repeat' first
 | (apply s_mov; exact aW)
 | (apply c_nil)
 | (apply s_cn; exact aO; exact e107' _)
 | (apply s_cn; exact aO; exact e78' _)
 | (apply c_seq)
 | (apply c_reg)
 | (apply c_block)
 | (apply c_skip)
 | (apply c_condT; exact rfl)
 | (with_reducible apply k_c)
        refine hK31 _ _ ⟨by rw [pl_len]; exact htl', by omega, by omega, fun j hj => ?_⟩ (by omega) (gc_to rfl (by simp [idFreeL, AV.idFree, *]; done))
        have e1 : gf (pl t' (bitL b.length SS)) j = gf t' j + gf (bitL b.length SS) j := pl_get (by omega)
        rw [e1, hgN j hj, ← hct j hj]
        unfold nearS
        split <;> omega
      · simp only [hdebt, decide_false] at e107'
        have hK1 := hK (d, t')
        dsimp only at hK1
        generalize fzL (apl b l t') = v1 at *
        have he : ((d + 1 : Nat) : Int) - 1 = (d : Int) := by omega
        repeat' first
 | (apply s_mov; exact aW)
 | (apply c_nil)
 | (apply s_sub; exact rfl; omega)
 | (apply s_cn; exact aO; exact e107' _)
 | (apply c_seq)
 | (apply c_reg)
 | (apply c_exitH)
 | (apply c_condF; exact rfl)
 | (apply c_preF; exact aK; exact aF)
 | (with_reducible apply k_c)
        refine hK1 _ _ ⟨by omega, htl', ⟨fun v hv hlt => ?_, fun v hv => ?_⟩⟩ (by omega) (by
          rw [← he]
          exact gc_to rfl (by simp [idFreeL, AV.idFree, *]; done))
        · by_cases e : gf F v = ((d + 1 : Nat) : Int)
          · rw [← hAg v hv]
            apply Classical.byContradiction
            intro hn
            exact hdebt ⟨v, hv, by rw [← hgD]; exact e, by omega⟩
          · have h1 := hok.paid v hv (by omega)
            rw [hap v hv (by omega)]
            have := Int.mul_nonneg hc0 (gets_nn g (D := gf F) (d := ((d + 1 : Nat) : Int)) hv).1
            omega
        · have := htb v hv
          omega
    all_goals exact 0
  | zero =>
    have hpb := payB_bound hn2 (M := 100) (by decide) (k := b.length - 0) (by omega)
    have hnn0 : ∀ v, v < b.length → v ≠ q → 0 ≤ ap b.length (ed b) (gf l) (gf t) v := fun v hv hvq => hok.paid v hv (by have := hd.pos v hv hvq; omega)
    have htb0 : ∀ v, v < b.length → 0 ≤ gf t v ∧ gf t v ≤ 2732094289936000 := fun v hv => by have := hok.nn v hv; omega
    have hpot0 := hpot t (fun v hv => by have := htb0 v hv; omega) hnn0
    have htq := htb0 q hq
    have e108' := e108 (apl b l t) (apl_len b l t)
    rw [show ubS b.length (ed b) q (gf (apl b l t)) = ubS b.length (ed b) q (ap b.length (ed b) (gf l) (gf t)) from funext fun v => ubS_congr (fun w hw => apl_ap hB l t hw) v] at e108'
    generalize hvz : fzL (apl b l t) = vz at *
    clear hpot
    repeat' first
 | (apply s_mov; exact aW)
 | (apply c_nil)
 | (apply s_geq; exact rfl; all_goals (intro _; try (exfalso; omega)))
 | (apply s_cn; exact aO; exact e108' _)
 | (apply c_seq)
 | (apply c_reg)
 | (apply c_block)
 | (apply c_exitH)
 | (apply c_condF; exact rfl)
 | (apply c_preF; exact aK; exact aF)
 | (with_reducible apply k_c)
    refine c_loop ?_
    refine loop_gc (σ := List Int) (fun t => [x, fzL (apl b l t), .int .i64 (q : Int), .int .i64 ((bitN (ubS b.length (ed b) q (ap b.length (ed b) (gf l) (gf t))) b.length : Nat) : Int)]) (fun _ => []) (fun t' => t'.length = b.length ∧ (∀ v, v < b.length → v ≠ q → 0 ≤ ap b.length (ed b) (gf l) (gf t') v) ∧ (∀ v, v < b.length → 0 ≤ gf t' v) ∧ gf t' q = gf t q) (fun t => (pot b.length (gf F) (ap b.length (ed b) (gf l) (gf t))).toNat) ?_ _ t _ _ ⟨htl, hnn0, fun v hv => (htb0 v hv).1, rfl⟩ hpot0 (by rw [hvz]; exact gc_to rfl (by simp [idFreeL, AV.idFree, *]; done))
    intro t' ⟨htl', hnn, ht0, htq'⟩ K2 hK2
    have htb : ∀ v, v < b.length → 0 ≤ gf t' v ∧ gf t' v ≤ 2732094289946000 := fun v hv => by
      have h1 := upper_le g hd (t := gf t') (B := 100) (by decide) (fun w hw hwq => by
        have := hnn w hw hwq
        have h2 := (hl.oth w hw hwq).2
        have h3 : gf l w = getI l (w : Int) := rfl
        unfold ap at this
        omega) b.length v hv (hd.le v hv)
      have h2 : (b.length : Int) * (b.length * 100) ≤ 10 * (10 * 100) := Int.mul_le_mul (by omega) (by omega) (by omega) (by decide)
      have := ht0 v hv
      omega
    have hleg := ubS_leg g (q := q) (c := ap b.length (ed b) (gf l) (gf t'))
    have hqn := ubS_q (n := b.length) (E := ed b) (q := q) (c := ap b.length (ed b) (gf l) (gf t'))
    have hnr := fun h => not_red (E := ed b) (q := q) hnn h
    have hmax : ∀ S : Nat → Bool, S q = false → Leg b.length (ed b) (ap b.length (ed b) (gf l) (gf t')) S → ∀ v, S v = true → ubS b.length (ed b) q (ap b.length (ed b) (gf l) (gf t')) v = true := fun S h1 h2 v h3 => ubS_iff.2 ⟨S, h1, h2, h3⟩
    generalize hUU : ubS b.length (ed b) q (ap b.length (ed b) (gf l) (gf t')) = U at *
    have hUb := fun j hj => bitN_bit U (n := b.length) (i := j) hj
    by_cases hz0 : bitN U b.length = 0
    · have hred : Red b.length (ed b) q (gf (apl b l t')) := by
        refine Red.congr (c := ap b.length (ed b) (gf l) (gf t')) ?_ fun v hv => (apl_ap hB l t' hv).symm
        apply Classical.byContradiction
        intro hn
        obtain ⟨S, h1, ⟨v, hv, hs⟩, h2⟩ := hnr hn
        have h3 := hmax S h1 h2 v hs
        have h4 := hUb v hv
        rw [hz0, h3] at h4
        simp at h4
      have hfin := redL_eq hB hq hred
      rw [hfin]
      have fR := (isL_fz (redL b l q)).free
      generalize fzL (redL b l q) = vR at *
      rw [hz0]
      repeat' first
 | (apply s_mov; exact aW)
 | (apply c_nil)
 | (apply s_neq; exact rfl; all_goals (intro _; try (exfalso; omega)))
 | (apply c_seq)
 | (apply c_reg)
 | (apply c_exitH)
 | (apply c_ret)
 | (apply c_condF; exact rfl)
 | (apply c_preF; exact aK; exact aF)
 | (with_reducible apply k_c)
      all_goals first
        | (exfalso; omega)
        | skip
      exact fin_t (by (conv => lhs; whnf)) (by first | assumption | rfl) rfl
    · have hex : ∃ w, w < b.length ∧ U w = true := by
        apply Classical.byContradiction
        intro hc
        apply hz0
        rw [← bitN_none b.length]
        exact bitN_congr fun j hj => by
          cases h : U j with
          | false => rfl
          | true => exact absurd ⟨j, hj, h⟩ hc
      obtain ⟨w, hw, hws⟩ := hex
      have hgt : ∀ j, j < b.length → gf t' j + ind U j = gf (pl t' (bitL b.length (bitN U b.length))) j := fun j hj => by
        have e1 : gf (pl t' (bitL b.length (bitN U b.length))) j = gf t' j + gf (bitL b.length (bitN U b.length)) j := pl_get (by omega)
        rw [e1, gf_bitL j hj]
      have hfire := leg_fire g hleg hnn
      have hpot' := leg_pot g hd (c := ap b.length (ed b) (gf l) (gf t')) (S := U) hqn hw hws
      have hapA : ∀ v, v < b.length → ap b.length (ed b) (gf l) (gf (pl t' (bitL b.length (bitN U b.length)))) v = ap b.length (ed b) (ap b.length (ed b) (gf l) (gf t')) (ind U) v := fun v hv => by
        rw [ap_ap]
        exact (ap_congr hv hgt rfl).symm
      have hpe : pot b.length (gf F) (ap b.length (ed b) (gf l) (gf (pl t' (bitL b.length (bitN U b.length))))) = pot b.length (gf F) (ap b.length (ed b) (ap b.length (ed b) (gf l) (gf t')) (ind U)) := sumTo_congr fun i hi => by rw [hapA i hi]
      have hnn' : ∀ v, v < b.length → v ≠ q → 0 ≤ ap b.length (ed b) (gf l) (gf (pl t' (bitL b.length (bitN U b.length)))) v := fun v hv hvq => by rw [hapA v hv]; exact hfire v hv hvq
      have hp0 := pot_nn hd hnn'
      have e78' := e78 (apl b l t') (bitN U b.length) (apl_len b l t') (hbig t' htl' fun v hv => by have := htb v hv; omega)
      rw [apl_pl hB htl'] at e78'
      have hPl : (pl t' (bitL b.length (bitN U b.length))).length = b.length := by rw [pl_len]; exact htl'
      generalize hTT : pl t' (bitL b.length (bitN U b.length)) = T at *
      have e108' := e108 (apl b l T) (apl_len b l T)
      rw [show ubS b.length (ed b) q (gf (apl b l T)) = ubS b.length (ed b) q (ap b.length (ed b) (gf l) (gf T)) from funext fun v => ubS_congr (fun w hw => apl_ap hB l T hw) v] at e108'
      have hK21 := hK2 T
      try dsimp only at hK21
      have f1 := (isL_fz (apl b l t')).free
      have f2 := (isL_fz (apl b l T)).free
      generalize fzL (apl b l T) = v2 at *
      generalize fzL (apl b l t') = v1 at *
      generalize hSS : bitN U b.length = SS at *
      generalize bitN (ubS b.length (ed b) q (ap b.length (ed b) (gf l) (gf T))) b.length = S2 at *
      repeat' first
 | (apply s_mov; exact aW)
 | (apply c_nil)
 | (apply s_neq; exact rfl; all_goals (intro _; try (exfalso; omega)))
 | (apply s_cn; exact aO; exact e78' _)
 | (apply s_cn; exact aO; exact e108' _)
 | (apply c_seq)
 | (apply c_reg)
 | (apply c_block)
 | (apply c_skip)
 | (apply c_condT; exact rfl)
 | (with_reducible apply k_c)
      all_goals first
        | (exfalso; omega)
        | (refine hK21 _ _ ⟨hPl, hnn', fun v hv => ?_, ?_⟩ (by omega) (gc_to rfl (by simp [idFreeL, AV.idFree, *]; done))
           · rw [← hgt v hv]
             have := ht0 v hv
             unfold ind
             split <;> omega
           · rw [← hgt q hq, ← htq']
             unfold ind
             rw [hqn]
             simp)
attribute [local go_sem] gc subHeap reach_skip ren_free reach_new reach_newp reach_end rangeL roots boxCells nodupB posOf renL AV.ren pickO renH renO looks look bindEnv envOf reach_int reach_bool reach_nilS reach_rd putRow cells_sl cells_int cells_bool cells_nilS cells_rd cells_agg reach_agg reach_tup idFreeL idf_sl idf_ptr idf_int idf_bool idf_nilS idf_rd reach_fn reach_mp cells_fn cells_ptr cells_mp idf_mp idf_fn idf_agg idf_tup
set_option maxHeartbeats 8000000
theorem c58 {x y : AV} {b : List (List Int)} {l : List Int} {q : Nat} (hx : IsLL x b) (hy : IsL y l) (hB : IsB b) (hq : q < b.length) (hl : Near b.length q l) {m : Nat} (hm : smK + 1 ≤ m) (H : Heap) :
    callPure (evF tab it m) true 58 [x, y, .int .i64 (q : Int)] H = some (fzL (redL b l q), H) := by
  have f58 : evF tab it m 58 [x, y, .int .i64 (q : Int)] [] = some (fzL (redL b l q), []) := by
    obtain ⟨m, rfl⟩ : ∃ j, m = j + 1 := ⟨m - 1, by omega⟩
    have fx := hx.free; have fy := hy.free
    have hn1 := hB.n1; have hn2 := hB.n2
    have hln := hl.len
    have ap0 := fun call H => e_appT (call := call) (H := H) hy (by omega) (by omega)
    have il := isL_fz l
    have e82 := fun H => callPure_free (H := H) (by simp [idFreeL, AV.idFree, hx.free, il.free]) (by simp) (f82 hx il hB hq hl (m := m) (by omega)) (isL_fz _).free
    have fz := (isL_fz (redL b l q)).free
    have fl := il.free
    clear hm
    refine f_enter rfl rfl ?_
    generalize evF tab it m = call at *
    generalize fzL (redL b l q) = vz at *
    generalize fzL l = vl at *
    repeat' first
 | (apply s_mov; exact aW)
 | (apply c_nil)
 | (apply s_en; exact aO; exact ap0 _ _)
 | (apply s_cn; exact aO; exact e82 _)
 | (apply c_seq)
 | (apply c_reg)
 | (apply c_ret)
 | (with_reducible apply k_c)
    exact fin_t (by (conv => lhs; whnf)) (by first | assumption | rfl) rfl
  exact callPure_free (by simp [idFreeL, AV.idFree, hx.free, hy.free]) (by simp) f58 (isL_fz _).free
def pl2 (a c : List Int) (k : Int) : List Int := (List.range a.length).map fun (i : Nat) => 2 * getI a (i : Int) + k * getI c (i : Int)
theorem pl2_len (a c : List Int) (k : Int) : (pl2 a c k).length = a.length := by simp [pl2]
theorem pl2_get {a c : List Int} {k : Int} {i : Nat} (h : i < a.length) : getI (pl2 a c k) (i : Int) = 2 * getI a (i : Int) + k * getI c (i : Int) := by
  rw [getI_nat]
  simp [pl2, List.getD, h]
theorem f59 {x y : AV} {a c : List Int} {k : Int} (hx : IsL x a) (hy : IsL y c) (h0 : 1 ≤ a.length) (hl : a.length ≤ 12) (hac : c.length = a.length) (hk : 0 ≤ k ∧ k ≤ 1)
    (hb : ∀ v : Nat, v < a.length → -288230376151711744 ≤ getI a (v : Int) ∧ getI a (v : Int) ≤ 288230376151711744) (hc : ∀ v : Nat, v < a.length → -288230376151711744 ≤ getI c (v : Int) ∧ getI c (v : Int) ≤ 288230376151711744)
    {m : Nat} (hm : 100 ≤ m) : evF tab it m 59 [x, y, .int .i64 k] [] = some (ownV 0 (iL (pl2 a c k)), owH (iL (pl2 a c k))) := by
  obtain ⟨m, rfl⟩ : ∃ j, m = j + 1 := ⟨m - 1, by omega⟩
  have fx := hx.free; have fy := hy.free
  have la : ∀ H, evP H .len [x] = some (.int .i64 ((a.length : Nat) : Int)) := fun H => p_lenI hx
  have hRl := pl2_len a c k
  have hRg := fun (i : Nat) (h : i < a.length) => pl2_get (c := c) (k := k) h
  generalize pl2 a c k = R at *
  refine f_enter rfl rfl ?_
  generalize evF tab it m = call at *
  have own_gc : ∀ (i : Nat) (l : List AV), gc 0 [x, y, .int .i64 k, ownV 0 l, .int .i64 (i : Int)] (owH l) = some ([x, y, .int .i64 k, ownV 0 l, .int .i64 (i : Int)], owH l) := fun i l => by
    cases l <;> simp [ownV, owH, go_sem, fx, fy]
  repeat' first
 | (apply s_mov; exact aW)
 | (apply c_nil)
 | (apply c_seq)
 | (apply c_reg)
 | (apply c_block)
 | (with_reducible apply k_c)
  refine c_loop ?_
  refine loop_gc (σ := Nat) (fun i => [x, y, .int .i64 k, ownV 0 (iL (R.take i)), .int .i64 (i : Int)]) (fun i => owH (iL (R.take i))) (fun i => i ≤ a.length) (fun i => a.length - i) ?_ _ 0 _ _ (by omega) (by omega) (own_gc 0 [])
  intro i hi K hK
  by_cases hin : i < a.length
  · have h1 := hb i hin
    have h2 := hc i hin
    have h3 := hRg i hin
    have mu1 := fun H => p_mul2 (H := H) (a := getI a (i : Int)) (by omega)
    have hkc : k * getI c (i : Int) = 0 ∨ k * getI c (i : Int) = getI c (i : Int) := by
      rcases (by omega : k = 0 ∨ k = 1) with rfl | rfl
      · left; rw [Int.zero_mul]
      · right; rw [Int.one_mul]
    have mu2 := fun H => p_mul (H := H) (a := k) (c := getI c (i : Int)) (by omega)
    have hstep : R.take (i + 1) = R.take i ++ [2 * getI a (i : Int) + k * getI c (i : Int)] := by
      rw [← List.take_append_getElem (by omega : i < R.length)]
      congr 1
      rw [getI_nat] at h3
      simpa [List.getD, show i < R.length by omega] using h3
    have hK1 := hK (i + 1)
    rw [hstep] at hK1
    have e1 : ∀ z : Int, iL (R.take i ++ [z]) = iL (R.take i) ++ [.int .i64 z] := fun z => by simp [iL]
    rw [e1] at hK1
    have hAl : (iL (R.take i)).length ≤ 12 := by rw [iL_len]; simp; omega
    generalize iL (R.take i) = A at *
    generalize hQ : k * getI c (i : Int) = Q at *
    rcases A with _ | ⟨u, us⟩
    · simp only [ownV, owH] at *
      repeat' first
 | (apply s_mov; exact aW)
 | (apply c_nil)
 | (apply s_lss; exact rfl; all_goals (intro _; try (exfalso; omega)))
 | (apply s_add; exact rfl; omega)
 | (apply s_pn; exact aO; exact la _)
 | (apply s_pn; exact aO; exact mu1 _)
 | (apply s_pn; exact aO; exact mu2 _)
 | (apply s_en; exact aO; exact e_bld1 rfl rfl rfl rfl)
 | (apply s_en; exact aO; exact e_app_nil rfl (by omega) (by decide))
 | (apply s_idx; exact aW; exact rfl; exact aI; omega)
 | (apply s_ldI; exact rfl; omega)
 | (apply c_seq)
 | (apply c_reg)
 | (apply c_block)
 | (apply c_skip)
 | (apply c_condT; exact rfl)
 | (with_reducible apply k_c)
      all_goals first | exact hK1 _ _ (by omega) (by omega) (by simp [ownV, owH, go_sem, fx, fy]) | (exfalso; omega)
    · simp only [ownV, owH] at *
      repeat' first
 | (apply s_mov; exact aW)
 | (apply c_nil)
 | (apply s_lss; exact rfl; all_goals (intro _; try (exfalso; omega)))
 | (apply s_add; exact rfl; omega)
 | (apply s_pn; exact aO; exact la _)
 | (apply s_pn; exact aO; exact mu1 _)
 | (apply s_pn; exact aO; exact mu2 _)
 | (apply s_en; exact aO; exact e_bld1 rfl rfl rfl rfl)
 | (apply s_en; exact aO; exact e_app_sl rfl rfl (by omega) (by simp at hAl; unfold most; omega))
 | (apply s_idx; exact aW; exact rfl; exact aI; omega)
 | (apply s_ldI; exact rfl; omega)
 | (apply c_seq)
 | (apply c_reg)
 | (apply c_block)
 | (apply c_skip)
 | (apply c_condT; exact rfl)
 | (with_reducible apply k_c)
      all_goals first | exact hK1 _ _ (by omega) (by omega) (by simp [ownV, owH, go_sem, fx, fy]) | (exfalso; omega)
  · obtain rfl : i = a.length := by omega
    have hall : R.take a.length = R := List.take_of_length_le (by omega)
    rw [hall]
    generalize hA : iL R = A at *
    repeat' first
 | (apply s_mov; exact aW)
 | (apply c_nil)
 | (apply s_lss; exact rfl; all_goals (intro _; try (exfalso; omega)))
 | (apply s_pn; exact aO; exact la _)
 | (apply c_seq)
 | (apply c_reg)
 | (apply c_exitH)
 | (apply c_condF; exact rfl)
 | (with_reducible apply k_c)
    apply c_pre (vs := [ownV 0 A]) (H' := owH A)
    · cases A <;> simp [ownV, owH, go_sem, look, looks, bindEnv, envOf]
    repeat' first
 | (apply s_mov; exact aW)
 | (apply c_nil)
 | (apply c_seq)
 | (apply c_reg)
 | (apply c_ret)
 | (with_reducible apply k_c)
    cases A <;> simp [finish, ress, resOf, look, tupOf, ownV, owH, go_sem]
theorem c59p {args : List AV} {x y : AV} {a c : List Int} {k : Int} (hx : IsL x a) (hy : IsL y c) (h0 : 1 ≤ a.length) (hl : a.length ≤ 12) (hac : c.length = a.length) (hk : 0 ≤ k ∧ k ≤ 1)
    (hb : ∀ v : Nat, v < a.length → -288230376151711744 ≤ getI a (v : Int) ∧ getI a (v : Int) ≤ 288230376151711744) (hc : ∀ v : Nat, v < a.length → -288230376151711744 ≤ getI c (v : Int) ∧ getI c (v : Int) ≤ 288230376151711744)
    {m : Nat} (hm : 100 ≤ m) (H : Heap) (ha : frzL H 40 args = some [x, y, .int .i64 k]) : callPure (evF tab it m) true 59 args H = some (fzL (pl2 a c k), H) :=
  callPure_own ha (f59 hx hy h0 hl hac hk hb hc hm) (own_noRd _) (owH_noRd _) (frz_own _)
def topZ (a : Int) (j : Nat) : Int := if a < 0 then -((a.natAbs / 2 ^ j : Nat) : Int) else ((a.natAbs / 2 ^ j : Nat) : Int)
def digZ (a : Int) (j : Nat) : Int := if a < 0 then -((a.natAbs / 2 ^ j % 2 : Nat) : Int) else ((a.natAbs / 2 ^ j % 2 : Nat) : Int)
theorem topZ_step (a : Int) (j : Nat) : topZ a j = 2 * topZ a (j + 1) + digZ a j := by
  have h : a.natAbs / 2 ^ (j + 1) = a.natAbs / 2 ^ j / 2 := by rw [Nat.pow_succ, Nat.div_div_eq_div_mul]
  unfold topZ digZ
  rw [h]
  split <;> omega
theorem topZ_zero (a : Int) : topZ a 0 = a := by
  unfold topZ
  rw [Nat.pow_zero, Nat.div_one]
  split <;> omega
theorem topZ_big {a : Int} (h : -1048576 ≤ a ∧ a ≤ 1048576) : topZ a 41 = 0 := by
  have e : (2 : Nat) ^ 41 = 2199023255552 := by decide
  have : a.natAbs / 2 ^ 41 = 0 := Nat.div_eq_of_lt (by rw [e]; omega)
  unfold topZ
  rw [this]
  split <;> rfl
theorem topZ_le {a : Int} (h : -1048576 ≤ a ∧ a ≤ 1048576) (j : Nat) : -1048576 ≤ topZ a j ∧ topZ a j ≤ 1048576 := by
  have h1 : a.natAbs / 2 ^ j ≤ a.natAbs := Nat.div_le_self _ _
  have h2 : a.natAbs ≤ 1048576 := by omega
  unfold topZ
  generalize a.natAbs / 2 ^ j = N at *
  split <;> omega
theorem digZ_le (a : Int) (j : Nat) : -1 ≤ digZ a j ∧ digZ a j ≤ 1 := by
  unfold digZ
  generalize a.natAbs / 2 ^ j = N at *
  split <;> omega
def topL (s : List Int) (j : Nat) : List Int := s.map fun a => topZ a j
def digL (s : List Int) (j : Nat) : List Int := s.map fun a => digZ a j
theorem topL_get {s : List Int} {j v : Nat} (h : v < s.length) : getI (topL s j) (v : Int) = topZ (getI s (v : Int)) j := by
  rw [getI_nat, getI_nat]; simp [topL, List.getD, h]
theorem digL_get {s : List Int} {j v : Nat} (h : v < s.length) : getI (digL s j) (v : Int) = digZ (getI s (v : Int)) j := by
  rw [getI_nat, getI_nat]; simp [digL, List.getD, h]
theorem apl_digit {b : List (List Int)} (hB : IsB b) {s T : List Int} (hs : s.length = b.length) (hT : T.length = b.length) (j : Nat) : pl2 (apl b (topL s (j + 1)) T) (digL s j) 1 = apl b (topL s j) (pl2 T T 0) := by
  refine ext_getI (by rw [pl2_len, apl_len, apl_len]) fun i hi => ?_
  rw [pl2_len, apl_len] at hi
  rw [pl2_get (by rw [apl_len]; exact hi), apl_ap hB _ _ hi, apl_ap hB _ _ hi, digL_get (by omega)]
  have e1 : gf (topL s (j + 1)) i = topZ (getI s (i : Int)) (j + 1) := topL_get (by omega)
  have e2 : gf (topL s j) i = topZ (getI s (i : Int)) j := topL_get (by omega)
  have e3 : net b.length (ed b) (gf (pl2 T T 0)) i = 2 * net b.length (ed b) (gf T) i := by
    rw [← net_mul]
    exact net_congr hi fun k hk => by
      have := pl2_get (a := T) (c := T) (k := 0) (i := k) (by omega)
      unfold gf
      rw [this, Int.zero_mul]
      omega
  have e4 := topZ_step (getI s (i : Int)) j
  unfold ap
  rw [e1, e2, e3, e4]
  omega
end Go.AM.Ch
