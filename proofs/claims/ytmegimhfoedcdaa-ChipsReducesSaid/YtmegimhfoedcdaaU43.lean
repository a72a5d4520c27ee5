/- A part of the proof: U43. -/
import Derived.Test.YtmegimhfoedcdaaU42
import Derived.Test.YtmegimhfoedcdaaU29
set_option linter.unusedSectionVars false
set_option linter.unusedVariables false
set_option linter.unusedSimpArgs false
namespace Go.AM.Ch
set_option maxHeartbeats 8000000
/-- the places of a number -/
def bitS (S : Nat) (j : Nat) : Bool := S / 2 ^ j % 2 == 1
theorem bitS_bitN (S : Nat → Bool) {n i : Nat} (h : i < n) : bitS (bitN S n) i = S i := by
  unfold bitS
  rw [bitN_bit S h]
  cases S i <;> rfl
theorem outE_congr {n : Nat} {E : Nat → Nat → Int} {S S' : Nat → Bool} (h : ∀ j, j < n → S j = S' j) (v : Nat) : outE n E S v = outE n E S' v := sumTo_congr fun j hj => by rw [h j hj]
theorem outE_anti {n : Nat} {E : Nat → Nat → Int} (g : Gr n E) {S S' : Nat → Bool} (h : ∀ j, j < n → S j = true → S' j = true) {v : Nat} (hv : v < n) : outE n E S' v ≤ outE n E S v := sumTo_mono fun j hj => by
  have := g.nn v j hv hj
  cases h1 : S j with
  | true => rw [h j hj h1]; simp
  | false => simp only [Bool.false_eq_true, if_false]; split <;> omega
/-- outside -/
theorem c57 {x : AV} {b : List (List Int)} {S i : Nat} (hx : IsLL x b) (hb : Bd b) (hi : i < b.length) {m : Nat} (hm : 100 ≤ m) (H : Heap) : callPure (evF tab it m) true 57 [x, .int .i64 (S : Int), .int .i64 (i : Int)] H = some (.int .i64 (outE b.length (ed b) (bitS S) i), H) := by
  have f57 : evF tab it m 57 [x, .int .i64 (S : Int), .int .i64 (i : Int)] [] = some (.int .i64 (outE b.length (ed b) (bitS S) i), []) := by
    obtain ⟨m, rfl⟩ : ∃ j, m = j + 1 := ⟨m - 1, by omega⟩
    have fx := hx.free
    have hl := hb.len
    have hrow := hx.at (i := (i : Int)) ⟨by omega, by omega⟩
    have hrl := hb.row i hi
    have lx : ∀ H, evP H .len [x] = some (.int .i64 ((b.length : Nat) : Int)) := fun H => by cases hx <;> rfl
    refine f_enter rfl rfl ?_
    generalize evF tab it m = call at *
    repeat' first
 | (apply s_mov; (focus ((conv => lhs; whnf); done)))
 | (apply c_nil)
 | (apply c_seq)
 | (apply c_reg)
 | (apply c_block)
 | (with_reducible apply k_c)
    refine c_loop ?_
    refine loop_gc (σ := Nat) (fun k => [x, .int .i64 (S : Int), .int .i64 (i : Int), .int .i64 (sumTo (fun j => if bitS S j = true then 0 else ed b i j) k), .int .i64 (k : Int)]) (fun _ => []) (fun k => k ≤ b.length) (fun k => b.length - k) ?_ _ 0 _ _ (by omega) (by omega) (gc_to rfl (by simp [idFreeL, AV.idFree, *]; done))
    intro k hk K hK
    have hs := sumTo_le (f := fun j => if bitS S j = true then 0 else ed b i j) (M := 3) (n := k) fun j hj => by
      have := hb.val i j hi (by omega)
      try dsimp only
      unfold ed
      split <;> omega
    have hK1 := hK (k + 1)
    simp only [sumTo] at hK1
    have hend : k = b.length → sumTo (fun j => if bitS S j = true then 0 else ed b i j) k = outE b.length (ed b) (bitS S) i := fun e => by subst e; rfl
    generalize hZ : sumTo (fun j => if bitS S j = true then 0 else ed b i j) k = Z at *
    by_cases hkn : k < b.length
    · have hv := hb.val i k hi hkn
      have hed : ed b i k = getI (getLL b (i : Int)) (k : Int) := rfl
      rw [hed] at hK1
      have shr := fun H => p_shr (H := H) (a := S) (b := k) (by omega)
      have hbs : bitS S k = (S / 2 ^ k % 2 == 1) := rfl
      generalize hD : S / 2 ^ k = D at *
      have hrem : ∀ H, evP H (.bin .rem) [.int .i64 (D : Int), .int .i64 2] = some (.int .i64 ((D % 2 : Nat) : Int)) := fun H => rfl
      by_cases h1 : D % 2 = 1
      · rw [hbs, if_pos (by simpa using h1), Int.add_zero] at hK1
        repeat' first
 | (apply s_mov; (focus ((conv => lhs; whnf); done)))
 | (apply c_nil)
 | ((first | apply s_lss | apply s_leq | apply s_gtr | apply s_geq | apply s_eql | apply s_neq); exact rfl; all_goals (intro _; try (exfalso; omega)))
 | ((first | apply s_add | apply s_sub); exact rfl; omega)
 | (apply s_pn; (focus (repeat (first | apply opds_nil | (apply opds_cons; (first | (focus ((conv => lhs; whnf); done)) | exact rfl))))); exact lx _)
 | (apply s_pn; (focus (repeat (first | apply opds_nil | (apply opds_cons; (first | (focus ((conv => lhs; whnf); done)) | exact rfl))))); exact shr _)
 | (apply s_pn; (focus (repeat (first | apply opds_nil | (apply opds_cons; (first | (focus ((conv => lhs; whnf); done)) | exact rfl))))); exact hrem _)
 | (apply c_seq)
 | (apply c_reg)
 | (apply c_block)
 | (apply c_skip)
 | (apply c_condT; exact rfl)
 | (apply c_condF; exact rfl)
 | (with_reducible apply k_c)
        all_goals first | exact hK1 _ _ (by omega) (by omega) (gc_to rfl (by simp [idFreeL, AV.idFree, *]; done)) | (exfalso; omega)
      · rw [hbs, if_neg (by simpa using h1)] at hK1
        repeat' first
 | (apply s_mov; (focus ((conv => lhs; whnf); done)))
 | (apply c_nil)
 | ((first | apply s_lss | apply s_leq | apply s_gtr | apply s_geq | apply s_eql | apply s_neq); exact rfl; all_goals (intro _; try (exfalso; omega)))
 | ((first | apply s_add | apply s_sub); exact rfl; omega)
 | (apply s_pn; (focus (repeat (first | apply opds_nil | (apply opds_cons; (first | (focus ((conv => lhs; whnf); done)) | exact rfl))))); exact lx _)
 | (apply s_pn; (focus (repeat (first | apply opds_nil | (apply opds_cons; (first | (focus ((conv => lhs; whnf); done)) | exact rfl))))); exact shr _)
 | (apply s_pn; (focus (repeat (first | apply opds_nil | (apply opds_cons; (first | (focus ((conv => lhs; whnf); done)) | exact rfl))))); exact hrem _)
 | (apply s_idx; (focus ((conv => lhs; whnf); done)); exact rfl; (first | assumption | (apply IsLL.at; assumption; omega)); omega)
 | (apply s_idxLL; (focus ((conv => lhs; whnf); done)); exact rfl; assumption; omega)
 | (apply s_ldI; exact rfl; omega)
 | (apply s_ldLL; exact rfl; assumption; omega)
 | (apply c_seq)
 | (apply c_reg)
 | (apply c_block)
 | (apply c_skip)
 | (apply c_condT; exact rfl)
 | (with_reducible apply k_c)
        all_goals first | exact hK1 _ _ (by omega) (by omega) (gc_to rfl (by simp [idFreeL, AV.idFree, *]; done)) | (exfalso; omega)
    · obtain rfl : k = b.length := by omega
      have he := hend rfl
      repeat' first
 | (apply s_mov; (focus ((conv => lhs; whnf); done)))
 | (apply c_nil)
 | ((first | apply s_lss | apply s_leq | apply s_gtr | apply s_geq | apply s_eql | apply s_neq); exact rfl; all_goals (intro _; try (exfalso; omega)))
 | (apply s_pn; (focus (repeat (first | apply opds_nil | (apply opds_cons; (first | (focus ((conv => lhs; whnf); done)) | exact rfl))))); exact lx _)
 | (apply c_seq)
 | (apply c_reg)
 | (apply c_exitH)
 | (apply c_ret)
 | (apply c_condF; exact rfl)
 | (apply c_preF; (focus (repeat (first | apply looks_nil | (apply looks_cons; (focus ((conv => lhs; whnf); done)))))); (focus (simp [idFreeL, AV.idFree, *]; done)))
 | (with_reducible apply k_c)
      exact fin_t (by (conv => lhs; whnf)) (by rfl) (by rw [he])
  exact callPure_free (by simp [idFreeL, AV.idFree, hx.free]) (by simp) f57 rfl
/-- in debt at a distance -/
theorem c107 {y z : AV} {l d : List Int} {n : Nat} {e : Int} (hy : IsL y l) (hz : IsL z d) (hl : l.length = n) (hd : d.length = n) (hn : n ≤ 12) {m : Nat} (hm : 100 ≤ m) (H : Heap) : callPure (evF tab it m) true 107 [y, z, .int .i64 e] H = some (.bool (decide (∃ v : Nat, v < n ∧ getI d (v : Int) = e ∧ getI l (v : Int) < 0)), H) := by
  have f107 : evF tab it m 107 [y, z, .int .i64 e] [] = some (.bool (decide (∃ v : Nat, v < n ∧ getI d (v : Int) = e ∧ getI l (v : Int) < 0)), []) := by
    obtain ⟨m, rfl⟩ : ∃ j, m = j + 1 := ⟨m - 1, by omega⟩
    have fy := hy.free; have fz := hz.free
    have ly : ∀ H, evP H .len [y] = some (.int .i64 ((n : Nat) : Int)) := fun H => by rw [← hl]; exact p_lenI hy
    refine f_enter rfl rfl ?_
    generalize evF tab it m = call at *
    repeat' first
 | (apply s_mov; (focus ((conv => lhs; whnf); done)))
 | (apply c_nil)
 | (apply c_seq)
 | (apply c_reg)
 | (apply c_block)
 | (with_reducible apply k_c)
    refine c_loop ?_
    refine loop_gc (σ := Nat) (fun k => [y, z, .int .i64 e, .int .i64 (k : Int)]) (fun _ => []) (fun k => k ≤ n ∧ ∀ v : Nat, v < k → ¬ (getI d (v : Int) = e ∧ getI l (v : Int) < 0)) (fun k => n - k) ?_ _ 0 _ _ ⟨by omega, fun v hv => by omega⟩ (by omega) (gc_to rfl (by simp [idFreeL, AV.idFree, *]; done))
    intro k ⟨hk, hno⟩ K hK
    by_cases hkn : k < n
    · skip
      repeat' first
 | (apply s_mov; (focus ((conv => lhs; whnf); done)))
 | (apply s_gT; exact rfl)
 | (apply s_gF; exact rfl)
 | (apply c_nil)
 | (apply s_pickT; exact rfl; (focus ((conv => lhs; whnf); done)))
 | (apply s_pickF; exact rfl; (focus ((conv => lhs; whnf); done)))
 | ((first | apply s_lss | apply s_leq | apply s_gtr | apply s_geq | apply s_eql | apply s_neq); exact rfl; all_goals (intro _; try (exfalso; omega)))
 | ((first | apply s_add | apply s_sub); exact rfl; omega)
 | (apply s_pn; (focus (repeat (first | apply opds_nil | (apply opds_cons; (first | (focus ((conv => lhs; whnf); done)) | exact rfl))))); exact ly _)
 | (apply s_idx; (focus ((conv => lhs; whnf); done)); exact rfl; (first | assumption | (apply IsLL.at; assumption; omega)); omega)
 | (apply s_ldI; exact rfl; omega)
 | (apply c_seq)
 | (apply c_reg)
 | (apply c_block)
 | (apply c_skip)
 | (apply c_ret)
 | (apply c_condT; exact rfl)
 | (apply c_condF; exact rfl)
 | (with_reducible apply k_c)
      all_goals first
        | (exact fin_t (by (conv => lhs; whnf)) (by rfl) (leafT ⟨k, hkn, by omega, by omega⟩))
        | (refine hK (k + 1) _ _ ⟨by omega, fun v hv => ?_⟩ (by omega) (gc_to rfl (by simp [idFreeL, AV.idFree, *]; done))
           rcases (by omega : v < k ∨ v = k) with h | rfl
           · exact hno v h
           · omega)
    · obtain rfl : k = n := by omega
      repeat' first
 | (apply s_mov; (focus ((conv => lhs; whnf); done)))
 | (apply c_nil)
 | ((first | apply s_lss | apply s_leq | apply s_gtr | apply s_geq | apply s_eql | apply s_neq); exact rfl; all_goals (intro _; try (exfalso; omega)))
 | (apply s_pn; (focus (repeat (first | apply opds_nil | (apply opds_cons; (first | (focus ((conv => lhs; whnf); done)) | exact rfl))))); exact ly _)
 | (apply c_seq)
 | (apply c_reg)
 | (apply c_exitH)
 | (apply c_ret)
 | (apply c_condF; exact rfl)
 | (apply c_preF; (focus (repeat (first | apply looks_nil | (apply looks_cons; (focus ((conv => lhs; whnf); done)))))); (focus (simp [idFreeL, AV.idFree, *]; done)))
 | (with_reducible apply k_c)
      exact fin_t (by (conv => lhs; whnf)) (by rfl) (leafF fun ⟨v, hv, h1, h2⟩ => hno v hv ⟨h1, h2⟩)
  exact callPure_free (by simp [idFreeL, AV.idFree, hy.free, hz.free]) (by simp) f107 rfl
/-! the places that do not burn: the greatest set that can fire -/
noncomputable def ubS (n : Nat) (E : Nat → Nat → Int) (q : Nat) (c : Nat → Int) (v : Nat) : Bool :=
  open Classical in decide (∃ S : Nat → Bool, S q = false ∧ Leg n E c S ∧ S v = true)
theorem ubS_iff {n : Nat} {E : Nat → Nat → Int} {q : Nat} {c : Nat → Int} {v : Nat} : ubS n E q c v = true ↔ ∃ S : Nat → Bool, S q = false ∧ Leg n E c S ∧ S v = true := by
  unfold ubS; simp
theorem ubS_q {n : Nat} {E : Nat → Nat → Int} {q : Nat} {c : Nat → Int} : ubS n E q c q = false := by
  cases h : ubS n E q c q with
  | false => rfl
  | true => obtain ⟨S, h1, _, h2⟩ := ubS_iff.1 h; rw [h1] at h2; cases h2
theorem ubS_leg {n : Nat} {E : Nat → Nat → Int} (g : Gr n E) {q : Nat} {c : Nat → Int} : Leg n E c (ubS n E q c) := fun v hv hs => by
  obtain ⟨S, h1, h2, h3⟩ := ubS_iff.1 hs
  exact Int.le_trans (outE_anti g (fun j _ hj => ubS_iff.2 ⟨S, h1, h2, hj⟩) hv) (h2 v hv h3)
theorem ubS_congr {n : Nat} {E : Nat → Nat → Int} {q : Nat} {c c' : Nat → Int} (h : ∀ v, v < n → c v = c' v) (v : Nat) : ubS n E q c v = ubS n E q c' v := by
  rw [Bool.eq_iff_iff, ubS_iff, ubS_iff]
  constructor
  · rintro ⟨S, a, b, d⟩; exact ⟨S, a, fun w hw hs => by rw [← h w hw]; exact b w hw hs, d⟩
  · rintro ⟨S, a, b, d⟩; exact ⟨S, a, fun w hw hs => by rw [h w hw]; exact b w hw hs, d⟩
theorem bitN_all : ∀ n, bitN (fun _ => true) n + 1 = 2 ^ n
  | 0 => rfl
  | n + 1 => by
    have := bitN_all n
    simp only [bitN, if_true]
    rw [Nat.pow_succ]
    omega
/-- unburnt -/
theorem f108 {x y : AV} {b : List (List Int)} {l : List Int} {q : Nat} (hx : IsLL x b) (hy : IsL y l) (hB : IsB b) (hq : q < b.length) (hln : l.length = b.length) {m : Nat} (hm : 5000 ≤ m) :
    evF tab it m 108 [x, y, .int .i64 (q : Int)] [] = some (.int .i64 ((bitN (ubS b.length (ed b) q (gf l)) b.length : Nat) : Int), []) := by
  obtain ⟨m, rfl⟩ : ∃ j, m = j + 1 := ⟨m - 1, by omega⟩
  have fx := hx.free; have fy := hy.free
  have hn1 := hB.n1; have hn2 := hB.n2
  have hbd := hB.bd
  have g := gr_of hB
  have lx : ∀ H, evP H .len [x] = some (.int .i64 ((b.length : Nat) : Int)) := fun H => by cases hx <;> rfl
  have e57 := fun (S i : Nat) (hi : i < b.length) H => c57 (S := S) hx hbd hi (m := m) (by omega) H
  have sh1 := fun H => p_shl (H := H) (b := b.length) (by omega)
  have sh2 := fun H => p_shl (H := H) (b := q) (by omega)
  have ha := bitN_all b.length
  have hs0 := bitN_set (S := fun j => j != q) (S' := fun _ => true) (i := q) (by simp) (fun j => by cases h : (j == q) <;> simp [bne, h]) hq
  have hp10 : ∀ i, i < b.length → 2 ^ i ≤ 1024 := fun i hi => Nat.le_trans (Nat.pow_le_pow_right (by omega) (show i ≤ 10 by omega)) (by decide)
  have hp11 : 2 ^ b.length ≤ 1024 := Nat.le_trans (Nat.pow_le_pow_right (by omega) (show b.length ≤ 10 by omega)) (by decide)
  have hpq := hp10 q hq
  have hinit : ((2 ^ b.length : Nat) : Int) - 1 - ((2 ^ q : Nat) : Int) = ((bitN (fun j => j != q) b.length : Nat) : Int) := by omega
  generalize hRR : bitN (ubS b.length (ed b) q (gf l)) b.length = R
  refine f_enter rfl rfl ?_
  generalize evF tab it m = call at *
  generalize hP1 : (2 ^ b.length : Nat) = P1 at *
  generalize hP2 : (2 ^ q : Nat) = P2 at *
  skip
  repeat' first
 | (apply s_mov; (focus ((conv => lhs; whnf); done)))
 | (apply c_nil)
 | ((first | apply s_add | apply s_sub); exact rfl; omega)
 | (apply s_pn; (focus (repeat (first | apply opds_nil | (apply opds_cons; (first | (focus ((conv => lhs; whnf); done)) | exact rfl))))); exact lx _)
 | (apply s_pn; (focus (repeat (first | apply opds_nil | (apply opds_cons; (first | (focus ((conv => lhs; whnf); done)) | exact rfl))))); exact sh1 _)
 | (apply s_pn; (focus (repeat (first | apply opds_nil | (apply opds_cons; (first | (focus ((conv => lhs; whnf); done)) | exact rfl))))); exact sh2 _)
 | (apply c_seq)
 | (apply c_reg)
 | (apply c_block)
 | (with_reducible apply k_c)
  refine c_loop ?_
  refine loop_gc (σ := (Nat → Bool) × Bool) (fun p => [x, y, .int .i64 ((bitN p.1 b.length : Nat) : Int), .bool p.2]) (fun _ => []) (fun p => p.1 q = false ∧ (∀ v, v < b.length → ubS b.length (ed b) q (gf l) v = true → p.1 v = true) ∧ (p.2 = false → Leg b.length (ed b) (gf l) p.1)) (fun p => 2 * bitN p.1 b.length + (if p.2 = true then 1 else 0)) ?_ _ (fun j => j != q, true) _ _ ⟨by simp, fun v hv h => by
    have : v ≠ q := fun e => by subst e; rw [ubS_q] at h; cases h
    simpa using this, by simp⟩ (by dsimp only; simp only [if_true]; omega) (by dsimp only; rw [← hinit]; exact gc_to rfl (by simp [idFreeL, AV.idFree, *]; done))
  intro ⟨U, ag⟩ ⟨hUq, hUb, hUl⟩ K hK
  dsimp only at hUq hUb hUl hK ⊢
  cases ag with
  | false =>
    have hR : bitN U b.length = R := by
      rw [← hRR]
      refine bitN_congr fun j hj => ?_
      rw [Bool.eq_iff_iff]
      exact ⟨fun h => ubS_iff.2 ⟨U, hUq, hUl rfl, h⟩, hUb j hj⟩
    rw [hR]
    repeat' first
 | (apply s_mov; (focus ((conv => lhs; whnf); done)))
 | (apply c_nil)
 | (apply c_seq)
 | (apply c_reg)
 | (apply c_exitH)
 | (apply c_ret)
 | (apply c_condF; exact rfl)
 | (apply c_preF; (focus (repeat (first | apply looks_nil | (apply looks_cons; (focus ((conv => lhs; whnf); done)))))); (focus (simp [idFreeL, AV.idFree, *]; done)))
 | (with_reducible apply k_c)
    exact fin_t (by (conv => lhs; whnf)) (by rfl) rfl
  | true =>
    have hUlt : bitN U b.length < P1 := by rw [← hP1]; exact bitN_lt U b.length
    repeat' first
 | (apply s_mov; (focus ((conv => lhs; whnf); done)))
 | (apply c_nil)
 | (apply c_seq)
 | (apply c_reg)
 | (apply c_block)
 | (apply c_skip)
 | (apply c_condT; exact rfl)
 | (with_reducible apply k_c)
    refine c_loop ?_
    refine loop_gc (σ := Nat × (Nat → Bool) × Bool) (fun p => [x, y, .int .i64 ((bitN p.2.1 b.length : Nat) : Int), .bool p.2.2, .int .i64 (p.1 : Int)]) (fun _ => []) (fun p => p.1 ≤ b.length ∧ p.2.1 q = false ∧ (∀ v, v < b.length → ubS b.length (ed b) q (gf l) v = true → p.2.1 v = true) ∧ (p.2.2 = false → p.2.1 = U ∧ ∀ v, v < p.1 → U v = true → outE b.length (ed b) U v ≤ gf l v) ∧ (p.2.2 = true → bitN p.2.1 b.length < bitN U b.length) ∧ bitN p.2.1 b.length < P1) (fun p => b.length - p.1) ?_ _ (0, U, false) _ _ ⟨by omega, hUq, hUb, fun _ => ⟨rfl, fun v hv => by omega⟩, by simp, hUlt⟩ (by show b.length - 0 < _; omega) (gc_to rfl (by simp [idFreeL, AV.idFree, *]; done))
    intro ⟨i, V, ag⟩ ⟨hi, hVq, hVb, hVf, hVt, hVlt⟩ K2 hK2
    dsimp only at hi hVq hVb hVf hVt hVlt hK2 ⊢
    by_cases hin : i < b.length
    · have shr := fun H => p_shr (H := H) (a := bitN V b.length) (b := i) (by omega)
      have shl := fun H => p_shl (H := H) (b := i) (by omega)
      have hbit := bitN_bit V hin
      have e57' := e57 (bitN V b.length) i hin
      rw [outE_congr (fun j hj => bitS_bitN V hj)] at e57'
      have hpi := hp10 i hin
      have hout : 0 ≤ outE b.length (ed b) V i := sumTo_nn fun j hj => by
        have := g.nn i j hin hj
        try dsimp only
        split <;> omega
      have hgl : gf l i = getI l (i : Int) := rfl
      -- without i
      have hrem : V i = true → bitN V b.length = bitN (fun j => V j && (j != i)) b.length + 2 ^ i := fun hVi => bitN_set (S := fun j => V j && (j != i)) (S' := V) (by simp) (fun j => by
        by_cases e : j = i
        · subst e; simp [hVi]
        · have : (j == i) = false := by simpa using e
          simp [bne, this]) hin
      have hpp := Nat.pow_pos (n := i) (show 0 < 2 by omega)
      have hfire : V i = true → getI l (i : Int) < outE b.length (ed b) V i → ∀ v, v < b.length → ubS b.length (ed b) q (gf l) v = true → (V v && (v != i)) = true := fun hVi hlt v hv hu => by
        have h1 := hVb v hv hu
        by_cases e : v = i
        · subst e
          have h2 := ubS_leg g (q := q) (c := gf l) v hv hu
          have h3 := outE_anti g hVb hv
          omega
        · simp [h1, e]
      generalize hDD : bitN V b.length / 2 ^ i = D at *
      have hdm : ∀ H, evP H (.bin .rem) [.int .i64 (D : Int), .int .i64 2] = some (.int .i64 ((D % 2 : Nat) : Int)) := fun H => rfl
      have hK21 := fun (W : Nat → Bool) (c : Bool) => hK2 (i + 1, W, c)
      dsimp only at hK21
      generalize hOO : outE b.length (ed b) V i = OO at *
      cases hVi : V i with
      | true =>
        have hr := hrem hVi
        have hfi := hfire hVi
        rw [hVi] at hbit
        simp only [if_true] at hbit
        have hKw := hK21 (fun j => V j && (j != i)) true
        have hbe : ((bitN (fun j => V j && (j != i)) b.length : Nat) : Int) = ((bitN V b.length : Nat) : Int) - ((2 ^ i : Nat) : Int) := by omega
        rw [hbe] at hKw
        have hBi : bitN V b.length < P1 := hVlt
        generalize hSS : bitN V b.length = SS at *
        generalize hPi : 2 ^ i = Pi at *
        by_cases hlt : getI l (i : Int) < OO
        · skip
          repeat' first
 | (apply s_mov; (focus ((conv => lhs; whnf); done)))
 | (apply s_gT; exact rfl)
 | (apply c_nil)
 | (apply s_pickT; exact rfl; (focus ((conv => lhs; whnf); done)))
 | ((first | apply s_lss | apply s_leq | apply s_gtr | apply s_geq | apply s_eql | apply s_neq); exact rfl; all_goals (intro _; try (exfalso; omega)))
 | ((first | apply s_add | apply s_sub); exact rfl; omega)
 | (apply s_pn; (focus (repeat (first | apply opds_nil | (apply opds_cons; (first | (focus ((conv => lhs; whnf); done)) | exact rfl))))); exact lx _)
 | (apply s_pn; (focus (repeat (first | apply opds_nil | (apply opds_cons; (first | (focus ((conv => lhs; whnf); done)) | exact rfl))))); exact shr _)
 | (apply s_pn; (focus (repeat (first | apply opds_nil | (apply opds_cons; (first | (focus ((conv => lhs; whnf); done)) | exact rfl))))); exact shl _)
 | (apply s_pn; (focus (repeat (first | apply opds_nil | (apply opds_cons; (first | (focus ((conv => lhs; whnf); done)) | exact rfl))))); exact hdm _)
 | (apply s_cn; (focus (repeat (first | apply opds_nil | (apply opds_cons; (first | (focus ((conv => lhs; whnf); done)) | exact rfl))))); exact e57' _)
 | (apply s_idx; (focus ((conv => lhs; whnf); done)); exact rfl; (first | assumption | (apply IsLL.at; assumption; omega)); omega)
 | (apply s_ldI; exact rfl; omega)
 | (apply c_seq)
 | (apply c_reg)
 | (apply c_block)
 | (apply c_skip)
 | (apply c_condT; exact rfl)
 | (with_reducible apply k_c)
          all_goals first
            | (exfalso; omega)
            | (refine hKw _ _ ⟨by omega, by simp [hVq], hfi hlt, by simp, fun _ => ?_, by omega⟩ (by show b.length - (i + 1) < _; omega) (gc_to rfl (by simp [idFreeL, AV.idFree, *]; done))
               cases ag with
               | false => have := (hVf rfl).1; subst this; omega
               | true => have := hVt rfl; omega)
        · have hKv := hK21 V ag
          rw [hSS] at hKv
          repeat' first
 | (apply s_mov; (focus ((conv => lhs; whnf); done)))
 | (apply s_gT; exact rfl)
 | (apply c_nil)
 | (apply s_pickT; exact rfl; (focus ((conv => lhs; whnf); done)))
 | ((first | apply s_lss | apply s_leq | apply s_gtr | apply s_geq | apply s_eql | apply s_neq); exact rfl; all_goals (intro _; try (exfalso; omega)))
 | ((first | apply s_add | apply s_sub); exact rfl; omega)
 | (apply s_pn; (focus (repeat (first | apply opds_nil | (apply opds_cons; (first | (focus ((conv => lhs; whnf); done)) | exact rfl))))); exact lx _)
 | (apply s_pn; (focus (repeat (first | apply opds_nil | (apply opds_cons; (first | (focus ((conv => lhs; whnf); done)) | exact rfl))))); exact shr _)
 | (apply s_pn; (focus (repeat (first | apply opds_nil | (apply opds_cons; (first | (focus ((conv => lhs; whnf); done)) | exact rfl))))); exact hdm _)
 | (apply s_cn; (focus (repeat (first | apply opds_nil | (apply opds_cons; (first | (focus ((conv => lhs; whnf); done)) | exact rfl))))); exact e57' _)
 | (apply s_idx; (focus ((conv => lhs; whnf); done)); exact rfl; (first | assumption | (apply IsLL.at; assumption; omega)); omega)
 | (apply s_ldI; exact rfl; omega)
 | (apply c_seq)
 | (apply c_reg)
 | (apply c_block)
 | (apply c_skip)
 | (apply c_condT; exact rfl)
 | (apply c_condF; exact rfl)
 | (with_reducible apply k_c)
          all_goals first
            | (exfalso; omega)
            | (refine hKv _ _ ⟨by omega, hVq, hVb, fun e => ⟨(hVf e).1, fun v hv hs => ?_⟩, hVt, by omega⟩ (by show b.length - (i + 1) < _; omega) (gc_to rfl (by simp [idFreeL, AV.idFree, *]; done))
               have e2 := (hVf e).1
               rcases (by omega : v < i ∨ v = i) with h | rfl
               · exact (hVf e).2 v h hs
               · rw [← e2, hOO]; omega)
      | false =>
        rw [hVi] at hbit
        simp only [Bool.false_eq_true, if_false] at hbit
        have hKv := hK21 V ag
        generalize hSS : bitN V b.length = SS at *
        repeat' first
 | (apply s_mov; (focus ((conv => lhs; whnf); done)))
 | (apply s_gF; exact rfl)
 | (apply s_gFD; exact rfl)
 | (apply c_nil)
 | (apply s_pickF; exact rfl; (focus ((conv => lhs; whnf); done)))
 | ((first | apply s_lss | apply s_leq | apply s_gtr | apply s_geq | apply s_eql | apply s_neq); exact rfl; all_goals (intro _; try (exfalso; omega)))
 | ((first | apply s_add | apply s_sub); exact rfl; omega)
 | (apply s_pn; (focus (repeat (first | apply opds_nil | (apply opds_cons; (first | (focus ((conv => lhs; whnf); done)) | exact rfl))))); exact lx _)
 | (apply s_pn; (focus (repeat (first | apply opds_nil | (apply opds_cons; (first | (focus ((conv => lhs; whnf); done)) | exact rfl))))); exact shr _)
 | (apply s_pn; (focus (repeat (first | apply opds_nil | (apply opds_cons; (first | (focus ((conv => lhs; whnf); done)) | exact rfl))))); exact hdm _)
 | (apply c_seq)
 | (apply c_reg)
 | (apply c_block)
 | (apply c_skip)
 | (apply c_condT; exact rfl)
 | (apply c_condF; exact rfl)
 | (with_reducible apply k_c)
        all_goals first
          | (exfalso; omega)
          | (refine hKv _ _ ⟨by omega, hVq, hVb, fun e => ⟨(hVf e).1, fun v hv hs => ?_⟩, hVt, by omega⟩ (by show b.length - (i + 1) < _; omega) (gc_to rfl (by simp [idFreeL, AV.idFree, *]; done))
             have e2 := (hVf e).1
             rcases (by omega : v < i ∨ v = i) with h | rfl
             · exact (hVf e).2 v h hs
             · rw [← e2, hVi] at hs; cases hs)
    · obtain rfl : i = b.length := by omega
      repeat' first
 | (apply s_mov; (focus ((conv => lhs; whnf); done)))
 | (apply c_nil)
 | ((first | apply s_lss | apply s_leq | apply s_gtr | apply s_geq | apply s_eql | apply s_neq); exact rfl; all_goals (intro _; try (exfalso; omega)))
 | (apply s_pn; (focus (repeat (first | apply opds_nil | (apply opds_cons; (first | (focus ((conv => lhs; whnf); done)) | exact rfl))))); exact lx _)
 | (apply c_seq)
 | (apply c_reg)
 | (apply c_exitH)
 | (apply c_condF; exact rfl)
 | (with_reducible apply k_c)
      refine hK (V, ag) _ _ ⟨hVq, hVb, fun e => ?_⟩ ?_ (gc_to rfl (by simp [idFreeL, AV.idFree, *]; done))
      · have := hVf e
        rw [this.1]
        exact fun v hv hs => this.2 v hv hs
      · dsimp only
        cases ag with
        | false => rw [(hVf rfl).1]; simp
        | true => have := hVt rfl; simp only [if_true]; omega
theorem c108 {x y : AV} {b : List (List Int)} {l : List Int} {q : Nat} (hx : IsLL x b) (hy : IsL y l) (hB : IsB b) (hq : q < b.length) (hln : l.length = b.length) {m : Nat} (hm : 5000 ≤ m) (H : Heap) :
    callPure (evF tab it m) true 108 [x, y, .int .i64 (q : Int)] H = some (.int .i64 ((bitN (ubS b.length (ed b) q (gf l)) b.length : Nat) : Int), H) :=
  callPure_free (by simp [idFreeL, AV.idFree, hx.free, hy.free]) (by simp) (f108 hx hy hB hq hln hm) rfl
end Go.AM.Ch
