/- A part of the proof: U19. -/
import Derived.Test.YtmegimhfoedcdaaU18
import Derived.Test.YtmegimhfoedcdaaM3
set_option linter.unusedSectionVars false
set_option linter.unusedVariables false
set_option linter.unusedSimpArgs false
namespace Go.AM.Ch
set_option maxHeartbeats 1000000
/-- a set of places as a number -/
def bitN (S : Nat → Bool) : Nat → Nat
  | 0 => 0
  | k + 1 => bitN S k + (if S k = true then 2 ^ k else 0)
theorem bitN_lt (S : Nat → Bool) : ∀ n, bitN S n < 2 ^ n
  | 0 => by simp [bitN]
  | n + 1 => by
    have := bitN_lt S n
    have e : 2 ^ (n + 1) = 2 ^ n + 2 ^ n := by rw [Nat.pow_succ]; omega
    simp only [bitN]
    split <;> omega
theorem bitN_bit (S : Nat → Bool) : ∀ {n i : Nat}, i < n → bitN S n / 2 ^ i % 2 = if S i = true then 1 else 0
  | n + 1, i, h => by
    simp only [bitN]
    have hp : 0 < 2 ^ i := Nat.pow_pos (by omega)
    rcases (by omega : i < n ∨ i = n) with h1 | rfl
    · have ih := bitN_bit S h1
      split
      · obtain ⟨j, rfl⟩ : ∃ j, n = i + 1 + j := ⟨n - i - 1, by omega⟩
        have e : 2 ^ (i + 1 + j) = 2 ^ i * (2 * 2 ^ j) := by rw [Nat.pow_add, Nat.pow_succ]; simp only [Nat.mul_assoc]
        rw [e, Nat.add_mul_div_left _ _ hp, Nat.add_mul_mod_self_left]
        exact ih
      · exact ih
    · have := bitN_lt S i
      split
      · have e : bitN S i + 2 ^ i = bitN S i + 2 ^ i * 1 := by omega
        rw [e, Nat.add_mul_div_left _ _ hp, Nat.div_eq_of_lt this]
      · rw [Nat.add_zero, Nat.div_eq_of_lt this]
theorem bitN_congr {S S' : Nat → Bool} : ∀ {n : Nat}, (∀ j, j < n → S j = S' j) → bitN S n = bitN S' n
  | 0, _ => rfl
  | n + 1, h => by simp only [bitN]; rw [bitN_congr fun j hj => h j (by omega), h n (by omega)]
theorem bitN_none : ∀ n : Nat, bitN (fun _ => false) n = 0
  | 0 => rfl
  | n + 1 => by simp [bitN, bitN_none n]
theorem bitN_set {S S' : Nat → Bool} {i : Nat} (h : S i = false) (h' : ∀ j, S' j = (j == i || S j)) : ∀ {n : Nat}, i < n → bitN S' n = bitN S n + 2 ^ i
  | n + 1, hi => by
    simp only [bitN]
    rcases (by omega : i < n ∨ i = n) with h1 | rfl
    · rw [bitN_set h h' h1, h' n]
      have : (n == i) = false := by simp; omega
      rw [this, Bool.false_or]
      omega
    · have e : bitN S' i = bitN S i := bitN_congr fun j hj => by
        rw [h' j]
        have : (j == i) = false := by simp; omega
        rw [this, Bool.false_or]
      rw [e, h' i, h]
      simp
theorem sumTo_set {S S' : Nat → Bool} {f : Nat → Int} {i : Nat} (h : S i = false) (h' : ∀ j, S' j = (j == i || S j)) : ∀ {n : Nat}, i < n → sumTo (fun j => if S' j = true then f j else 0) n = sumTo (fun j => if S j = true then f j else 0) n + f i
  | n + 1, hi => by
    simp only [sumTo]
    rcases (by omega : i < n ∨ i = n) with h1 | rfl
    · rw [sumTo_set h h' h1, h' n]
      have : (n == i) = false := by simp; omega
      rw [this, Bool.false_or]
      omega
    · have e : sumTo (fun j => if S' j = true then f j else 0) i = sumTo (fun j => if S j = true then f j else 0) i := sumTo_congr fun j hj => by
        rw [h' j]
        have : (j == i) = false := by simp; omega
        rw [this, Bool.false_or]
      rw [e, h' i, h]
      simp
theorem s_mn {call : CallF} {K : KT} {env : Env} {H : Heap} {res : Go.AM.R} {x y : Opd} {d : Nat} {kp : List Opd} {r : List AI} {q q' : IntKind} {a b : Int} (h1 : opd env x = .int q a) (h2 : opd env y = .int q' b) (g : RR call r K ((d, .int q (if b < a then b else a)) :: env) H res) :
    RR call (⟨.inl .mn, [x, y], some d, none, kp⟩ :: r) K env H res := s_pd (by simp [opds, h1, h2, evP, mnOf]) g
theorem p_shr {H : Heap} {a b : Nat} (hb : b < 62) : evP H (.bin .shr) [.int .i64 (a : Int), .int .i64 (b : Int)] = some (.int .i64 ((a / 2 ^ b : Nat) : Int)) := by
  simp only [evP, binV, isShift, shiftInt, if_true]
  rw [if_neg (by omega)]
  have hm : min ((b : Int)).toNat IntKind.i64.bits = b := by
    rw [Int.toNat_natCast]
    show min b 64 = b
    omega
  have e : ((a : Int)).fdiv (2 ^ b) = ((a / 2 ^ b : Nat) : Int) := by
    have e : ((2 : Int) ^ b) = ((2 ^ b : Nat) : Int) := by push_cast; rfl
    rw [e]
    exact Int.ofNat_fdiv a (2 ^ b) |>.symm ▸ rfl
  simp only [hm]
  rw [e]
theorem p_shl {H : Heap} {b : Nat} (hb : b < 62) : evP H (.bin .shl) [.int .i64 1, .int .i64 (b : Int)] = some (.int .i64 ((2 ^ b : Nat) : Int)) := by
  simp only [evP, binV, isShift, shiftInt, if_true]
  rw [if_neg (by omega)]
  have hm : min ((b : Int)).toNat IntKind.i64.bits = b := by
    rw [Int.toNat_natCast]
    show min b 64 = b
    omega
  have hlt : 2 ^ b < 9223372036854775808 := Nat.lt_of_lt_of_le (Nat.pow_lt_pow_right (by omega) hb) (by decide)
  simp only [hm, Int.one_mul]
  have e : ((2 : Int) ^ b) = ((2 ^ b : Nat) : Int) := by push_cast; rfl
  rw [e]
  generalize 2 ^ b = B at hlt ⊢
  rw [wrapI (by omega)]
/-- the least number of a list -/
def minTo (l : List Int) : Nat → Int
  | 0 => getI l (0 : Int)
  | k + 1 => if getI l ((k + 1 : Nat) : Int) < minTo l k then getI l ((k + 1 : Nat) : Int) else minTo l k
theorem minTo_ge (l : List Int) (a : Int) : ∀ k, a ≤ minTo l k ↔ ∀ j : Nat, j ≤ k → a ≤ getI l (j : Int)
  | 0 => ⟨fun h j hj => by obtain rfl : j = 0 := by omega
                           exact h, fun h => h 0 (Nat.le_refl _)⟩
  | k + 1 => by
    have ih := minTo_ge l a k
    simp only [minTo]
    constructor
    · intro h j hj
      rcases (by omega : j ≤ k ∨ j = k + 1) with h1 | rfl
      · refine ih.1 ?_ j h1
        split at h <;> omega
      · split at h <;> omega
    · intro h
      have h1 := ih.2 fun j hj => h j (by omega)
      have h2 := h (k + 1) (Nat.le_refl _)
      split <;> omega
/-- Min -/
theorem c103 {x : AV} {l : List Int} (hx : IsL x l) (h1 : 1 ≤ l.length) (hl : l.length ≤ 1000) {m : Nat} (hm : 2010 ≤ m) (H : Heap) : callPure (evF tab it m) true 103 [x] H = some (.int .i64 (minTo l (l.length - 1)), H) := by
  have f103 : evF tab it m 103 [x] [] = some (.int .i64 (minTo l (l.length - 1)), []) := by
    obtain ⟨m, rfl⟩ : ∃ j, m = j + 1 := ⟨m - 1, by omega⟩
    have fx := hx.free
    refine f_enter rfl rfl ?_
    generalize evF tab it m = call at *
    repeat' first
 | (apply s_mov; (focus ((conv => lhs; whnf); done)))
 | (apply c_nil)
 | ((first | apply s_lss | apply s_leq | apply s_gtr | apply s_geq | apply s_eql | apply s_neq); exact rfl; all_goals (intro _; try (exfalso; omega)))
 | (apply s_len; (focus ((conv => lhs; whnf); done)); (first | assumption | (apply IsLL.at; assumption; omega)))
 | (apply s_idx; (focus ((conv => lhs; whnf); done)); exact rfl; (first | assumption | (apply IsLL.at; assumption; omega)); omega)
 | (apply s_ldI; exact rfl; omega)
 | (apply c_seq)
 | (apply c_reg)
 | (apply c_block)
 | (apply c_skip)
 | (apply c_condF; exact rfl)
 | (with_reducible apply k_c)
    refine c_loop ?_
    refine loop_gc (σ := Nat) (fun k => [x, .int .i64 (minTo l k), .int .i64 (((k + 1 : Nat) : Nat) : Int)]) (fun _ => []) (fun k => k + 1 ≤ l.length) (fun k => l.length - k) ?_ _ 0 _ _ (by omega) (by omega) (gc_to rfl (by simp [idFreeL, AV.idFree, *]; done))
    intro k hk K hK
    by_cases hkl : k + 1 < l.length
    · skip
      repeat' first
 | (apply s_mov; (focus ((conv => lhs; whnf); done)))
 | (apply c_nil)
 | ((first | apply s_lss | apply s_leq | apply s_gtr | apply s_geq | apply s_eql | apply s_neq); exact rfl; all_goals (intro _; try (exfalso; omega)))
 | ((first | apply s_add | apply s_sub); exact rfl; omega)
 | (apply s_mn; exact rfl; exact rfl)
 | (apply s_len; (focus ((conv => lhs; whnf); done)); (first | assumption | (apply IsLL.at; assumption; omega)))
 | (apply s_idx; (focus ((conv => lhs; whnf); done)); exact rfl; (first | assumption | (apply IsLL.at; assumption; omega)); omega)
 | (apply s_ldI; exact rfl; omega)
 | (apply c_seq)
 | (apply c_reg)
 | (apply c_block)
 | (apply c_skip)
 | (apply c_condT; exact rfl)
 | (with_reducible apply k_c)
      have := hK (k + 1)
      simp only [minTo] at this
      exact this _ _ (by omega) (by omega) (gc_to rfl (by simp [idFreeL, AV.idFree, *]; done))
    · obtain rfl : k = l.length - 1 := by omega
      repeat' first
 | (apply s_mov; (focus ((conv => lhs; whnf); done)))
 | (apply c_nil)
 | ((first | apply s_lss | apply s_leq | apply s_gtr | apply s_geq | apply s_eql | apply s_neq); exact rfl; all_goals (intro _; try (exfalso; omega)))
 | (apply s_len; (focus ((conv => lhs; whnf); done)); (first | assumption | (apply IsLL.at; assumption; omega)))
 | (apply c_seq)
 | (apply c_reg)
 | (apply c_exitH)
 | (apply c_ret)
 | (apply c_condF; exact rfl)
 | (apply c_preF; (focus (repeat (first | apply looks_nil | (apply looks_cons; (focus ((conv => lhs; whnf); done)))))); (focus (simp [idFreeL, AV.idFree, *]; done)))
 | (with_reducible apply k_c)
      exact fin_t (by (conv => lhs; whnf)) (by rfl) rfl
  exact callPure_free (by simp [idFreeL, AV.idFree, hx.free]) (by simp) f103 rfl
theorem f102 {m : Nat} (hm : 2 ≤ m) (v : Int) : evF tab it m 102 [.int .i64 v] [] = some (.bool (!decide (-1099511627776 ≤ v ∧ v ≤ 1099511627776)), []) := by
  obtain ⟨m, rfl⟩ : ∃ j, m = j + 1 := ⟨m - 1, by omega⟩
  refine f_enter rfl rfl ?_
  repeat' first
 | (apply s_mov; (focus ((conv => lhs; whnf); done)))
 | (apply c_nil)
 | (apply s_notT; exact rfl)
 | (apply s_notF; exact rfl)
 | (apply isE; refine s_cB (by (focus (repeat (first | apply opds_nil | (apply opds_cons; (first | (focus ((conv => lhs; whnf); done)) | exact rfl)))))) (c53 (by omega) _ _ _ _) (fun _ => ?_) (fun _ => ?_))
 | (apply c_seq)
 | (apply c_reg)
 | (apply c_ret)
 | (with_reducible apply k_c)
  · exact fin_t (by (conv => lhs; whnf)) (by rfl) (by rename_i h; simp [h])
  · exact fin_t (by (conv => lhs; whnf)) (by rfl) (by rename_i h; simp [h])
theorem c102 {m : Nat} (hm : 2 ≤ m) (v : Int) (H : Heap) : callPure (evF tab it m) true 102 [.int .i64 v] H = some (.bool (!decide (-1099511627776 ≤ v ∧ v ≤ 1099511627776)), H) := callPure_free rfl (by simp) (f102 hm v) rfl
/-! ### winnings -/
/-- what is asked of a place of the order -/
def OkAt (b : List (List Int)) (l O : List Int) (k : Nat) : Prop :=
  (0 ≤ getI O (k : Int) ∧ getI O (k : Int) < b.length) ∧ (∀ j : Nat, j < k → getI O (j : Int) ≠ getI O (k : Int)) ∧ getI l (getI O (k : Int)) < sumTo (fun j => getI (getLL b (getI O (k : Int))) (getI O (j : Int))) k
def RightW (b : List (List Int)) (s : List Int) (won : Bool) (F O : List Int) : Prop :=
  InR b.length 1099511627776 F ∧ ((won = true ∧ O.length = 0 ∧ ∀ i : Nat, i < b.length → 0 ≤ getI (apl b s F) (i : Int)) ∨ (won = false ∧ O.length = b.length ∧ ∀ k : Nat, k < b.length → OkAt b (apl b s F) O k))
noncomputable instance (b : List (List Int)) (s : List Int) (won : Bool) (F O : List Int) : Decidable (RightW b s won F O) := Classical.propDecidable _
/-- the places so far -/
def preS (O : List Int) (k : Nat) : Nat → Bool := fun j => decide ((j : Int) ∈ O.take k)
theorem preS_zero (O : List Int) (j : Nat) : preS O 0 j = false := by simp [preS]
theorem mem_take {O : List Int} {k : Nat} {v : Int} (hk : k ≤ O.length) : v ∈ O.take k ↔ ∃ j : Nat, j < k ∧ getI O (j : Int) = v := by
  constructor
  · intro h
    obtain ⟨j, hj, e⟩ := List.getElem_of_mem h
    rw [List.length_take] at hj
    refine ⟨j, by omega, ?_⟩
    rw [getI_nat]
    simp only [List.getElem_take] at e
    simp [List.getD, show j < O.length by omega, e]
  · rintro ⟨j, hj, e⟩
    rw [getI_nat] at e
    have hjl : j < O.length := by omega
    simp only [List.getD, List.getElem?_eq_getElem hjl, Option.getD_some] at e
    rw [← e, List.mem_iff_getElem]
    exact ⟨j, by rw [List.length_take]; omega, by simp⟩
theorem preS_succ {O : List Int} {k i : Nat} (hk : k < O.length) (hi : getI O (k : Int) = (i : Int)) (j : Nat) : preS O (k + 1) j = (j == i || preS O k j) := by
  have e : preS O (k + 1) j = decide ((j : Int) ∈ O.take (k + 1)) := rfl
  rw [e, Bool.eq_iff_iff]
  simp only [preS, decide_eq_true_eq, Bool.or_eq_true, beq_iff_eq, mem_take (show k + 1 ≤ O.length by omega), mem_take (show k ≤ O.length by omega)]
  constructor
  · rintro ⟨t, ht, e⟩
    rcases (by omega : t < k ∨ t = k) with h | rfl
    · exact .inr ⟨t, h, e⟩
    · left; omega
  · rintro (rfl | ⟨t, ht, e⟩)
    · exact ⟨k, by omega, hi⟩
    · exact ⟨t, by omega, e⟩
theorem preS_sum {O : List Int} {n : Nat} (f : Int → Int) : ∀ {k : Nat}, k ≤ O.length → (∀ j : Nat, j < k → (0 ≤ getI O (j : Int) ∧ getI O (j : Int) < n) ∧ (∀ t : Nat, t < j → getI O (t : Int) ≠ getI O (j : Int))) →
    sumTo (fun j => if preS O k j = true then f (j : Int) else 0) n = sumTo (fun j => f (getI O (j : Int))) k
  | 0, _, _ => by
    simp only [preS_zero]
    have : ∀ n : Nat, sumTo (fun j => if false = true then f (j : Int) else 0) n = 0 := fun n => by
      induction n with
      | zero => rfl
      | succ n ih => simp only [sumTo, ih]; simp
    simpa [sumTo] using this n
  | k + 1, hk, h => by
    obtain ⟨⟨h1, h2⟩, h3⟩ := h k (by omega)
    obtain ⟨i, hi⟩ : ∃ i : Nat, getI O (k : Int) = (i : Int) := ⟨(getI O (k : Int)).toNat, by omega⟩
    have hS : preS O k i = false := by
      simp only [preS, decide_eq_false_iff_not, mem_take (show k ≤ O.length by omega)]
      rintro ⟨t, ht, e⟩
      exact h3 t ht (by omega)
    rw [sumTo_set (f := fun j => f (j : Int)) hS (preS_succ (by omega) hi) (by omega), preS_sum f (by omega) fun j hj => h j (by omega)]
    simp only [sumTo, hi]
end Go.AM.Ch
