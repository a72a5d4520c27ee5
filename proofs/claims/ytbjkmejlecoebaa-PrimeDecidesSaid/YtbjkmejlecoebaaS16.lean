/- A part of the proof: S16. -/
import Derived.Test.YtbjkmejlecoebaaS10
set_option linter.unusedSectionVars false
set_option linter.unusedVariables false
set_option linter.unusedSimpArgs false
namespace Go.AM.Pr
open Go.AM.Num
section
variable {call : CallF} {K : KT} {env : Env} {H : Heap} {res : R} {xs : List Opd} {d : Nat} {kp : List Opd} {r : List AI}
theorem wrapUN (a : Nat) : IntKind.u64.wrap (a : Int) = ((a % 18446744073709551616 : Nat) : Int) := by
  rw [wrapU]; rfl
theorem s_mulU {a b : Nat} (h : opds env xs = [.int .u64 (a : Int), .int .u64 (b : Int)]) (hr : a * b < 18446744073709551616)
    (g : RR call r K ((d, .int .u64 ((a * b : Nat) : Int)) :: env) H res) : RR call (⟨.inl (.bin .mul), xs, some d, none, kp⟩ :: r) K env H res :=
  s_pd (v := .int .u64 ((a * b : Nat) : Int)) (by
    rw [h]
    simp only [evP, binV, isShift, binInt, Bool.false_eq_true, if_false, if_true]
    rw [← Int.natCast_mul, wrapUN, Nat.mod_eq_of_lt hr]) g
theorem s_mulW {a b : Nat} (h : opds env xs = [.int .u64 (a : Int), .int .u64 (b : Int)])
    (g : RR call r K ((d, .int .u64 ((a * b % 18446744073709551616 : Nat) : Int)) :: env) H res) : RR call (⟨.inl (.bin .mul), xs, some d, none, kp⟩ :: r) K env H res :=
  s_pd (v := .int .u64 ((a * b % 18446744073709551616 : Nat) : Int)) (by
    rw [h]
    simp only [evP, binV, isShift, binInt, Bool.false_eq_true, if_false, if_true]
    rw [← Int.natCast_mul, wrapUN]) g
theorem s_addU {a b : Nat} (h : opds env xs = [.int .u64 (a : Int), .int .u64 (b : Int)]) (hr : a + b < 18446744073709551616)
    (g : RR call r K ((d, .int .u64 ((a + b : Nat) : Int)) :: env) H res) : RR call (⟨.inl (.bin .add), xs, some d, none, kp⟩ :: r) K env H res :=
  s_pd (v := .int .u64 ((a + b : Nat) : Int)) (by
    rw [h]
    simp only [evP, binV, isShift, binInt, Bool.false_eq_true, if_false, if_true]
    rw [← Int.natCast_add, wrapUN, Nat.mod_eq_of_lt hr]) g
theorem s_shrU {x : Opd} {a : Nat} (h : opd env x = .int .u64 (a : Int))
    (g : RR call r K ((d, .int .u64 ((a / 4294967296 : Nat) : Int)) :: env) H res) : RR call (⟨.inl (.bin .shr), [x, .c (.int .u64 32)], some d, none, kp⟩ :: r) K env H res :=
  s_pd (v := .int .u64 ((a / 4294967296 : Nat) : Int)) (by
    have h2 : opd env (.c (.int .u64 32)) = .int .u64 32 := rfl
    simp only [opds, h, h2, evP, binV, isShift, shiftInt, if_true]
    rw [if_neg (by omega)]
    have e : ((a : Int)).fdiv (2 ^ min (Int.toNat 32) IntKind.u64.bits) = ((a / 4294967296 : Nat) : Int) := by
      show ((a : Int)).fdiv 4294967296 = _
      cases a <;> rfl
    exact congrArg (fun z => some (AV.int .u64 z)) e) g
theorem and_mask (a : Nat) (h : a < 18446744073709551616) : IntKind.u64.wrap (BitVec.ofInt IntKind.u64.bits (a : Int) &&& BitVec.ofInt IntKind.u64.bits 4294967295).toNat = ((a % 4294967296 : Nat) : Int) := by
  have h1 : (BitVec.ofInt IntKind.u64.bits (a : Int) &&& BitVec.ofInt IntKind.u64.bits 4294967295).toNat = a % 4294967296 := by
    have e1 : (BitVec.ofInt 64 (a : Int)).toNat = a := by
      rw [BitVec.toNat_ofInt]
      have : ((a : Int) % ((2 ^ 64 : Nat) : Int)) = a := Int.emod_eq_of_lt (by omega) (by simp; omega)
      rw [this]; rfl
    have e2 : (BitVec.ofInt 64 4294967295).toNat = 2 ^ 32 - 1 := rfl
    show (BitVec.ofInt 64 (a : Int) &&& BitVec.ofInt 64 4294967295).toNat = a % 4294967296
    rw [BitVec.toNat_and, e1, e2, Nat.and_two_pow_sub_one_eq_mod]
  rw [h1, wrapUN, Nat.mod_eq_of_lt (by omega)]
theorem s_andU {x : Opd} {a : Nat} (h : opd env x = .int .u64 (a : Int)) (hr : a < 18446744073709551616)
    (g : RR call r K ((d, .int .u64 ((a % 4294967296 : Nat) : Int)) :: env) H res) : RR call (⟨.inl (.bin .and), [x, .c (.int .u64 4294967295)], some d, none, kp⟩ :: r) K env H res :=
  s_pd (v := .int .u64 ((a % 4294967296 : Nat) : Int)) (by
    have h2 : opd env (.c (.int .u64 4294967295)) = .int .u64 4294967295 := rfl
    simp only [opds, h, h2, evP, binV, isShift, binInt, Bool.false_eq_true, if_false, if_true]
    exact congrArg (fun z => some (AV.int .u64 z)) (and_mask a hr)) g
end
theorem mul64_eq {x y x0 x1 y0 y1 : Nat} (e0 : x % 4294967296 = x0) (e1 : x / 4294967296 = x1) (e2 : y % 4294967296 = y0) (e3 : y / 4294967296 = y1) : x * y = x1 * y1 * 18446744073709551616 + (x1 * y0 + x0 * y1) * 4294967296 + x0 * y0 := by
  have hx : x = x1 * 4294967296 + x0 := by omega
  have hy : y = y1 * 4294967296 + y0 := by omega
  have : x * y = (x1 * 4294967296 + x0) * (y1 * 4294967296 + y0) := by rw [← hx, ← hy]
  rw [this, Nat.add_mul, Nat.mul_add, Nat.mul_add]
  have a1 : x1 * 4294967296 * (y1 * 4294967296) = x1 * y1 * 18446744073709551616 := by
    rw [Nat.mul_mul_mul_comm]
  have a2 : x1 * 4294967296 * y0 = x1 * y0 * 4294967296 := by rw [Nat.mul_right_comm]
  have a3 : x0 * (y1 * 4294967296) = x0 * y1 * 4294967296 := by rw [Nat.mul_assoc]
  rw [a1, a2, a3, Nat.add_mul]
  omega
theorem f51 {x y : Nat} (hx : x < 18446744073709551616) (hy : y < 18446744073709551616) {m : Nat} (hm : 1 ≤ m) : evF tab it m 51 [.int .u64 (x : Int), .int .u64 (y : Int)] [] = some (.tup [.int .u64 ((x * y / 18446744073709551616 : Nat) : Int), .int .u64 ((x * y % 18446744073709551616 : Nat) : Int)], []) := by
  obtain ⟨m, rfl⟩ : ∃ j, m = j + 1 := ⟨m - 1, by omega⟩
  have hxy := mul64_eq (x := x) (y := y) rfl rfl rfl rfl
  have b0 := Nat.mul_le_mul (show x % 4294967296 ≤ 4294967295 by omega) (show y % 4294967296 ≤ 4294967295 by omega)
  have b1 := Nat.mul_le_mul (show x / 4294967296 ≤ 4294967295 by omega) (show y % 4294967296 ≤ 4294967295 by omega)
  have b2 := Nat.mul_le_mul (show x % 4294967296 ≤ 4294967295 by omega) (show y / 4294967296 ≤ 4294967295 by omega)
  have b3 := Nat.mul_le_mul (show x / 4294967296 ≤ 4294967295 by omega) (show y / 4294967296 ≤ 4294967295 by omega)
  generalize hW : x * y = W at hxy
  refine f_enter rfl rfl ?_
  generalize evF tab it m = call at *
  repeat' first
 | (apply s_mov; (focus ((conv => lhs; whnf); done)))
 | (apply c_nil)
 | (apply s_andU; exact rfl; omega)
 | (apply s_shrU; exact rfl)
 | (apply s_mulU; exact rfl; omega)
 | (apply s_mulW; exact rfl)
 | (apply s_addU; exact rfl; omega)
 | (apply c_seq)
 | (apply c_reg)
 | (apply c_ret)
 | (with_reducible apply k_c)
  refine fin_tt (by (conv => lhs; whnf)) (by (conv => lhs; whnf)) (by rfl) (by rfl) ?_
  rw [← hW]
  congr 6
  rw [hW]
  generalize x / 4294967296 * (y / 4294967296) = p11 at *
  generalize x / 4294967296 * (y % 4294967296) = p10 at *
  generalize x % 4294967296 * (y / 4294967296) = p01 at *
  generalize x % 4294967296 * (y % 4294967296) = p00 at *
  have : ((p11 + (p10 + p00 / 4294967296) / 4294967296 + ((p10 + p00 / 4294967296) % 4294967296 + p01) / 4294967296 : Nat) : Int) = ((W / 18446744073709551616 : Nat) : Int) := by
    clear hW
    omega
  first | exact this | omega
theorem c51 {x y : Nat} (hx : x < 18446744073709551616) (hy : y < 18446744073709551616) {m : Nat} (hm : 1 ≤ m) (H : Heap) : callPure (evF tab it m) true 51 [.int .u64 (x : Int), .int .u64 (y : Int)] H = some (.tup [.int .u64 ((x * y / 18446744073709551616 : Nat) : Int), .int .u64 ((x * y % 18446744073709551616 : Nat) : Int)], H) :=
  callPure_free rfl (by simp) (f51 hx hy hm) rfl
end Go.AM.Pr
