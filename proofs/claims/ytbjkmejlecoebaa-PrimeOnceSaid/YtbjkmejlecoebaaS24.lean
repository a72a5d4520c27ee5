/- A part of the proof: S14 SE5 S23 S24. -/
import Derived.Test.YtbjkmejlecoebaaS13
import Derived.Test.YtbjkmejlecoebaaM3
set_option linter.unusedSectionVars false
set_option linter.unusedVariables false
set_option linter.unusedSimpArgs false
namespace Go.AM.Pr
open Go.AM.Num
theorem f33 {A E N : Nat} (hr : IsRest (A : Int) (N : Int)) (hE : E < 9223372036854775808) {m : Nat} (hm : 200 ≤ m) : evF tab it m 33 [.int .i64 (A : Int), .int .i64 (E : Int), .int .i64 (N : Int)] [] = some (.tup [.int .i64 ((A ^ E % N : Nat) : Int), .int .i64 0], []) := by
  obtain ⟨m, rfl⟩ : ∃ j, m = j + 1 := ⟨m - 1, by omega⟩
  have hr' := hr
  unfold IsRest IsNum at hr'
  refine f_enter rfl rfl ?_
  repeat' first
 | (apply s_mov; (focus ((conv => lhs; whnf); done)))
 | (apply s_gT; exact rfl)
 | (apply s_gF; exact rfl)
 | (apply c_nil)
 | (apply s_pickT; exact rfl; (focus ((conv => lhs; whnf); done)))
 | (apply s_pickF; exact rfl; (focus ((conv => lhs; whnf); done)))
 | (apply s_notT; exact rfl)
 | (apply s_notF; exact rfl)
 | ((first | apply s_lss | apply s_leq | apply s_gtr | apply s_geq | apply s_eql | apply s_neq); exact rfl; all_goals (intro _; try (exfalso; omega)))
 | (apply isE; refine s_cB (by (focus (repeat (first | apply opds_nil | (apply opds_cons; (first | (focus ((conv => lhs; whnf); done)) | exact rfl)))))) (c49 (by omega) _ _ _) (fun _ => ?_) (fun _ => ?_))
 | (apply s_cn; (focus (repeat (first | apply opds_nil | (apply opds_cons; (first | (focus ((conv => lhs; whnf); done)) | exact rfl))))); exact c47 (by omega) (by omega) (by omega) hE (by omega) _)
 | (apply c_seq)
 | (apply c_reg)
 | (apply c_skip)
 | (apply c_ret)
 | (apply c_condT; exact rfl)
 | (apply c_condF; exact rfl)
 | (with_reducible apply k_c)
  all_goals first | exact absurd hr (by assumption) | exact fin_tt (by (conv => lhs; whnf)) (by (conv => lhs; whnf)) (by rfl) (by rfl) rfl
theorem f33e {a e n : Int} (hr : ¬ IsRest a n ∨ e < 0) {m : Nat} (hm : 200 ≤ m) : evF tab it m 33 [.int .i64 a, .int .i64 e, .int .i64 n] [] = some (.tup [.int .i64 0, .int .i64 2], []) := by
  obtain ⟨m, rfl⟩ : ∃ j, m = j + 1 := ⟨m - 1, by omega⟩
  refine f_enter rfl rfl ?_
  repeat' first
 | (apply s_mov; (focus ((conv => lhs; whnf); done)))
 | (apply s_gT; exact rfl)
 | (apply s_gF; exact rfl)
 | (apply c_nil)
 | (apply s_pickT; exact rfl; (focus ((conv => lhs; whnf); done)))
 | (apply s_pickF; exact rfl; (focus ((conv => lhs; whnf); done)))
 | (apply s_notT; exact rfl)
 | (apply s_notF; exact rfl)
 | ((first | apply s_lss | apply s_leq | apply s_gtr | apply s_geq | apply s_eql | apply s_neq); exact rfl; all_goals (intro _; try (exfalso; omega)))
 | (apply isE; refine s_cB (by (focus (repeat (first | apply opds_nil | (apply opds_cons; (first | (focus ((conv => lhs; whnf); done)) | exact rfl)))))) (c49 (by omega) _ _ _) (fun _ => ?_) (fun _ => ?_))
 | (apply c_seq)
 | (apply c_reg)
 | (apply c_skip)
 | (apply c_ret)
 | (apply c_condT; exact rfl)
 | (apply c_condF; exact rfl)
 | (with_reducible apply k_c)
  all_goals first | exact fin_tt (by (conv => lhs; whnf)) (by (conv => lhs; whnf)) (by rfl) (by rfl) rfl | (exfalso; rcases hr with h | h; exact absurd (by assumption) h; omega)
theorem c33 {A E N : Nat} (hr : IsRest (A : Int) (N : Int)) (hE : E < 9223372036854775808) {m : Nat} (hm : 200 ≤ m) (H : Heap) : callPure (evF tab it m) true 33 [.int .i64 (A : Int), .int .i64 (E : Int), .int .i64 (N : Int)] H = some (.tup [.int .i64 ((A ^ E % N : Nat) : Int), .int .i64 0], H) :=
  callPure_free rfl (by simp) (f33 hr hE hm) rfl
theorem c33e {a e n : Int} (hr : ¬ IsRest a n ∨ e < 0) {m : Nat} (hm : 200 ≤ m) (H : Heap) : callPure (evF tab it m) true 33 [.int .i64 a, .int .i64 e, .int .i64 n] H = some (.tup [.int .i64 0, .int .i64 2], H) :=
  callPure_free rfl (by simp) (f33e hr hm) rfl
/-- what Order returns -/
noncomputable def ordR (a n : Int) : List AV := if IsRest a n then (if Nat.gcd a.toNat n.toNat = 1 then [.int .i64 (ordN a.toNat n.toNat : Nat), .int .i64 0] else [.int .i64 0, .int .i64 6]) else [.int .i64 0, .int .i64 2]
theorem f35 {a n : Int} {m : Nat} (hm : 46406 ≤ m) : evF tab it m 35 [.int .i64 a, .int .i64 n] [] = some (.tup (ordR a n), []) := by
  obtain ⟨m, rfl⟩ : ∃ j, m = j + 1 := ⟨m - 1, by omega⟩
  have h34 := fun H => c34 (m := m) (by omega) a n H
  unfold ordR
  by_cases hr : IsRest a n
  · simp only [if_pos hr] at h34 ⊢
    obtain ⟨A, rfl⟩ : ∃ A : Nat, a = A := ⟨a.toNat, by have := hr.2.1; omega⟩
    obtain ⟨N, rfl⟩ : ∃ A : Nat, n = A := ⟨n.toNat, by have := hr.1.1; omega⟩
    have hr' := hr
    unfold IsRest IsNum at hr'
    simp only [Int.toNat_natCast] at h34 ⊢
    by_cases hg : Nat.gcd A N = 1
    · simp only [if_pos hg] at h34 ⊢
      refine f_enter rfl rfl ?_
      repeat' first
 | (apply s_mov; (focus ((conv => lhs; whnf); done)))
 | (apply c_nil)
 | ((first | apply s_lss | apply s_leq | apply s_gtr | apply s_geq | apply s_eql | apply s_neq); exact rfl; all_goals (intro _; try (exfalso; omega)))
 | (apply s_cn; (focus (repeat (first | apply opds_nil | (apply opds_cons; (first | (focus ((conv => lhs; whnf); done)) | exact rfl))))); exact h34 _)
 | (apply s_cn; (focus (repeat (first | apply opds_nil | (apply opds_cons; (first | (focus ((conv => lhs; whnf); done)) | exact rfl))))); exact c48 (by omega) (by omega) (by omega) (by omega) _)
 | (apply s_pd; (focus ((conv => lhs; whnf); done)))
 | (apply c_seq)
 | (apply c_reg)
 | (apply c_skip)
 | (apply c_ret)
 | (apply c_condF; exact rfl)
 | (with_reducible apply k_c)
      all_goals first | exact fin_tt (by (conv => lhs; whnf)) (by (conv => lhs; whnf)) (by rfl) (by rfl) rfl | (exfalso; omega)
    · simp only [if_neg hg] at h34 ⊢
      refine f_enter rfl rfl ?_
      repeat' first
 | (apply s_mov; (focus ((conv => lhs; whnf); done)))
 | (apply c_nil)
 | ((first | apply s_lss | apply s_leq | apply s_gtr | apply s_geq | apply s_eql | apply s_neq); exact rfl; all_goals (intro _; try (exfalso; omega)))
 | (apply s_cn; (focus (repeat (first | apply opds_nil | (apply opds_cons; (first | (focus ((conv => lhs; whnf); done)) | exact rfl))))); exact h34 _)
 | (apply s_pd; (focus ((conv => lhs; whnf); done)))
 | (apply c_seq)
 | (apply c_reg)
 | (apply c_ret)
 | (apply c_condT; exact rfl)
 | (with_reducible apply k_c)
      all_goals first | exact fin_tt (by (conv => lhs; whnf)) (by (conv => lhs; whnf)) (by rfl) (by rfl) rfl | (exfalso; omega)
  · simp only [if_neg hr] at h34 ⊢
    refine f_enter rfl rfl ?_
    repeat' first
 | (apply s_mov; (focus ((conv => lhs; whnf); done)))
 | (apply c_nil)
 | ((first | apply s_lss | apply s_leq | apply s_gtr | apply s_geq | apply s_eql | apply s_neq); exact rfl; all_goals (intro _; try (exfalso; omega)))
 | (apply s_cn; (focus (repeat (first | apply opds_nil | (apply opds_cons; (first | (focus ((conv => lhs; whnf); done)) | exact rfl))))); exact h34 _)
 | (apply s_pd; (focus ((conv => lhs; whnf); done)))
 | (apply c_seq)
 | (apply c_reg)
 | (apply c_ret)
 | (apply c_condT; exact rfl)
 | (with_reducible apply k_c)
    all_goals first | exact fin_tt (by (conv => lhs; whnf)) (by (conv => lhs; whnf)) (by rfl) (by rfl) rfl | (exfalso; omega)
theorem c35 {a n : Int} {m : Nat} (hm : 46406 ≤ m) (H : Heap) : callPure (evF tab it m) true 35 [.int .i64 a, .int .i64 n] H = some (.tup (ordR a n), H) :=
  callPure_free rfl (by simp) (f35 hm) (by unfold ordR; split <;> (try split) <;> rfl)
/-- the reference accepts the order -/
theorem f37 {A N : Nat} (hr : IsRest (A : Int) (N : Int)) (hg : Nat.gcd A N = 1) {m : Nat} (hm : 46406 ≤ m) : evF tab it m 37 [.int .i64 (A : Int), .int .i64 (ordN A N : Nat), .int .i64 (N : Int)] [] = some (.bool true, []) := by
  obtain ⟨m, rfl⟩ : ∃ j, m = j + 1 := ⟨m - 1, by omega⟩
  have hr' := hr
  unfold IsRest IsNum at hr'
  obtain ⟨o1, o2, o3, o4⟩ := ordN_spec (a := A) (m := N) (by omega) hg
  have ht := totN_le (n := N) (by omega)
  have hle := Nat.le_of_dvd (by omega) o3
  generalize ordN A N = e at *
  have hL := facOf_fac o2
  generalize facOf e = L at *
  have h19 := fun H => c19 o2 (by omega) hL (m := m) (by omega) H
  have h22 := fun {E : Nat} (hE : E ≤ 2147483647) H => c22 (A := A) (E := E) (n := N) (by omega) (by omega) (by omega) (m := m) (by omega) H
  have ll := fun H => p_lenP (H := H) L
  have il := fun H i h => p_idxG (H := H) (l := L) (i := i) h
  have fl := fzP_free L
  have zl := fac_len31 hL (by omega)
  have he := h22 (E := e) (by omega) []
  unfold Pow1 at o1
  refine f_enter rfl rfl ?_
  generalize evF tab it m = call at *
  generalize fzP L = X at *
  repeat' first
 | (apply s_mov; (focus ((conv => lhs; whnf); done)))
 | (apply s_gT; exact rfl)
 | (apply c_nil)
 | (apply s_pickF; exact rfl; (focus ((conv => lhs; whnf); done)))
 | ((first | apply s_lss | apply s_leq | apply s_gtr | apply s_geq | apply s_eql | apply s_neq); exact rfl; all_goals (intro _; try (exfalso; omega)))
 | (apply s_cn; (focus (repeat (first | apply opds_nil | (apply opds_cons; (first | (focus ((conv => lhs; whnf); done)) | exact rfl))))); exact he)
 | (apply s_cn; (focus (repeat (first | apply opds_nil | (apply opds_cons; (first | (focus ((conv => lhs; whnf); done)) | exact rfl))))); exact h19 _)
 | (apply s_remN (a := 1); exact rfl; omega)
 | (apply c_seq)
 | (apply c_reg)
 | (apply c_block)
 | (apply c_skip)
 | (apply c_condF; exact rfl)
 | (with_reducible apply k_c)
  all_goals try (exfalso; omega)
  refine c_loop ?_
  refine loop_gc (σ := Nat) (fun i => [.int .i64 (A : Int), .int .i64 (e : Int), .int .i64 (N : Int), X, .int .i64 (i : Int)]) (fun _ => []) (fun i => i ≤ L.length) (fun i => L.length - i) ?_ _ 0 _ _ (by omega) (by omega) (gc_to rfl (by simp [idFreeL, AV.idFree, fl]))
  intro i hi K hK
  repeat' first
 | (apply s_mov; (focus ((conv => lhs; whnf); done)))
 | (apply c_nil)
 | ((first | apply s_lss | apply s_leq | apply s_gtr | apply s_geq | apply s_eql | apply s_neq); exact rfl; all_goals (intro _; try (exfalso; omega)))
 | (apply s_pn; (focus (repeat (first | apply opds_nil | (apply opds_cons; (first | (focus ((conv => lhs; whnf); done)) | exact rfl))))); exact ll _)
 | (apply c_seq)
 | (apply c_reg)
 | (apply c_block)
 | (apply c_exitH)
 | (apply c_skip)
 | (apply c_ret)
 | (apply c_condT; exact rfl)
 | (apply c_condF; exact rfl)
 | (apply c_preF; (focus (repeat (first | apply looks_nil | (apply looks_cons; (focus ((conv => lhs; whnf); done)))))); (focus (simp [idFreeL, AV.idFree, *]; done)))
 | (with_reducible apply k_c)
  · have hi' : i < L.length := by omega
    have g1 := il [] i hi'
    have g2 := p_ld0 (H := []) hi'
    have g3 := exp_lt hL (by omega) hi'
    have g4 := hL.all _ (gp_mem hi')
    have g5 := o4 _ g4.1 (by rw [← hL.prod]; exact Nat.dvd_trans (Nat.dvd_of_pow_dvd g4.2 (Nat.dvd_refl _)) (mem_dvd_prod (gp_mem hi')))
    unfold Pow1 at g5
    generalize (gp L i).1 = p at *
    have g6 := Nat.div_le_self e p
    have g7 := h22 (E := e / p) (by omega) []
    repeat' first
 | (apply s_mov; (focus ((conv => lhs; whnf); done)))
 | (apply c_nil)
 | ((first | apply s_lss | apply s_leq | apply s_gtr | apply s_geq | apply s_eql | apply s_neq); exact rfl; all_goals (intro _; try (exfalso; omega)))
 | (apply s_pn; (focus (repeat (first | apply opds_nil | (apply opds_cons; (first | (focus ((conv => lhs; whnf); done)) | exact rfl))))); exact g1)
 | (apply s_pn; (focus (repeat (first | apply opds_nil | (apply opds_cons; (first | (focus ((conv => lhs; whnf); done)) | exact rfl))))); exact p_fld0)
 | (apply s_pn; (focus (repeat (first | apply opds_nil | (apply opds_cons; (first | (focus ((conv => lhs; whnf); done)) | exact rfl))))); exact g2)
 | (apply s_cn; (focus (repeat (first | apply opds_nil | (apply opds_cons; (first | (focus ((conv => lhs; whnf); done)) | exact rfl))))); exact g7)
 | (apply s_remN (a := 1); exact rfl; omega)
 | ((first | apply s_add | apply s_sub); exact rfl; omega)
 | (apply s_quoN; exact rfl; omega; omega)
 | (apply c_reg)
 | (apply c_skip)
 | (apply c_condF; exact rfl)
 | (with_reducible apply k_c)
    · exact hK (i + 1) _ _ (by omega) (by omega) (gc_to rfl (by simp [idFreeL, AV.idFree, fl]))
  · exact fin_t (by (conv => lhs; whnf)) (by rfl) rfl
theorem c37 {A N : Nat} (hr : IsRest (A : Int) (N : Int)) (hg : Nat.gcd A N = 1) {m : Nat} (hm : 46406 ≤ m) (H : Heap) : callPure (evF tab it m) true 37 [.int .i64 (A : Int), .int .i64 (ordN A N : Nat), .int .i64 (N : Int)] H = some (.bool true, H) :=
  callPure_free rfl (by simp) (f37 hr hg hm) rfl
theorem wf_lt {n : Int} (h : (Lit.int .i64 n).wf = true) : -9223372036854775808 ≤ n ∧ n < 9223372036854775808 := by
  simp [Lit.wf, IntKind.min, IntKind.max, IntKind.signed, IntKind.bits] at h
  omega
end Go.AM.Pr

set_option linter.unusedSectionVars false
set_option linter.unusedVariables false
set_option linter.unusedSimpArgs false
namespace Go.AM.Num
/-! ### few roots -/
/-- f has degree n and leading coefficient c, told by taking roots out -/
def PD : Nat → (Int → Int) → Int → Prop
  | 0, f, c => ∀ x, f x = c
  | n + 1, f, c => ∀ a, ∃ g, PD n g c ∧ ∀ x, f x - f a = (x - a) * g x
theorem PD.add {k c' : Int} : ∀ {n m : Nat} {f h : Int → Int} {c : Int}, m < n → PD n f c → PD m h c' → PD n (fun x => f x + k * h x) c
  | 0, _, _, _, _, hm, _, _ => by omega
  | n + 1, 0, f, h, c, _, hf, hh => fun a => by
    obtain ⟨g, h1, h2⟩ := hf a
    refine ⟨g, h1, fun x => ?_⟩
    rw [← h2 x]
    simp only [hh x, hh a]
    omega
  | n + 1, m + 1, f, h, c, hm, hf, hh => fun a => by
    obtain ⟨g, h1, h2⟩ := hf a
    obtain ⟨g', h3, h4⟩ := hh a
    refine ⟨fun x => g x + k * g' x, PD.add (by omega) h1 h3, fun x => ?_⟩
    simp only
    rw [Int.mul_add, ← h2 x, Int.mul_left_comm, ← h4 x, Int.mul_sub]
    omega
theorem PD.mulX {c : Int} : ∀ {n : Nat} {h : Int → Int}, PD n h c → PD (n + 1) (fun x => h x * x) c
  | 0, h, hh => fun a => ⟨fun _ => c, fun _ => rfl, fun x => by simp only [hh x, hh a]; rw [Int.sub_mul, Int.mul_comm x, Int.mul_comm a]⟩
  | n + 1, h, hh => fun a => by
    obtain ⟨g, h1, h2⟩ := hh a
    refine ⟨fun x => h x + a * g x, PD.add (Nat.lt_succ_self n) hh h1, fun x => ?_⟩
    simp only
    have e := h2 x
    rw [Int.mul_add, Int.mul_left_comm, ← e, Int.sub_mul, Int.mul_sub, Int.mul_comm x (h x), Int.mul_comm a (h x), Int.mul_comm a (h a)]
    omega
theorem PD.pow : ∀ n : Nat, PD n (fun x => x ^ n) 1
  | 0 => fun x => by simp
  | n + 1 => by
    have := PD.mulX (PD.pow n)
    have e : (fun x : Int => x ^ n * x) = fun x => x ^ (n + 1) := by funext x; rw [Int.pow_succ]
    rwa [e] at this
theorem int_pr {p : Nat} (hp : IsPr p) {x y : Int} (h : (p : Int) ∣ x * y) : (p : Int) ∣ x ∨ (p : Int) ∣ y := by
  have h' := Int.natAbs_dvd_natAbs.2 h
  rw [Int.natAbs_mul, Int.natAbs_natCast] at h'
  rcases pr_dvd_mul hp h' with e | e
  · exact .inl (Int.ofNat_dvd_left.2 e)
  · exact .inr (Int.ofNat_dvd_left.2 e)
theorem few_roots {p : Nat} (hp : IsPr p) {c : Int} (hc : ¬ (p : Int) ∣ c) : ∀ {n : Nat} {f : Int → Int} {l : List Int}, PD n f c → l.Pairwise (fun a b => ¬ (p : Int) ∣ b - a) → (∀ a ∈ l, (p : Int) ∣ f a) → l.length ≤ n
  | _, _, [], _, _, _ => Nat.zero_le _
  | 0, f, a :: l, hf, _, hr => by
    have := hr a List.mem_cons_self
    rw [hf a] at this
    exact absurd this hc
  | n + 1, f, a :: l, hf, hd, hr => by
    obtain ⟨g, h1, h2⟩ := hf a
    rw [List.pairwise_cons] at hd
    refine Nat.succ_le_succ (few_roots hp hc h1 hd.2 fun b hb => ?_)
    have h3 : (p : Int) ∣ (b - a) * g b := by
      rw [← h2 b]
      exact Int.dvd_sub (hr b (List.mem_cons_of_mem _ hb)) (hr a List.mem_cons_self)
    exact (int_pr hp h3).resolve_left (hd.1 b hb)
theorem pow1_dvd {a p k : Nat} (hp : IsPr p) : Pow1 a p k ↔ (p : Int) ∣ (a : Int) ^ k - 1 := by
  have h1 : 1 % p = 1 := Nat.mod_eq_of_lt hp.1
  unfold Pow1
  rw [h1]
  constructor
  · intro h
    refine ⟨((a ^ k / p : Nat) : Int), ?_⟩
    have := Nat.mod_add_div (a ^ k) p
    rw [h] at this
    have : ((1 : Nat) : Int) + (p : Int) * ((a ^ k / p : Nat) : Int) = ((a ^ k : Nat) : Int) := by exact_mod_cast this
    push_cast at this ⊢
    omega
  · intro h
    have e : ((a ^ k : Nat) : Int) % (p : Int) = 1 % (p : Int) := Int.emod_eq_emod_iff_emod_sub_eq_zero.2 (Int.emod_eq_zero_of_dvd (by push_cast; exact h))
    have : ((a ^ k % p : Nat) : Int) = ((1 % p : Nat) : Int) := by push_cast; push_cast at e; exact e
    have : a ^ k % p = 1 % p := by exact_mod_cast this
    omega
/-- at most n numbers have an n-th power of one -/
theorem roots_le {p n : Nat} (hp : IsPr p) (hn : 1 ≤ n) {l : List Nat} (hd : l.Pairwise (· ≠ ·)) (hl : ∀ a ∈ l, a < p ∧ Pow1 a p n) : l.length ≤ n := by
  have hf : PD n (fun x : Int => x ^ n + (-1) * 1) 1 := PD.add (m := 0) (h := fun _ => 1) (c' := 1) (by omega) (PD.pow n) fun _ => rfl
  have := few_roots hp (c := 1) (fun h => by
    have := Int.le_of_dvd (by omega) h
    have := hp.1
    omega) (l := l.map fun a : Nat => (a : Int)) hf (by
    rw [List.pairwise_map]
    refine List.Pairwise.imp_of_mem (fun {a b} ha hb hab hdv => ?_) hd
    have h1 := (hl a ha).1
    have h2 := (hl b hb).1
    obtain ⟨c, hc⟩ := hdv
    rcases Int.lt_trichotomy c 0 with h | h | h
    · have : (p : Int) * c ≤ (p : Int) * (-1) := Int.mul_le_mul_of_nonneg_left (by omega) (by omega)
      omega
    · subst h; simp at hc; omega
    · have : (p : Int) * 1 ≤ (p : Int) * c := Int.mul_le_mul_of_nonneg_left (by omega) (by omega)
      omega) (fun a ha => by
    obtain ⟨b, hb, rfl⟩ := List.mem_map.1 ha
    have := (pow1_dvd hp).1 (hl b hb).2
    simpa [Int.sub_eq_add_neg] using this)
  simpa using this
theorem pow_ex {p d : Nat} (hp : IsPr p) (h1 : 1 ≤ d) (hd : d < p - 1) : ∃ x, 1 ≤ x ∧ x < p ∧ ¬ Pow1 x p d := by
  refine Classical.byContradiction fun hne => ?_
  have hall : ∀ x, 1 ≤ x → x < p → Pow1 x p d := fun x a b => Classical.byContradiction fun h => hne ⟨x, a, b, h⟩
  have := roots_le hp h1 (l := (List.range (p - 1)).map (· + 1)) (by
    rw [List.pairwise_map]
    exact List.Pairwise.imp (fun h e => by omega) List.pairwise_lt_range) (fun a ha => by
    obtain ⟨b, hb, rfl⟩ := List.mem_map.1 ha
    have := List.mem_range.1 hb
    exact ⟨by omega, hall _ (by omega) (by omega)⟩)
  simp at this
  omega
/-! ### generators -/
theorem Pow1.mulL {a b p k : Nat} (h : Pow1 a p k) : Pow1 (a * b) p k ↔ Pow1 b p k := by
  unfold Pow1 at *
  rw [Nat.mul_pow, Nat.mul_mod, h, ← Nat.mul_mod, Nat.one_mul]
theorem Pow1.powL {a p j k : Nat} : Pow1 (a ^ j) p k ↔ Pow1 a p (j * k) := by
  unfold Pow1
  rw [Nat.pow_mul]
theorem Pow1.modL {a p k : Nat} : Pow1 (a % p) p k ↔ Pow1 a p k := by
  unfold Pow1
  rw [← Nat.pow_mod]
theorem Pow1.add {a p j k : Nat} (h : Pow1 a p j) : Pow1 a p (j + k) ↔ Pow1 a p k := by
  unfold Pow1 at *
  rw [Nat.pow_add, Nat.mul_mod, h, ← Nat.mul_mod, Nat.one_mul]
theorem Pow1.modE {a p m n : Nat} (hm : Pow1 a p m) (hn : Pow1 a p n) : Pow1 a p (m % n) := by
  have e := Nat.div_add_mod m n
  have h2 := hn.mul (m / n)
  rw [← e] at hm
  exact (h2.add).1 hm
theorem Pow1.gcd {a p : Nat} : ∀ {m n : Nat}, Pow1 a p m → Pow1 a p n → Pow1 a p (Nat.gcd m n) := by
  intro m
  induction m using Nat.strongRecOn with
  | _ m ih =>
    intro n hm hn
    rcases Nat.eq_zero_or_pos m with rfl | h
    · rwa [Nat.gcd_zero_left]
    · rw [Nat.gcd_rec]
      exact ih (n % m) (Nat.mod_lt _ h) (hn.modE hm) hm
theorem fermat1 {p a : Nat} (hp : IsPr p) (h1 : 1 ≤ a) (h2 : a < p) : Pow1 a p (p - 1) := by
  unfold Pow1
  rw [fermat hp (pr_cop_of_lt hp h1 h2), Nat.mod_eq_of_lt hp.1]
theorem gen_ex {p : Nat} (hp : IsPr p) {L : List (Nat × Nat)} (hL : Fac L (p - 1)) : ∃ g, 1 ≤ g ∧ g < p ∧ ∀ x ∈ L, ¬ Pow1 g p ((p - 1) / x.1) := by
  have hp2 := hp.1
  have key : ∀ n l r, l.length = n → L = l ++ r → ∃ g, 1 ≤ g ∧ g < p ∧ Pow1 g p (prodL l) ∧ ∀ x ∈ l, ¬ Pow1 g p ((p - 1) / x.1) := by
    intro n
    induction n with
    | zero =>
      intro l r hl hr
      obtain rfl : l = [] := List.length_eq_zero_iff.1 hl
      exact ⟨1, Nat.le_refl 1, hp2, by unfold Pow1; rw [Nat.one_pow], fun x hx => by cases hx⟩
    | succ n ih =>
      intro l r hl hr
      obtain ⟨l', x, rfl⟩ : ∃ l' x, l = l' ++ [x] := ⟨l.dropLast, l.getLast (by intro h; simp [h] at hl), (List.dropLast_concat_getLast _).symm⟩
      obtain ⟨q, e⟩ := x
      have hr' : L = l' ++ (q, e) :: r := by rw [hr]; simp
      obtain ⟨g, g1, g2, g3, g4⟩ := ih l' ((q, e) :: r) (by simpa using hl) hr'
      obtain ⟨f1, f2, f3⟩ := FacR.append (hr' ▸ hL.toFacR)
      obtain ⟨hq, he⟩ := f2.all (q, e) List.mem_cons_self
      simp only at hq he
      have hq2 := hq.1
      have hP : p - 1 = prodL l' * (q ^ e * prodL r) := by rw [← hL.prod, hr', prodL_append, prodL_cons]
      have hqe : q ^ e = q * q ^ (e - 1) := by rw [← Nat.pow_succ', Nat.succ_eq_add_one, Nat.sub_add_cancel he]
      have hP2 : (p - 1) / q = prodL l' * q ^ (e - 1) * prodL r := by
        have : p - 1 = q * (prodL l' * q ^ (e - 1) * prodL r) := by
          rw [hP, hqe]; simp only [Nat.mul_comm, Nat.mul_left_comm, Nat.mul_assoc]
        rw [this, Nat.mul_div_cancel_left _ (by omega)]
      have hpos : 1 ≤ p - 1 := by omega
      have hdq : 1 ≤ (p - 1) / q := by
        rw [hP2]
        exact Nat.mul_le_mul (Nat.mul_le_mul f1.pos (Nat.pow_pos (by omega))) f2.tail.pos
      have hdlt : (p - 1) / q < p - 1 := Nat.div_lt_self hpos hq2
      obtain ⟨x, x1, x2, x3⟩ := pow_ex hp hdq hdlt
      have hx := fermat1 hp x1 x2
      -- the new factor
      have hs : (p - 1) / q ^ e = prodL l' * prodL r := by
        have : p - 1 = q ^ e * (prodL l' * prodL r) := by rw [hP]; simp only [Nat.mul_comm, Nat.mul_left_comm, Nat.mul_assoc]
        rw [this, Nat.mul_div_cancel_left _ (Nat.pow_pos (by omega))]
      generalize hy : x ^ (prodL l' * prodL r) = y
      have y1 : Pow1 y p (q ^ e) := by
        rw [← hy, Pow1.powL]
        have : prodL l' * prodL r * q ^ e = p - 1 := by rw [hP]; simp only [Nat.mul_comm, Nat.mul_left_comm, Nat.mul_assoc]
        rwa [this]
      have y2 : ¬ Pow1 y p (q ^ (e - 1)) := by
        rw [← hy, Pow1.powL]
        have : prodL l' * prodL r * q ^ (e - 1) = (p - 1) / q := by rw [hP2]; simp only [Nat.mul_comm, Nat.mul_left_comm, Nat.mul_assoc]
        rwa [this]
      have hcq : Nat.gcd q (prodL l' * prodL r) = 1 := by
        rcases pr_cop_or (n := prodL l' * prodL r) hq with h | h
        · exact h
        · rcases pr_dvd_mul hq h with h | h
          · obtain ⟨k, hk⟩ := pr_dvd_prod hq f1.all h
            have := f3 _ hk (q, e) List.mem_cons_self
            simp only at this
            omega
          · exact absurd h (FacR.not_dvd (fun y hy => f2.all y (List.mem_cons_of_mem _ hy)) hq f2.head_lt)
      have y3 : ¬ Pow1 y p ((p - 1) / q) := fun h => by
        have e1 : (p - 1) / q = q ^ (e - 1) * (prodL l' * prodL r) := by rw [hP2]; simp only [Nat.mul_comm, Nat.mul_left_comm, Nat.mul_assoc]
        have h1 : Pow1 (y ^ q ^ (e - 1)) p (prodL l' * prodL r) := by rw [Pow1.powL, ← e1]; exact h
        have h2 : Pow1 (y ^ q ^ (e - 1)) p q := by rw [Pow1.powL, Nat.mul_comm, ← hqe]; exact y1
        have h3 := h2.gcd h1
        rw [hcq] at h3
        rw [Pow1.powL, Nat.mul_one] at h3
        exact y2 h3
      have hgy : ¬ p ∣ g * y := fun hd => by
        rcases pr_dvd_mul hp hd with h | h
        · have := Nat.le_of_dvd (by omega) h; omega
        · rw [← hy] at h
          have := Nat.le_of_dvd (by omega) (pr_dvd_pow hp h)
          omega
      refine ⟨g * y % p, ?_, Nat.mod_lt _ (by omega), ?_, fun z hz => ?_⟩
      · rcases Nat.eq_zero_or_pos (g * y % p) with h | h
        · exact absurd (Nat.dvd_of_mod_eq_zero h) hgy
        · exact h
      · rw [Pow1.modL, prodL_append]
        have e1 : prodL [(q, e)] = q ^ e := by simp [prodL]
        rw [e1]
        exact ((g3.mul _).mulL).2 (Pow1.dvd y1 ⟨_, Nat.mul_comm _ _⟩)
      · rw [Pow1.modL]
        rcases List.mem_append.1 hz with hz | hz
        · have hzq := f1.all z hz
          have hzd : z.1 ∣ prodL l' := Nat.dvd_trans (Nat.dvd_of_pow_dvd hzq.2 (Nat.dvd_refl _)) (mem_dvd_prod hz)
          have hyz : Pow1 y p ((p - 1) / z.1) := by
            refine y1.dvd ?_
            obtain ⟨c, hc⟩ := hzd
            have : p - 1 = z.1 * (c * (q ^ e * prodL r)) := by rw [hP, hc, Nat.mul_assoc]
            rw [this, Nat.mul_div_cancel_left _ (by have := hzq.1.1; omega)]
            exact ⟨c * prodL r, by simp only [Nat.mul_comm, Nat.mul_left_comm, Nat.mul_assoc]⟩
          rw [Nat.mul_comm, hyz.mulL]
          exact g4 z hz
        · simp only [List.mem_singleton] at hz
          subst hz
          have hg : Pow1 g p ((p - 1) / q) := g3.dvd (by rw [hP2, Nat.mul_assoc]; exact ⟨_, rfl⟩)
          rw [hg.mulL]
          exact y3
  obtain ⟨g, g1, g2, _, g4⟩ := key L.length L [] rfl (by simp)
  exact ⟨g, g1, g2, g4⟩
end Go.AM.Num

set_option linter.unusedSectionVars false
set_option linter.unusedVariables false
set_option linter.unusedSimpArgs false
namespace Go.AM.Pr
attribute [local go_sem] gc subHeap reach_skip ren_free reach_new reach_newp reach_end rangeL roots boxCells nodupB posOf renL AV.ren pickO renH renO looks look bindEnv envOf reach_int reach_bool reach_nilS reach_rd putRow cells_sl cells_int cells_bool cells_nilS cells_rd cells_agg reach_agg reach_tup idFreeL idf_sl idf_ptr idf_int idf_bool idf_nilS idf_rd reach_fn reach_mp cells_fn cells_ptr cells_mp idf_mp idf_fn idf_agg idf_tup
open Go.AM.Num
/-- a power by a part of p - 1 is one -/
def hit (w p q : Nat) : Prop := w ^ ((p - 1) / q) % p = 1
instance (w p q : Nat) : Decidable (hit w p q) := by unfold hit; infer_instance
theorem f72 {w p q : Nat} (hp : 1 ≤ p) (hp2 : p ≤ 2147483647) (hw : w < p) (hq : 1 ≤ q) {m : Nat} (hm : 200 ≤ m) : evF tab it m 72 [.int .i64 (q : Int), .rp [.int .i64 (w : Int)], .rp [.int .i64 (p : Int)]] [] = some (.bool (decide (hit w p q)), []) := by
  obtain ⟨m, rfl⟩ : ∃ j, m = j + 1 := ⟨m - 1, by omega⟩
  have hd := Nat.div_le_self (p - 1) q
  have hc := c47 (A := w) (E := (p - 1) / q) hp hp2 hw (by omega) (m := m) (by omega) []
  refine f_enter rfl rfl ?_
  generalize evF tab it m = call at *
  repeat' first
 | (apply s_mov; (focus ((conv => lhs; whnf); done)))
 | (apply c_nil)
 | ((first | apply s_lss | apply s_leq | apply s_gtr | apply s_geq | apply s_eql | apply s_neq); exact rfl; all_goals (intro _; try (exfalso; omega)))
 | (apply s_subN (b := 1); exact rfl; omega; omega)
 | (apply s_cn; (focus (repeat (first | apply opds_nil | (apply opds_cons; (first | (focus ((conv => lhs; whnf); done)) | exact rfl))))); exact hc)
 | (apply s_pd; exact rfl)
 | (apply s_quoN; exact rfl; omega; omega)
 | (apply c_seq)
 | (apply c_reg)
 | (apply c_ret)
 | (with_reducible apply k_c)
  · exact fin_t (by (conv => lhs; whnf)) (by rfl) (leafT (by unfold hit; omega))
  · exact fin_t (by (conv => lhs; whnf)) (by rfl) (leafF (by unfold hit; omega))
theorem c72 {w p q : Nat} (hp : 1 ≤ p) (hp2 : p ≤ 2147483647) (hw : w < p) (hq : 1 ≤ q) {m : Nat} (hm : 200 ≤ m) (H : Heap) : callPure (evF tab it m) true 72 [.int .i64 (q : Int), .rp [.int .i64 (w : Int)], .rp [.int .i64 (p : Int)]] H = some (.bool (decide (hit w p q)), H) :=
  callPure_free rfl (by simp) (f72 hp hp2 hw hq hm) rfl
def fi (w p : Nat) : List Int → Nat → Int
  | [], _ => -1
  | x :: l, k => if hit w p x.toNat then k else fi w p l (k + 1)
theorem fi_pos (w p : Nat) : ∀ (l : List Int) (k : Nat), 0 ≤ fi w p l k ↔ ∃ x ∈ l, hit w p x.toNat
  | [], k => by simp [fi]
  | x :: l, k => by
    have := fi_pos w p l (k + 1)
    simp only [fi]
    split
    · rename_i h; simp; exact .inl h
    · rename_i h; rw [this]; simp [h]
theorem f78 {w p : Nat} {x : AV} {F : List Int} (hx : IsL x F) (hp : 1 ≤ p) (hp2 : p ≤ 2147483647) (hw : w < p) (hF : ∀ i : Nat, i < F.length → 1 ≤ getI F i) (hl : F.length ≤ 1000) {m : Nat} (hm : 2000 ≤ m) :
    evF tab it m 78 [x, .fn 72 [.rp [.int .i64 (w : Int)], .rp [.int .i64 (p : Int)]]] [] = some (.int .i64 (fi w p F 0), []) := by
  obtain ⟨m, rfl⟩ : ∃ j, m = j + 1 := ⟨m - 1, by omega⟩
  have fx := hx.free
  have h72 := fun {q : Nat} (hq : 1 ≤ q) H => c72 (w := w) (p := p) (q := q) hp hp2 hw hq (m := m) (by omega) H
  generalize hR : fi w p F 0 = R
  refine f_enter rfl rfl ?_
  generalize evF tab it m = call at *
  repeat' first
 | (apply s_mov; (focus ((conv => lhs; whnf); done)))
 | (apply c_nil)
 | (apply s_len; (focus ((conv => lhs; whnf); done)); (first | assumption | (apply IsLL.at; assumption; omega)))
 | (apply c_seq)
 | (apply c_reg)
 | (apply c_block)
 | (with_reducible apply k_c)
  refine c_loop ?_
  refine loop_gc (σ := Nat) (fun i => [x, .fn 72 [.rp [.int .i64 (w : Int)], .rp [.int .i64 (p : Int)]], .int .i64 (F.length : Int), .int .i64 (i : Int)]) (fun _ => []) (fun i => i ≤ F.length ∧ fi w p (F.drop i) i = R) (fun i => F.length - i) ?_ _ 0 _ _ ⟨by omega, hR⟩ (by omega) (gc_to rfl (by simp [idFreeL, AV.idFree, fx]))
  intro i ⟨hi, hr⟩ K hK
  by_cases hiF : i < F.length
  · have h1 := hF i hiF
    obtain ⟨q, hq⟩ : ∃ q : Nat, getI F i = q := ⟨(getI F i).toNat, by omega⟩
    have e72 := h72 (q := q) (by omega) []
    rw [← hq] at e72
    have hdr : F.drop i = getI F i :: F.drop (i + 1) := by
      rw [getI_nat]
      simp [List.getD, hiF]
    rw [hdr] at hr
    simp only [fi, hq, Int.toNat_natCast] at hr
    have ecv : evE call [] (.callv true true) [.fn 72 [.rp [.int .i64 (w : Int)], .rp [.int .i64 (p : Int)]], .int .i64 (getI F i)] = some (.bool (decide (hit w p q)), []) := by
      simpa [evE] using e72
    by_cases hh : hit w p q
    · simp only [hh, decide_true] at ecv
      rw [if_pos hh] at hr
      repeat' first
 | (apply s_mov; (focus ((conv => lhs; whnf); done)))
 | (apply c_nil)
 | ((first | apply s_lss | apply s_leq | apply s_gtr | apply s_geq | apply s_eql | apply s_neq); exact rfl; all_goals (intro _; try (exfalso; omega)))
 | (apply s_en; (focus (repeat (first | apply opds_nil | (apply opds_cons; (first | (focus ((conv => lhs; whnf); done)) | exact rfl))))); exact ecv)
 | (apply s_idx; (focus ((conv => lhs; whnf); done)); exact rfl; (first | assumption | (apply IsLL.at; assumption; omega)); omega)
 | (apply s_ldI; exact rfl; omega)
 | (apply c_seq)
 | (apply c_reg)
 | (apply c_block)
 | (apply c_skip)
 | (apply c_ret)
 | (apply c_condT; exact rfl)
 | (with_reducible apply k_c)
      exact fin_t (by (conv => lhs; whnf)) (by rfl) (by rw [hr])
    · simp only [hh, decide_false] at ecv
      rw [if_neg hh] at hr
      repeat' first
 | (apply s_mov; (focus ((conv => lhs; whnf); done)))
 | (apply c_nil)
 | ((first | apply s_lss | apply s_leq | apply s_gtr | apply s_geq | apply s_eql | apply s_neq); exact rfl; all_goals (intro _; try (exfalso; omega)))
 | ((first | apply s_add | apply s_sub); exact rfl; omega)
 | (apply s_en; (focus (repeat (first | apply opds_nil | (apply opds_cons; (first | (focus ((conv => lhs; whnf); done)) | exact rfl))))); exact ecv)
 | (apply s_idx; (focus ((conv => lhs; whnf); done)); exact rfl; (first | assumption | (apply IsLL.at; assumption; omega)); omega)
 | (apply s_ldI; exact rfl; omega)
 | (apply c_seq)
 | (apply c_reg)
 | (apply c_block)
 | (apply c_skip)
 | (apply c_condT; exact rfl)
 | (apply c_condF; exact rfl)
 | (with_reducible apply k_c)
      exact hK (i + 1) _ _ ⟨by omega, hr⟩ (by omega) (gc_to rfl (by simp [idFreeL, AV.idFree, fx]))
  · obtain rfl : F.length = i := by omega
    rw [List.drop_length] at hr
    simp only [fi] at hr
    repeat' first
 | (apply s_mov; (focus ((conv => lhs; whnf); done)))
 | (apply c_nil)
 | ((first | apply s_lss | apply s_leq | apply s_gtr | apply s_geq | apply s_eql | apply s_neq); exact rfl; all_goals (intro _; try (exfalso; omega)))
 | (apply c_seq)
 | (apply c_reg)
 | (apply c_exitH)
 | (apply c_ret)
 | (apply c_condF; exact rfl)
 | (apply c_preF; (focus (repeat (first | apply looks_nil | (apply looks_cons; (focus ((conv => lhs; whnf); done)))))); (focus (simp [idFreeL, AV.idFree, *]; done)))
 | (with_reducible apply k_c)
    exact fin_t (by (conv => lhs; whnf)) (by rfl) (by rw [← hr])
theorem c78 {w p : Nat} {x : AV} {F : List Int} (hx : IsL x F) (hp : 1 ≤ p) (hp2 : p ≤ 2147483647) (hw : w < p) (hF : ∀ i : Nat, i < F.length → 1 ≤ getI F i) (hl : F.length ≤ 1000) {m : Nat} (hm : 2000 ≤ m) (H : Heap) :
    callPure (evF tab it m) true 78 [x, .fn 72 [.rp [.int .i64 (w : Int)], .rp [.int .i64 (p : Int)]]] H = some (.int .i64 (fi w p F 0), H) :=
  callPure_free (by simp [idFreeL, AV.idFree, hx.free]) (by simp) (f78 hx hp hp2 hw hF hl hm) rfl
theorem f71 {w p : Nat} {x : AV} {F : List Int} (hx : IsL x F) (hp : 1 ≤ p) (hp2 : p ≤ 2147483647) (hw : w < p) (hF : ∀ i : Nat, i < F.length → 1 ≤ getI F i) (hl : F.length ≤ 1000) {m : Nat} (hm : 2001 ≤ m) :
    evF tab it m 71 [x, .fn 72 [.rp [.int .i64 (w : Int)], .rp [.int .i64 (p : Int)]]] [] = some (.bool (decide (∃ x ∈ F, hit w p x.toNat)), []) := by
  obtain ⟨m, rfl⟩ : ∃ j, m = j + 1 := ⟨m - 1, by omega⟩
  have hc := c78 hx hp hp2 hw hF hl (m := m) (by omega) []
  have hi := fi_pos w p F 0
  refine f_enter rfl rfl ?_
  generalize evF tab it m = call at *
  generalize fi w p F 0 = R at *
  repeat' first
 | (apply s_mov; (focus ((conv => lhs; whnf); done)))
 | (apply c_nil)
 | ((first | apply s_lss | apply s_leq | apply s_gtr | apply s_geq | apply s_eql | apply s_neq); exact rfl; all_goals (intro _; try (exfalso; omega)))
 | (apply s_cn; (focus (repeat (first | apply opds_nil | (apply opds_cons; (first | (focus ((conv => lhs; whnf); done)) | exact rfl))))); exact hc)
 | (apply c_seq)
 | (apply c_reg)
 | (apply c_ret)
 | (with_reducible apply k_c)
  · exact fin_t (by (conv => lhs; whnf)) (by rfl) (leafT (hi.1 (by omega)))
  · exact fin_t (by (conv => lhs; whnf)) (by rfl) (leafF (fun h => by have := hi.2 h; omega))
/-- a witness -/
def Wit (w p : Nat) (F : List Int) : Prop := w ^ (p - 1) % p = 1 ∧ ¬ ∃ x ∈ F, hit w p x.toNat
instance (w p : Nat) (F : List Int) : Decidable (Wit w p F) := by unfold Wit; infer_instance
theorem f60 {w p : Nat} {x : AV} {F : List Int} (hx : IsL x F) (hp : 1 ≤ p) (hp2 : p ≤ 2147483647) (hw : w < p) (hF : ∀ i : Nat, i < F.length → 1 ≤ getI F i) (hl : F.length ≤ 1000) {m : Nat} (hm : 2002 ≤ m) :
    evF tab it m 60 [.int .i64 (w : Int), .int .i64 (p : Int), x] [] = some (.bool (decide (Wit w p F)), []) := by
  obtain ⟨m, rfl⟩ : ∃ j, m = j + 1 := ⟨m - 1, by omega⟩
  have fx := hx.free
  have e71 := f71 hx hp hp2 hw hF hl (m := m) (by omega)
  have e47 := fun H => c47 (A := w) (E := p - 1) hp hp2 hw (by omega) (m := m) (by omega) H
  refine f_enter rfl rfl ?_
  generalize evF tab it m = call at *
  have b1 : evE call [] (.box true) [.int .i64 (w : Int)] = some (.ptr 0 0, [some (.data [.int .i64 (w : Int)])]) := rfl
  have b2 : evE call [some (.data [.int .i64 (w : Int)])] (.box true) [.int .i64 (p : Int)] = some (.ptr 1 0, [some (.data [.int .i64 (w : Int)]), some (.data [.int .i64 (p : Int)])]) := rfl
  have hc : callPure call true 71 [x, .fn 72 [.ptr 0 0, .ptr 1 0]] [some (.data [.int .i64 (w : Int)]), some (.data [.int .i64 (p : Int)])] = some (.bool (decide (∃ x ∈ F, hit w p x.toNat)), [some (.data [.int .i64 (w : Int)]), some (.data [.int .i64 (p : Int)])]) := by
    have e1 : frzL [some (.data [.int .i64 (w : Int)]), some (.data [.int .i64 (p : Int)])] 40 [x, .fn 72 [.ptr 0 0, .ptr 1 0]] = some [x, .fn 72 [.rp [.int .i64 (w : Int)], .rp [.int .i64 (p : Int)]]] := by
      rw [frzL_cons, frzV_free _ _ fx]
      rfl
    simp [callPure, e1, e71, frzV_bool, AV.hasRd]
  repeat' first
 | (apply s_mov; (focus ((conv => lhs; whnf); done)))
 | (apply c_nil)
 | (apply s_notT; exact rfl)
 | (apply s_notF; exact rfl)
 | ((first | apply s_lss | apply s_leq | apply s_gtr | apply s_geq | apply s_eql | apply s_neq); exact rfl; all_goals (intro _; try (exfalso; omega)))
 | (apply s_en; (focus (repeat (first | apply opds_nil | (apply opds_cons; (first | (focus ((conv => lhs; whnf); done)) | exact rfl))))); exact b1)
 | (apply s_en; (focus (repeat (first | apply opds_nil | (apply opds_cons; (first | (focus ((conv => lhs; whnf); done)) | exact rfl))))); exact b2)
 | (apply s_pn; (focus (repeat (first | apply opds_nil | (apply opds_cons; (first | (focus ((conv => lhs; whnf); done)) | exact rfl))))); exact p_ldI1 rfl)
 | (apply s_subN (b := 1); exact rfl; omega; omega)
 | (apply s_cn; (focus (repeat (first | apply opds_nil | (apply opds_cons; (first | (focus ((conv => lhs; whnf); done)) | exact rfl))))); exact e47 _)
 | (apply s_pn; (focus (repeat (first | apply opds_nil | (apply opds_cons; (first | (focus ((conv => lhs; whnf); done)) | exact rfl))))); exact p_mkfn)
 | (apply isE; refine s_cB (by (focus (repeat (first | apply opds_nil | (apply opds_cons; (first | (focus ((conv => lhs; whnf); done)) | exact rfl)))))) (hc) (fun _ => ?_) (fun _ => ?_))
 | (apply c_seq)
 | (apply c_reg)
 | (apply c_skip)
 | (apply c_ret)
 | (apply c_condT; exact rfl)
 | (apply c_condF; exact rfl)
 | (with_reducible apply k_c)
  · exact fin_t (by (conv => lhs; whnf)) (by rfl) (leafF (fun h => by exact absurd (by assumption) h.2))
  · exact fin_t (by (conv => lhs; whnf)) (by rfl) (leafT ⟨by omega, by assumption⟩)
  · exact fin_t (by (conv => lhs; whnf)) (by rfl) (leafF (fun h => by have := h.1; omega))
theorem c60 {w p : Nat} {x : AV} {F : List Int} (hx : IsL x F) (hp : 1 ≤ p) (hp2 : p ≤ 2147483647) (hw : w < p) (hF : ∀ i : Nat, i < F.length → 1 ≤ getI F i) (hl : F.length ≤ 1000) {m : Nat} (hm : 2002 ≤ m) (H : Heap) :
    callPure (evF tab it m) true 60 [.int .i64 (w : Int), .int .i64 (p : Int), x] H = some (.bool (decide (Wit w p F)), H) :=
  callPure_free (by simp [idFreeL, AV.idFree, hx.free]) (by simp) (f60 hx hp hp2 hw hF hl hm) rfl
/-! ### the factors of p - 1 -/
def ps (l : List (Nat × Nat)) : List Int := l.map fun x => ((x.1 : Nat) : Int)
theorem ps_len (l : List (Nat × Nat)) : (ps l).length = l.length := by simp [ps]
theorem ps_app (l r : List (Nat × Nat)) : ps (l ++ r) = ps l ++ ps r := by simp [ps]
theorem f59 {q t : Nat} {l : List (Nat × Nat)} (hl : l.length < 1000) {m : Nat} (hm : 1 ≤ m) : evF tab it m 59 [.int .i64 (q : Int), .int .i64 (t : Int), .ptr 0 0] (cellH 1 l.length (iL (ps l))) =
    some (.tup [], if l.length = 0 then cellH 1 1 (iL (ps (l ++ [(q, t)]))) else [some (.box [.sl 2 1 0 (l.length + 1)]), none, some (.data (iL (ps (l ++ [(q, t)]))))]) := by
  obtain ⟨m, rfl⟩ : ∃ j, m = j + 1 := ⟨m - 1, by omega⟩
  have hlen : (iL (ps l)).length = l.length * 1 := by rw [iL_len, ps_len]; omega
  have hp : iL (ps (l ++ [(q, t)])) = iL (ps l) ++ [.int .i64 (q : Int)] := by rw [ps_app]; simp [iL, ps]
  cases hn : l.length with
  | zero =>
    obtain rfl : l = [] := List.length_eq_zero_iff.1 hn
    rw [if_pos rfl]
    refine f_enterH rfl rfl ?_
    rw [hp]
    simp only [cellH]
    generalize evF tab it m = call at *
    repeat' first
 | (apply s_mov; (focus ((conv => lhs; whnf); done)))
 | (apply c_nil)
 | (apply s_en; (focus (repeat (first | apply opds_nil | (apply opds_cons; (first | (focus ((conv => lhs; whnf); done)) | exact rfl))))); exact e_bld1 rfl rfl rfl rfl)
 | (apply s_en; (focus (repeat (first | apply opds_nil | (apply opds_cons; (first | (focus ((conv => lhs; whnf); done)) | exact rfl))))); exact e_appz_nil (by omega) (by decide))
 | (apply s_st; (focus (repeat (first | apply opds_nil | (apply opds_cons; (first | (focus ((conv => lhs; whnf); done)) | exact rfl))))); exact e_stBox rfl rfl rfl rfl)
 | (apply s_pd; exact rfl)
 | (apply c_reg)
    simp [finish, ress, tupOf, go_sem, ps, iL]
  | succ n =>
    rw [if_neg (by omega)]
    rw [hn] at hlen
    refine f_enterH rfl rfl ?_
    generalize hC : iL (ps l) = C at *
    generalize iL (ps (l ++ [(q, t)])) = D at *
    simp only [cellH]
    generalize evF tab it m = call at *
    repeat' first
 | (apply s_mov; (focus ((conv => lhs; whnf); done)))
 | (apply c_nil)
 | (apply s_en; (focus (repeat (first | apply opds_nil | (apply opds_cons; (first | (focus ((conv => lhs; whnf); done)) | exact rfl))))); exact e_bld1 rfl rfl rfl rfl)
 | (apply s_en; (focus (repeat (first | apply opds_nil | (apply opds_cons; (first | (focus ((conv => lhs; whnf); done)) | exact rfl))))); exact e_appz_sl rfl hlen (by omega) (by unfold most; omega))
 | (apply s_st; (focus (repeat (first | apply opds_nil | (apply opds_cons; (first | (focus ((conv => lhs; whnf); done)) | exact rfl))))); exact e_stBox rfl rfl rfl rfl)
 | (apply s_pd; exact rfl)
 | (apply c_reg)
    rw [hp]
    simp [finish, ress, tupOf, go_sem]
theorem clo59 {L : List (Nat × Nat)} (hL : L.length ≤ 30) {m : Nat} (hm : 1 ≤ m) : Clo m 59 [.ptr 0 0] 1 (fun l => cellH 1 l.length (iL (ps l))) L where
  hk := rfl
  g2 l a := gcell2 a
  g3 l a b := gcell3 a b
  g4 l a b c := gcell4 a b c
  fin l := gcellf
  call l q t r h := by
    have hl : l.length < 1000 := by rw [h] at hL; simp at hL; omega
    have := clo_cell (f59 (q := q) (t := t) hl hm)
    simpa using this
theorem ps_pos {L : List (Nat × Nat)} (h : FacR L) : ∀ i : Nat, i < (ps L).length → 1 ≤ getI (ps L) i := fun i hi => by
  rw [ps_len] at hi
  have := (h.all _ (gp_mem hi)).1.1
  rw [getI_nat]
  simp [List.getD, ps, hi]
  rw [gp_lt hi] at this
  omega
theorem wit_iff {w p : Nat} {L : List (Nat × Nat)} : Wit w p (ps L) ↔ w ^ (p - 1) % p = 1 ∧ ∀ x ∈ L, ¬ w ^ ((p - 1) / x.1) % p = 1 := by
  unfold Wit hit ps
  simp
  intro _
  exact ⟨fun h a b hab => h _ a b hab rfl, fun h x a b hab e => by subst e; simpa using h a b hab⟩
end Go.AM.Pr

set_option linter.unusedSectionVars false
set_option linter.unusedVariables false
set_option linter.unusedSimpArgs false
namespace Go.AM.Pr
attribute [local go_sem] gc subHeap reach_skip ren_free reach_new reach_newp reach_end rangeL roots boxCells nodupB posOf renL AV.ren pickO renH renO looks look bindEnv envOf reach_int reach_bool reach_nilS reach_rd putRow cells_sl cells_int cells_bool cells_nilS cells_rd cells_agg reach_agg reach_tup idFreeL idf_sl idf_ptr idf_int idf_bool idf_nilS idf_rd reach_fn reach_mp cells_fn cells_ptr cells_mp idf_mp idf_fn idf_agg idf_tup
open Go.AM.Num
/-- the reference's order modulo a prime -/
noncomputable def ordP (a p : Nat) : Nat := ordF a p (p - 1) (facOf (p - 1))
theorem fac_pm {p : Nat} (hp : IsPr p) : Fac (facOf (p - 1)) (p - 1) := facOf_fac (by have := hp.1; omega)
theorem ordP_spec {a p : Nat} (hp : IsPr p) (h1 : 1 ≤ a) (h2 : a < p) : Pow1 a p (ordP a p) ∧ 1 ≤ ordP a p ∧ ordP a p ∣ p - 1 ∧ ∀ q, IsPr q → q ∣ ordP a p → ¬ Pow1 a p (ordP a p / q) := ord_done (fac_pm hp) (fermat1 hp h1 h2)
theorem pr_div {n N : Nat} (hd : n ∣ N) (hN : 1 ≤ N) (hne : n ≠ N) : ∃ q, IsPr q ∧ q ∣ N ∧ n ∣ N / q := by
  obtain ⟨c, rfl⟩ := hd
  have hc : 1 < c := by
    rcases (by omega : c = 0 ∨ c = 1 ∨ 1 < c) with rfl | rfl | h
    · simp at hN
    · simp at hne
    · exact h
  obtain ⟨q, hq, d, rfl⟩ := pr_ex hc
  refine ⟨q, hq, ⟨n * d, by simp only [Nat.mul_comm, Nat.mul_left_comm, Nat.mul_assoc]⟩, ?_⟩
  have : n * (q * d) = q * (n * d) := by simp only [Nat.mul_comm, Nat.mul_left_comm, Nat.mul_assoc]
  rw [this, Nat.mul_div_cancel_left _ (by have := hq.1; omega)]
  exact ⟨d, rfl⟩
/-- the whole order is the witness' -/
theorem ordP_wit {a p : Nat} (hp : IsPr p) (h1 : 1 ≤ a) (h2 : a < p) : ordP a p = p - 1 ↔ Wit a p (ps (facOf (p - 1))) := by
  have hp2 := hp.1
  have hL := fac_pm hp
  have h1p : 1 % p = 1 := Nat.mod_eq_of_lt hp2
  obtain ⟨o1, o2, o3, o4⟩ := ordP_spec hp h1 h2
  rw [wit_iff]
  constructor
  · intro h
    rw [h] at o1 o4
    refine ⟨by unfold Pow1 at o1; omega, fun x hx hh => ?_⟩
    have hxx := hL.all x hx
    exact o4 x.1 hxx.1 (by rw [← hL.prod]; exact Nat.dvd_trans (Nat.dvd_of_pow_dvd hxx.2 (Nat.dvd_refl _)) (mem_dvd_prod hx)) (by unfold Pow1; omega)
  · rintro ⟨_, h⟩
    refine Classical.byContradiction fun hne => ?_
    obtain ⟨q, hq, hd, hdv⟩ := pr_div o3 (by omega) hne
    obtain ⟨e, he⟩ := pr_dvd_prod hq hL.all (by rw [hL.prod]; exact hd)
    refine h (q, e) he ?_
    have := o1.dvd hdv
    unfold Pow1 at this
    simp only
    omega
theorem least_wit {p : Nat} (hp : IsPr p) : ∃ G, 1 ≤ G ∧ G < p ∧ Wit G p (ps (facOf (p - 1))) ∧ ∀ k, 1 ≤ k → k < G → ¬ Wit k p (ps (facOf (p - 1))) := by
  obtain ⟨g, g1, g2, g3⟩ := gen_ex hp (fac_pm hp)
  have hw : Wit g p (ps (facOf (p - 1))) := by
    rw [wit_iff]
    have h1p : 1 % p = 1 := Nat.mod_eq_of_lt hp.1
    have := fermat1 hp g1 g2
    unfold Pow1 at this
    refine ⟨by omega, fun x hx hh => g3 x hx (by unfold Pow1; omega)⟩
  have key : ∀ n, ∀ g, g = n → 1 ≤ g → g < p → Wit g p (ps (facOf (p - 1))) → ∃ G, 1 ≤ G ∧ G < p ∧ Wit G p (ps (facOf (p - 1))) ∧ ∀ k, 1 ≤ k → k < G → ¬ Wit k p (ps (facOf (p - 1))) := by
    intro n
    induction n using Nat.strongRecOn with
    | _ n ih =>
      intro g e h1 h2 h3
      by_cases h : ∃ k, 1 ≤ k ∧ k < g ∧ Wit k p (ps (facOf (p - 1)))
      · obtain ⟨k, k1, k2, k3⟩ := h
        exact ih k (by omega) k rfl k1 (by omega) k3
      · exact ⟨g, h1, h2, h3, fun k k1 k2 k3 => h ⟨k, k1, k2, k3⟩⟩
  exact key g g rfl g1 g2 hw
def cellV (sz : Nat) : Nat → AV
  | 0 => .nilS
  | n + 1 => .sl 1 sz 0 (n + 1)
theorem own60 {call : CallF} {L : List (Nat × Nat)} {w p : Int} {b : Bool} (h : call 60 [.int .i64 w, .int .i64 p, fzL (ps L)] [] = some (.bool b, [])) :
    callPure call true 60 [.int .i64 w, .int .i64 p, cellV 1 L.length] (cellH 1 L.length (iL (ps L))) = some (.bool b, cellH 1 L.length (iL (ps L))) := by
  have e : frzV (cellH 1 L.length (iL (ps L))) 37 (cellV 1 L.length) = some (fzL (ps L)) := by
    rcases L with _ | ⟨x, L⟩
    · simp [cellV, frzV, fzL, ps]
    · have : (ps (x :: L)).length = L.length + 1 := by rw [ps_len]; rfl
      have e2 : fzL (ps (x :: L)) = .rd 1 (L.length + 1) (iL (ps (x :: L))) := by
        cases hps : ps (x :: L) with
        | nil => rw [hps] at this; simp at this
        | cons a r => rw [hps] at this; simp at this; simp [fzL, this]
      rw [e2]
      have h3 : (iL (ps (x :: L))).length = L.length + 1 := by rw [iL_len, this]
      generalize iL (ps (x :: L)) = C at *
      simp [cellH, cellV, frzV, Heap.data?, List.take_of_length_le, h3]
  have e1 : frzL (cellH 1 L.length (iL (ps L))) 40 [.int .i64 w, .int .i64 p, cellV 1 L.length] = some [.int .i64 w, .int .i64 p, fzL (ps L)] := by
    simp only [frzL_cons, frzL_nil, frzV_int, e, Option.bind_some, Option.map_some]
  simp [callPure, e1, h, frzV_bool, AV.hasRd]
theorem p_ldCell {L : Nat} {C : List AV} : evP (cellH 1 L C) (.ld false 1) [.ptr 0 0] = some (cellV 1 L) := by
  cases L <;> exact p_ldBox rfl
theorem gcG {n p g : Int} {L : Nat} {C : List AV} : gc 0 [.int .i64 p, .ptr 0 0, .int .i64 g] (cellH 1 L C) = some ([.int .i64 p, .ptr 0 0, .int .i64 g], cellH 1 L C) := by
  cases L <;> simp [cellH, go_sem]
theorem f32 {p : Nat} (hp : IsPr p) (hp2 : p ≤ 2147483647) {G : Nat} (hG : 1 ≤ G ∧ G < p ∧ Wit G p (ps (facOf (p - 1))) ∧ ∀ k, 1 ≤ k → k < G → ¬ Wit k p (ps (facOf (p - 1)))) {m : Nat} (hm : 46500 + p ≤ m) :
    evF tab it m 32 [.int .i64 (p : Int)] [] = some (.tup [.int .i64 (G : Int), .int .i64 0], []) := by
  obtain ⟨m, rfl⟩ : ∃ j, m = j + 1 := ⟨m - 1, by omega⟩
  obtain ⟨m', rfl⟩ : ∃ j, m = j + 1 := ⟨m - 1, by omega⟩
  have hpp := hp.1
  have hL := fac_pm hp
  have hl30 := fac_len31 hL (by omega)
  obtain ⟨G1, G2, G3, G4⟩ := hG
  have hc := mut58 (f58 (by omega) (by omega) hL (clo59 hl30 (m := m') (by omega)) (by omega))
  have hpos := ps_pos hL.toFacR
  have hpl := ps_len (facOf (p - 1))
  have h60 := fun {w : Nat} (hw : w < p) => own60 (f60 (w := w) (p := p) (isL_fz (ps (facOf (p - 1)))) (by omega) hp2 hw hpos (by omega) (m := m' + 1) (by omega))
  have h44 := fun H => c44 (m := m' + 1) (by omega) (p : Int) H
  have hPN : IsPN (p : Int) := ⟨⟨by omega, by omega⟩, by simpa using hp⟩
  simp only [hPN, decide_true] at h44
  refine f_enter rfl rfl ?_
  generalize evF tab it (m' + 1) = call at *
  generalize facOf (p - 1) = L at *
  repeat' first
 | (apply s_mov; (focus ((conv => lhs; whnf); done)))
 | (apply c_nil)
 | (apply s_notT; exact rfl)
 | (apply s_cn; (focus (repeat (first | apply opds_nil | (apply opds_cons; (first | (focus ((conv => lhs; whnf); done)) | exact rfl))))); exact h44 _)
 | (apply s_en; (focus (repeat (first | apply opds_nil | (apply opds_cons; (first | (focus ((conv => lhs; whnf); done)) | exact rfl))))); exact e_alB0)
 | (apply s_subN (b := 1); exact rfl; omega; omega)
 | (apply s_en; (focus (repeat (first | apply opds_nil | (apply opds_cons; (first | (focus ((conv => lhs; whnf); done)) | exact rfl))))); exact hc)
 | (apply s_pn; (focus (repeat (first | apply opds_nil | (apply opds_cons; (first | (focus ((conv => lhs; whnf); done)) | exact rfl))))); exact p_mkfn)
 | (apply c_seq)
 | (apply c_reg)
 | (apply c_block)
 | (apply c_skip)
 | (apply c_condF; exact rfl)
 | (with_reducible apply k_c)
  refine c_loop ?_
  refine loop_gc (σ := Nat) (fun g => [.int .i64 (p : Int), .ptr 0 0, .int .i64 (g : Int)]) (fun _ => cellH 1 L.length (iL (ps L))) (fun g => 1 ≤ g ∧ g ≤ G ∧ ∀ k, 1 ≤ k → k < g → ¬ Wit k p (ps L)) (fun g => G - g) ?_ _ 1 _ _ ⟨by omega, by omega, fun k h1 h2 => by omega⟩ (by omega) (gcG (n := 0))
  intro g ⟨g1, g2, g3⟩ K hK
  have e60 := h60 (w := g) (by omega)
  by_cases hw : Wit g p (ps L)
  · have hgG : g = G := by
      rcases (by omega : g = G ∨ g < G) with h | h
      · exact h
      · exact absurd hw (G4 g g1 h)
    simp only [hw, decide_true] at e60
    repeat' first
 | (apply s_mov; (focus ((conv => lhs; whnf); done)))
 | (apply c_nil)
 | (apply s_notT; exact rfl)
 | (apply s_pn; (focus (repeat (first | apply opds_nil | (apply opds_cons; (first | (focus ((conv => lhs; whnf); done)) | exact rfl))))); exact p_ldCell)
 | (apply s_cn; (focus (repeat (first | apply opds_nil | (apply opds_cons; (first | (focus ((conv => lhs; whnf); done)) | exact rfl))))); exact e60)
 | (apply c_seq)
 | (apply c_reg)
 | (apply c_exitH)
 | (apply c_ret)
 | (apply c_condF; exact rfl)
 | (apply c_preF; (focus (repeat (first | apply looks_nil | (apply looks_cons; (focus ((conv => lhs; whnf); done)))))); (focus (simp [idFreeL, AV.idFree, *]; done)))
 | (with_reducible apply k_c)
    exact fin_tt (by (conv => lhs; whnf)) (by (conv => lhs; whnf)) (by rfl) (by rfl) (by rw [hgG])
  · have hgG : g < G := by
      rcases (by omega : g = G ∨ g < G) with rfl | h
      · exact absurd G3 hw
      · exact h
    simp only [hw, decide_false] at e60
    repeat' first
 | (apply s_mov; (focus ((conv => lhs; whnf); done)))
 | (apply c_nil)
 | (apply s_notF; exact rfl)
 | ((first | apply s_add | apply s_sub); exact rfl; omega)
 | (apply s_pn; (focus (repeat (first | apply opds_nil | (apply opds_cons; (first | (focus ((conv => lhs; whnf); done)) | exact rfl))))); exact p_ldCell)
 | (apply s_cn; (focus (repeat (first | apply opds_nil | (apply opds_cons; (first | (focus ((conv => lhs; whnf); done)) | exact rfl))))); exact e60)
 | (apply c_seq)
 | (apply c_reg)
 | (apply c_block)
 | (apply c_skip)
 | (apply c_condT; exact rfl)
 | (with_reducible apply k_c)
    refine hK (g + 1) _ _ ⟨by omega, by omega, fun k h1 h2 => ?_⟩ (by omega) (gcG (n := 0))
    rcases (by omega : k < g ∨ k = g) with h | rfl
    · exact g3 k h1 h
    · exact hw
theorem f32e {p : Int} (hp : ¬ IsPN p) {m : Nat} (hm : 46500 ≤ m) : evF tab it m 32 [.int .i64 p] [] = some (.tup [.int .i64 0, .int .i64 2], []) := by
  obtain ⟨m, rfl⟩ : ∃ j, m = j + 1 := ⟨m - 1, by omega⟩
  have h44 := fun H => c44 (m := m) (by omega) p H
  simp only [hp, decide_false] at h44
  refine f_enter rfl rfl ?_
  generalize evF tab it m = call at *
  repeat' first
 | (apply s_mov; (focus ((conv => lhs; whnf); done)))
 | (apply c_nil)
 | (apply s_notF; exact rfl)
 | (apply s_cn; (focus (repeat (first | apply opds_nil | (apply opds_cons; (first | (focus ((conv => lhs; whnf); done)) | exact rfl))))); exact h44 _)
 | (apply c_seq)
 | (apply c_reg)
 | (apply c_ret)
 | (apply c_condT; exact rfl)
 | (with_reducible apply k_c)
  exact fin_tt (by (conv => lhs; whnf)) (by (conv => lhs; whnf)) (by rfl) (by rfl) rfl
end Go.AM.Pr
