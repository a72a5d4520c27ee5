/- A part of the proof: S32 S33. -/
import Derived.Test.YtbjkmejlecoebaaS31
set_option linter.unusedSectionVars false
set_option linter.unusedVariables false
set_option linter.unusedSimpArgs false
namespace Go.AM.Pr
attribute [local go_sem] gc subHeap reach_skip ren_free reach_new reach_newp reach_end rangeL roots boxCells nodupB posOf renL AV.ren pickO renH renO looks look bindEnv envOf reach_int reach_bool reach_nilS reach_rd putRow cells_sl cells_int cells_bool cells_nilS cells_rd cells_agg reach_agg reach_tup idFreeL idf_sl idf_ptr idf_int idf_bool idf_nilS idf_rd reach_fn reach_mp cells_fn cells_ptr cells_mp idf_mp idf_fn idf_agg idf_tup
open Go.AM.Num
set_option maxHeartbeats 4000000
theorem asc_chain {f : List Int} : ∀ (i : Nat), (∀ k : Nat, k < i → 0 < k → getI f ((k : Int) - 1) < getI f k) → ∀ j k : Nat, j < k → k < i → getI f j < getI f k
  | 0, _, j, k, _, h => by omega
  | i + 1, h, j, k, hjk, hk => by
    have ih := asc_chain i fun k hk => h k (by omega)
    rcases (by omega : k < i ∨ k = i) with h' | rfl
    · exact ih j k hjk h'
    · have h1 := h k (by omega) (by omega)
      obtain ⟨n, rfl⟩ : ∃ n, k = n + 1 := ⟨k - 1, by omega⟩
      have e : ((n + 1 : Nat) : Int) - 1 = (n : Int) := by omega
      rw [e] at h1
      rcases (by omega : j < n ∨ j = n) with h' | rfl
      · exact Int.lt_trans (ih j n h' (by omega)) h1
      · exact h1
def MapB (l : List (Int × AV)) (B : List Int) : Prop := ∀ q, findL q l = if q ∈ B then some (.bool true) else none
theorem f73 {p w : Int} {fv : AV} {f B : List Int} {l : List (Int × AV)} (hB : MapB l B) (hpr : AllPr B) (hf : IsL fv f) (hlen : f.length ≤ 1000) {m : Nat} (hm : 3000 ≤ m) :
    evF tab it m 73 [.agg [.int .i64 p, .int .i64 w, fv], .mp 0] [some (.map (mE l))] = some (.bool (decide (EOk p w f B)), [some (.map (mE l))]) := by
  obtain ⟨m, rfl⟩ : ∃ j, m = j + 1 := ⟨m - 1, by omega⟩
  have ff := hf.free
  have fo := hf.one
  have h41 := fun a H => c41 (m := m) (by omega) a H
  have h60 := fun {w p : Nat} (hp : 1 ≤ p) (hp2 : p ≤ 2147483647) (hw : w < p) (hF : ∀ i : Nat, i < f.length → 1 ≤ getI f i) H => c60 (w := w) (p := p) hf hp hp2 hw hF hlen (m := m) (by omega) H
  refine f_enterH rfl rfl ?_
  have hm3 : 2000 ≤ m := by omega
  generalize evF tab it m = call at *
  have ob : evE call [some (.map (mE l))] (.box false) [.agg [.int .i64 p, .int .i64 w, fv]] = some (.ptr 1 0, [some (.map (mE l)), some (.box [.int .i64 p, .int .i64 w, fv])]) := by
    have o1 : ∀ x : Int, (AV.int .i64 x).one = true := fun _ => rfl
    simp [evE, cells_agg, oneL, o1, fo, mkHO]
  have l0 : evP [some (.map (mE l)), some (.box [.int .i64 p, .int .i64 w, fv])] (.ld false 1) [.ptr 1 0] = some (.int .i64 p) := rfl
  have l1 : evP [some (.map (mE l)), some (.box [.int .i64 p, .int .i64 w, fv])] (.ld false 1) [.ptr 1 1] = some (.int .i64 w) := rfl
  have l2 : evP [some (.map (mE l)), some (.box [.int .i64 p, .int .i64 w, fv])] (.ld false 1) [.ptr 1 2] = some fv := rfl
  have d0 : ∀ H, evP H (.fldA 0) [.ptr 1 0] = some (.ptr 1 0) := fun _ => rfl
  have d1 : ∀ H, evP H (.fldA 1) [.ptr 1 0] = some (.ptr 1 1) := fun _ => rfl
  have d2 : ∀ H, evP H (.fldA 2) [.ptr 1 0] = some (.ptr 1 2) := fun _ => rfl
  have lf : ∀ H, evP H .len [fv] = some (.int .i64 (f.length : Int)) := fun H => by cases hf <;> simp [evP, lenOf]
  have fin : ∀ (b : Bool) (env : Env), look env 4 = .bool b → finish 1 [.t 4] env [some (.map (mE l)), some (.box [.int .i64 p, .int .i64 w, fv])] = some (.bool b, [some (.map (mE l))]) := fun b env he => by
    simp [finish, ress, resOf, he, tupOf, go_sem, reach_bool, fo]
  by_cases hp2 : p = 2
  · subst hp2
    have hE : EOk 2 w f B ↔ w = 1 ∧ f = [] := by
      unfold EOk
      constructor
      · rintro (⟨_, h⟩ | ⟨h, _⟩)
        · exact h
        · exact absurd rfl h
      · rintro ⟨h1, h2⟩; exact .inl ⟨rfl, h1, h2⟩
    have hf0 : f = [] ↔ f.length = 0 := List.length_eq_zero_iff.symm
    rw [decide_eq_decide.2 hE]
    repeat' first
 | (apply s_mov; (focus ((conv => lhs; whnf); done)))
 | (apply s_gT; exact rfl)
 | (apply s_gF; exact rfl)
 | (apply c_nil)
 | (apply s_pickT; exact rfl; (focus ((conv => lhs; whnf); done)))
 | (apply s_pickF; exact rfl; (focus ((conv => lhs; whnf); done)))
 | ((first | apply s_lss | apply s_leq | apply s_gtr | apply s_geq | apply s_eql | apply s_neq); exact rfl; all_goals (intro _; try (exfalso; omega)))
 | (apply s_en; (focus (repeat (first | apply opds_nil | (apply opds_cons; (first | (focus ((conv => lhs; whnf); done)) | exact rfl))))); exact ob)
 | (apply s_pn; (focus (repeat (first | apply opds_nil | (apply opds_cons; (first | (focus ((conv => lhs; whnf); done)) | exact rfl))))); exact l0)
 | (apply s_pn; (focus (repeat (first | apply opds_nil | (apply opds_cons; (first | (focus ((conv => lhs; whnf); done)) | exact rfl))))); exact l1)
 | (apply s_pn; (focus (repeat (first | apply opds_nil | (apply opds_cons; (first | (focus ((conv => lhs; whnf); done)) | exact rfl))))); exact l2)
 | (apply s_pn; (focus (repeat (first | apply opds_nil | (apply opds_cons; (first | (focus ((conv => lhs; whnf); done)) | exact rfl))))); exact d0 _)
 | (apply s_pn; (focus (repeat (first | apply opds_nil | (apply opds_cons; (first | (focus ((conv => lhs; whnf); done)) | exact rfl))))); exact d1 _)
 | (apply s_pn; (focus (repeat (first | apply opds_nil | (apply opds_cons; (first | (focus ((conv => lhs; whnf); done)) | exact rfl))))); exact d2 _)
 | (apply s_pn; (focus (repeat (first | apply opds_nil | (apply opds_cons; (first | (focus ((conv => lhs; whnf); done)) | exact rfl))))); exact lf _)
 | (apply c_seq)
 | (apply c_reg)
 | (apply c_ret)
 | (apply c_condT; exact rfl)
 | (with_reducible apply k_c)
    · rw [decide_eq_true ⟨by omega, hf0.2 (by omega)⟩]; exact fin _ _ rfl
    · rw [decide_eq_false (fun h => by have := hf0.1 h.2; omega)]; exact fin _ _ rfl
    · rw [decide_eq_false (fun h => by have := h.1; omega)]; exact fin _ _ rfl
  · by_cases hc : 3 ≤ p ∧ p.tmod 2 ≠ 0 ∧ IsNum p ∧ 2 ≤ w ∧ w < p
    · obtain ⟨c1, c2, c3, c4, c5⟩ := hc
      have c3' := c3
      unfold IsNum at c3'
      obtain ⟨P, rfl⟩ : ∃ P : Nat, p = P := ⟨p.toNat, by omega⟩
      obtain ⟨W, rfl⟩ : ∃ P : Nat, w = P := ⟨w.toNat, by omega⟩
      have e41 := fun H => h41 (P : Int) H
      simp only [c3, decide_true] at e41
      have hN1 : ((P : Int) - 1).toNat = P - 1 := by omega
      have hE : EOk (P : Int) (W : Int) f B ↔ (∀ k : Nat, k < f.length → getI f k ∈ B ∧ (0 < k → getI f ((k : Int) - 1) < getI f k) ∧ (getI f k).toNat ∣ P - 1) ∧ (∀ q, IsPr q → q ∣ P - 1 → ((q : Nat) : Int) ∈ f) ∧ Wit W P f := by
        unfold EOk
        rw [hN1, Int.toNat_natCast, Int.toNat_natCast]
        constructor
        · rintro (⟨h, _⟩ | ⟨_, _, _, _, _, _, h8, h9, h10⟩)
          · exact absurd h hp2
          · exact ⟨h8, h9, h10⟩
        · rintro ⟨h8, h9, h10⟩
          exact .inr ⟨hp2, c1, c2, c3, c4, c5, h8, h9, h10⟩
      have gcX : ∀ a b c : Int, gc 1 [.mp 0, .ptr 1 0, .int .i64 a, fv, .int .i64 b, .int .i64 c] [some (.map (mE l)), some (.box [.int .i64 (P : Int), .int .i64 (W : Int), fv])] = some ([.mp 0, .ptr 1 0, .int .i64 a, fv, .int .i64 b, .int .i64 c], [some (.map (mE l)), some (.box [.int .i64 (P : Int), .int .i64 (W : Int), fv])]) := fun a b c => by
        simp [go_sem, ff]
      have gcY : ∀ a b c d : Int, gc 1 [.mp 0, .ptr 1 0, .int .i64 a, .int .i64 d, fv, .int .i64 b, .int .i64 c] [some (.map (mE l)), some (.box [.int .i64 (P : Int), .int .i64 (W : Int), fv])] = some ([.mp 0, .ptr 1 0, .int .i64 a, .int .i64 d, fv, .int .i64 b, .int .i64 c], [some (.map (mE l)), some (.box [.int .i64 (P : Int), .int .i64 (W : Int), fv])]) := fun a b c d => by
        simp [go_sem, ff]
      have gcZ : ∀ a : Int, gc 1 [.ptr 1 0, .int .i64 a] [some (.map (mE l)), some (.box [.int .i64 (P : Int), .int .i64 (W : Int), fv])] = some ([.ptr 1 0, .int .i64 a], [some (.map (mE l)), some (.box [.int .i64 (P : Int), .int .i64 (W : Int), fv])]) := fun a => by
        simp [go_sem, ff]
      have lk : ∀ q : Int, evE call [some (.map (mE l)), some (.box [.int .i64 (P : Int), .int .i64 (W : Int), fv])] (.lkM [some .i64] false (.bool false)) [.mp 0, .int .i64 q] = some (.bool (decide (q ∈ B)), [some (.map (mE l)), some (.box [.int .i64 (P : Int), .int .i64 (W : Int), fv])]) := fun q => by
        rw [e_lkMf (l := l) rfl, hB q]
        by_cases h : q ∈ B <;> simp [h]
      obtain ⟨Hx, hHx⟩ : ∃ Hx : Heap, Hx = [some (HO.map (mE l)), some (HO.box [AV.int .i64 (P : Int), AV.int .i64 (W : Int), fv])] := ⟨_, rfl⟩
      rw [← hHx] at ob l0 l1 l2 gcX gcY gcZ lk
      simp only [← hHx] at fin gcX gcY gcZ lk
      repeat' first
 | (apply s_mov; (focus ((conv => lhs; whnf); done)))
 | (apply s_gT; exact rfl)
 | (apply c_nil)
 | (apply s_pickF; exact rfl; (focus ((conv => lhs; whnf); done)))
 | (apply s_notT; exact rfl)
 | ((first | apply s_lss | apply s_leq | apply s_gtr | apply s_geq | apply s_eql | apply s_neq); exact rfl; all_goals (intro _; try (exfalso; omega)))
 | (apply s_en; (focus (repeat (first | apply opds_nil | (apply opds_cons; (first | (focus ((conv => lhs; whnf); done)) | exact rfl))))); exact ob)
 | (apply s_pn; (focus (repeat (first | apply opds_nil | (apply opds_cons; (first | (focus ((conv => lhs; whnf); done)) | exact rfl))))); exact l0)
 | (apply s_pn; (focus (repeat (first | apply opds_nil | (apply opds_cons; (first | (focus ((conv => lhs; whnf); done)) | exact rfl))))); exact l1)
 | (apply s_pn; (focus (repeat (first | apply opds_nil | (apply opds_cons; (first | (focus ((conv => lhs; whnf); done)) | exact rfl))))); exact l2)
 | (apply s_pn; (focus (repeat (first | apply opds_nil | (apply opds_cons; (first | (focus ((conv => lhs; whnf); done)) | exact rfl))))); exact d0 _)
 | (apply s_pn; (focus (repeat (first | apply opds_nil | (apply opds_cons; (first | (focus ((conv => lhs; whnf); done)) | exact rfl))))); exact d1 _)
 | (apply s_pn; (focus (repeat (first | apply opds_nil | (apply opds_cons; (first | (focus ((conv => lhs; whnf); done)) | exact rfl))))); exact d2 _)
 | (apply s_pn; (focus (repeat (first | apply opds_nil | (apply opds_cons; (first | (focus ((conv => lhs; whnf); done)) | exact rfl))))); exact lf _)
 | (apply s_cn; (focus (repeat (first | apply opds_nil | (apply opds_cons; (first | (focus ((conv => lhs; whnf); done)) | exact rfl))))); exact e41 _)
 | (apply s_subN (b := 1); exact rfl; omega; omega)
 | (apply s_rem (b := 2); exact rfl; omega)
 | (apply c_seq)
 | (apply c_reg)
 | (apply c_block)
 | (apply c_skip)
 | (apply c_condF; exact rfl)
 | (with_reducible apply k_c)
      refine c_loop ?_
      refine loop_gc (σ := Nat × Nat) (fun s => [.mp 0, .ptr 1 0, .int .i64 (s.2 : Int), fv, .int .i64 (f.length : Int), .int .i64 (s.1 : Int)]) (fun _ => Hx) (fun s => s.1 ≤ f.length ∧ Left f s.1 (P - 1) s.2 ∧ ∀ k : Nat, k < s.1 → getI f k ∈ B ∧ (0 < k → getI f ((k : Int) - 1) < getI f k) ∧ (getI f k).toNat ∣ P - 1) (fun s => f.length - s.1) ?_ _ (0, P - 1) _ _ ⟨by show 0 ≤ _; omega, Left.init f (P - 1), fun k hk => by simp at hk⟩ (by show f.length - 0 < _; omega) (gcX _ _ _)
      intro ⟨i, rest⟩ ⟨hi, hL, hk⟩ K hK
      dsimp only at hi hL hk hK ⊢
      obtain ⟨r1, r2⟩ := hL.pos (by omega)
      by_cases hil : i < f.length
      · by_cases hqB : getI f i ∈ B
        · obtain ⟨q1, q2⟩ := hpr _ hqB
          obtain ⟨Q, hQ⟩ : ∃ Q : Nat, getI f i = (Q : Int) := ⟨(getI f i).toNat, by omega⟩
          have lkq := lk (getI f i)
          simp only [hqB, decide_true] at lkq
          rw [hQ, Int.toNat_natCast] at q2
          have hq2 := q2.1
          by_cases hasc : 0 < i → getI f ((i : Int) - 1) < getI f i
          · have hpre : ∀ j : Nat, j < i → getI f j ≠ (Q : Int) := fun j hj => by
              have := asc_chain (f := f) (i + 1) (fun k hk0 h0 => by
                rcases (by omega : k < i ∨ k = i) with h' | rfl
                · exact (hk k h').2.1 h0
                · exact hasc h0) j i hj (by omega)
              omega
            have hdv := hL.dvd q2 hpre
            have ldq : ∀ H, evP H (.ld false 1) [.rp (iL (f.drop ((i : Int).toNat)))] = some (.int .i64 (Q : Int)) := fun H => by
              rw [p_ld ⟨by omega, by omega⟩, hQ]
            rw [hQ] at lkq
            by_cases hqd : Q ∣ rest
            · obtain ⟨e, r, he, hr⟩ := take_out hq2 r1
              have hLs : Left f (i + 1) (P - 1) r := Left.step (he ▸ hL) q2 hQ hr
              obtain ⟨rr1, rr2⟩ := hLs.pos (by omega)
              have he31 : e < 100 := by
                rcases Nat.lt_or_ge e 100 with h | h
                · exact h
                · have a1 := Nat.pow_le_pow_right (show 0 < 2 by omega) h
                  have a2 := Nat.pow_le_pow_left hq2 e
                  have a3 := Nat.le_mul_of_pos_right (Q ^ e) rr1
                  have a4 : 2 ^ 100 ≤ rest := by rw [he]; omega
                  have : 2 ^ 100 ≤ 2147483647 := by omega
                  exact absurd this (by decide)
              have hle : ∀ j, j ≤ e → Q ^ (e - j) * r ≤ rest := fun j hj => by
                rw [he]
                exact Nat.mul_le_mul_right _ (Nat.pow_le_pow_right (by omega) (by omega))
              have hz : ∀ j, j < e → Q ^ (e - j) * r % Q = 0 ∧ Q ^ (e - j) * r / Q = Q ^ (e - (j + 1)) * r := fun j hj => by
                have : Q ^ (e - j) * r = Q * (Q ^ (e - (j + 1)) * r) := by
                  rw [show e - j = (e - (j + 1)) + 1 by omega, Nat.pow_succ]
                  simp only [Nat.mul_comm, Nat.mul_left_comm, Nat.mul_assoc]
                rw [this]
                exact ⟨Nat.mul_mod_right _ _, Nat.mul_div_cancel_left _ (by omega)⟩
              have hnz : r % Q ≠ 0 := fun h => hr (Nat.dvd_of_mod_eq_zero h)
              have e0 : Q ^ (e - e) * r = r := by rw [Nat.sub_self, Nat.pow_zero, Nat.one_mul]
              have hrm : rest % Q = 0 := Nat.mod_eq_zero_of_dvd hqd
              have hk' : ∀ k : Nat, k < i + 1 → getI f k ∈ B ∧ (0 < k → getI f ((k : Int) - 1) < getI f k) ∧ (getI f k).toNat ∣ P - 1 := fun k hk0 => by
                rcases (by omega : k < i ∨ k = i) with h' | rfl
                · exact hk k h'
                · exact ⟨hqB, hasc, by rw [hQ, Int.toNat_natCast]; exact hdv.1 hqd⟩
              repeat' first
 | (apply s_mov; (focus ((conv => lhs; whnf); done)))
 | (apply s_gT; exact rfl)
 | (apply s_gF; exact rfl)
 | (apply c_nil)
 | (apply s_pickT; exact rfl; (focus ((conv => lhs; whnf); done)))
 | (apply s_pickF; exact rfl; (focus ((conv => lhs; whnf); done)))
 | (apply s_notT; exact rfl)
 | ((first | apply s_lss | apply s_leq | apply s_gtr | apply s_geq | apply s_eql | apply s_neq); exact rfl; all_goals (intro _; try (exfalso; omega)))
 | (apply s_pn; (focus (repeat (first | apply opds_nil | (apply opds_cons; (first | (focus ((conv => lhs; whnf); done)) | exact rfl))))); exact ldq _)
 | (apply s_en; (focus (repeat (first | apply opds_nil | (apply opds_cons; (first | (focus ((conv => lhs; whnf); done)) | exact rfl))))); exact lkq)
 | (apply s_pn; (focus (repeat (first | apply opds_nil | (apply opds_cons; (first | (focus ((conv => lhs; whnf); done)) | exact rfl))))); exact l2)
 | (apply s_pn; (focus (repeat (first | apply opds_nil | (apply opds_cons; (first | (focus ((conv => lhs; whnf); done)) | exact rfl))))); exact d2 _)
 | ((first | apply s_add | apply s_sub); exact rfl; omega)
 | (apply s_remN; exact rfl; omega)
 | (apply s_idx; (focus ((conv => lhs; whnf); done)); exact rfl; (first | assumption | (apply IsLL.at; assumption; omega)); omega)
 | (apply s_ldI; exact rfl; omega)
 | (apply c_seq)
 | (apply c_reg)
 | (apply c_block)
 | (apply c_skip)
 | (apply c_condT; exact rfl)
 | (apply c_condF; exact rfl)
 | (with_reducible apply k_c)
              all_goals
                refine c_loop ?_
                refine loop_gc (σ := Nat) (fun j => [.mp 0, .ptr 1 0, .int .i64 ((Q ^ (e - j) * r : Nat) : Int), .int .i64 (Q : Int), fv, .int .i64 (f.length : Int), .int .i64 (i : Int)]) (fun _ => Hx) (fun j => j ≤ e) (fun j => e - j) ?_ _ 0 _ _ (by omega) (by omega) (by
                  rw [Nat.sub_zero, ← he]
                  exact gcY _ _ _ _)
                intro j hj K' hK'
                have hj2 := hle j hj
                have hj3 := hz j
                by_cases hje : j < e
                · obtain ⟨z1, z2⟩ := hj3 hje
                  repeat' first
 | (apply s_mov; (focus ((conv => lhs; whnf); done)))
 | (apply c_nil)
 | ((first | apply s_lss | apply s_leq | apply s_gtr | apply s_geq | apply s_eql | apply s_neq); exact rfl; all_goals (intro _; try (exfalso; omega)))
 | (apply s_quoN; exact rfl; omega; omega)
 | (apply s_remN; exact rfl; omega)
 | (apply c_seq)
 | (apply c_reg)
 | (apply c_block)
 | (apply c_skip)
 | (apply c_condT; exact rfl)
 | (with_reducible apply k_c)
                  rw [z2]
                  exact hK' (j + 1) _ _ (by omega) (by omega) (gcY _ _ _ _)
                · obtain rfl : e = j := by omega
                  rw [e0] at *
                  repeat' first
 | (apply s_mov; (focus ((conv => lhs; whnf); done)))
 | (apply c_nil)
 | ((first | apply s_lss | apply s_leq | apply s_gtr | apply s_geq | apply s_eql | apply s_neq); exact rfl; all_goals (intro _; try (exfalso; omega)))
 | (apply s_remN; exact rfl; omega)
 | (apply c_seq)
 | (apply c_reg)
 | (apply c_exitH)
 | (apply c_condF; exact rfl)
 | (with_reducible apply k_c)
                  try apply k_c
                  apply c_pre
                  · exact gcX _ _ _
                  repeat' first
 | (apply s_mov; (focus ((conv => lhs; whnf); done)))
 | (apply c_nil)
 | ((first | apply s_add | apply s_sub); exact rfl; omega)
 | (apply c_reg)
                  exact hK (i + 1, r) _ _ ⟨by show i + 1 ≤ _; omega, hLs, hk'⟩ (by show f.length - (i + 1) < f.length - i; omega) (gcX _ _ _)
            · have hrm : rest % Q ≠ 0 := fun h => hqd (Nat.dvd_of_mod_eq_zero h)
              have hno : ¬ EOk (P : Int) (W : Int) f B := fun h => hqd (hdv.2 (by have := ((hE.1 h).1 i hil).2.2; rw [hQ, Int.toNat_natCast] at this; exact this))
              rw [decide_eq_false hno]
              repeat' first
 | (apply s_mov; (focus ((conv => lhs; whnf); done)))
 | (apply s_gT; exact rfl)
 | (apply s_gF; exact rfl)
 | (apply c_nil)
 | (apply s_pickT; exact rfl; (focus ((conv => lhs; whnf); done)))
 | (apply s_pickF; exact rfl; (focus ((conv => lhs; whnf); done)))
 | (apply s_notT; exact rfl)
 | ((first | apply s_lss | apply s_leq | apply s_gtr | apply s_geq | apply s_eql | apply s_neq); exact rfl; all_goals (intro _; try (exfalso; omega)))
 | (apply s_pn; (focus (repeat (first | apply opds_nil | (apply opds_cons; (first | (focus ((conv => lhs; whnf); done)) | exact rfl))))); exact ldq _)
 | (apply s_en; (focus (repeat (first | apply opds_nil | (apply opds_cons; (first | (focus ((conv => lhs; whnf); done)) | exact rfl))))); exact lkq)
 | (apply s_pn; (focus (repeat (first | apply opds_nil | (apply opds_cons; (first | (focus ((conv => lhs; whnf); done)) | exact rfl))))); exact l2)
 | (apply s_pn; (focus (repeat (first | apply opds_nil | (apply opds_cons; (first | (focus ((conv => lhs; whnf); done)) | exact rfl))))); exact d2 _)
 | ((first | apply s_add | apply s_sub); exact rfl; omega)
 | (apply s_remN; exact rfl; omega)
 | (apply s_idx; (focus ((conv => lhs; whnf); done)); exact rfl; (first | assumption | (apply IsLL.at; assumption; omega)); omega)
 | (apply s_ldI; exact rfl; omega)
 | (apply c_seq)
 | (apply c_reg)
 | (apply c_block)
 | (apply c_skip)
 | (apply c_ret)
 | (apply c_condT; exact rfl)
 | (with_reducible apply k_c)
              all_goals exact fin _ _ rfl
          · have hno : ¬ EOk (P : Int) (W : Int) f B := fun h => hasc ((hE.1 h).1 i hil).2.1
            rw [decide_eq_false hno]
            have hi0 : 0 < i := Classical.byContradiction fun h => hasc fun h' => absurd h' h
            have hge : ¬ getI f ((i : Int) - 1) < getI f i := fun h => hasc fun _ => h
            repeat' first
 | (apply s_mov; (focus ((conv => lhs; whnf); done)))
 | (apply s_gT; exact rfl)
 | (apply s_gF; exact rfl)
 | (apply c_nil)
 | (apply s_pickT; exact rfl; (focus ((conv => lhs; whnf); done)))
 | (apply s_pickF; exact rfl; (focus ((conv => lhs; whnf); done)))
 | (apply s_notT; exact rfl)
 | ((first | apply s_lss | apply s_leq | apply s_gtr | apply s_geq | apply s_eql | apply s_neq); exact rfl; all_goals (intro _; try (exfalso; omega)))
 | (apply s_en; (focus (repeat (first | apply opds_nil | (apply opds_cons; (first | (focus ((conv => lhs; whnf); done)) | exact rfl))))); exact lkq)
 | (apply s_pn; (focus (repeat (first | apply opds_nil | (apply opds_cons; (first | (focus ((conv => lhs; whnf); done)) | exact rfl))))); exact l2)
 | (apply s_pn; (focus (repeat (first | apply opds_nil | (apply opds_cons; (first | (focus ((conv => lhs; whnf); done)) | exact rfl))))); exact d2 _)
 | ((first | apply s_add | apply s_sub); exact rfl; omega)
 | (apply s_idx; (focus ((conv => lhs; whnf); done)); exact rfl; (first | assumption | (apply IsLL.at; assumption; omega)); omega)
 | (apply s_ldI; exact rfl; omega)
 | (apply c_seq)
 | (apply c_reg)
 | (apply c_block)
 | (apply c_skip)
 | (apply c_ret)
 | (apply c_condT; exact rfl)
 | (with_reducible apply k_c)
            all_goals exact fin _ _ rfl
        · have hno : ¬ EOk (P : Int) (W : Int) f B := fun h => hqB ((hE.1 h).1 i hil).1
          rw [decide_eq_false hno]
          have lkq := lk (getI f i)
          simp only [hqB, decide_false] at lkq
          repeat' first
 | (apply s_mov; (focus ((conv => lhs; whnf); done)))
 | (apply s_gF; exact rfl)
 | (apply c_nil)
 | (apply s_pickT; exact rfl; (focus ((conv => lhs; whnf); done)))
 | (apply s_notF; exact rfl)
 | ((first | apply s_lss | apply s_leq | apply s_gtr | apply s_geq | apply s_eql | apply s_neq); exact rfl; all_goals (intro _; try (exfalso; omega)))
 | (apply s_en; (focus (repeat (first | apply opds_nil | (apply opds_cons; (first | (focus ((conv => lhs; whnf); done)) | exact rfl))))); exact lkq)
 | (apply s_idx; (focus ((conv => lhs; whnf); done)); exact rfl; (first | assumption | (apply IsLL.at; assumption; omega)); omega)
 | (apply s_ldI; exact rfl; omega)
 | (apply c_seq)
 | (apply c_reg)
 | (apply c_block)
 | (apply c_skip)
 | (apply c_ret)
 | (apply c_condT; exact rfl)
 | (with_reducible apply k_c)
          exact fin _ _ rfl
      · obtain rfl : i = f.length := by omega
        have hdone := hL.done (by omega)
        by_cases hr1 : rest = 1
        · subst hr1
          have hpos : ∀ j : Nat, j < f.length → 1 ≤ getI f j := fun j hj => by have := (hpr _ (hk j hj).1).1; omega
          have e60 := h60 (w := W) (p := P) (by omega) (by omega) (by omega) hpos Hx
          have hE2 : EOk (P : Int) (W : Int) f B ↔ Wit W P f := hE.trans ⟨fun h => h.2.2, fun h => ⟨hk, hdone.1 rfl, h⟩⟩
          repeat' first
 | (apply c_nil)
 | ((first | apply s_lss | apply s_leq | apply s_gtr | apply s_geq | apply s_eql | apply s_neq); exact rfl; all_goals (intro _; try (exfalso; omega)))
 | (apply c_seq)
 | (apply c_reg)
 | (apply c_exitH)
 | (apply c_condF; exact rfl)
 | (with_reducible apply k_c)
          try apply k_c
          apply c_pre
          · exact gcZ _
          repeat' first
 | (apply s_mov; (focus ((conv => lhs; whnf); done)))
 | (apply s_gT; exact rfl)
 | (apply c_nil)
 | (apply s_pickT; exact rfl; (focus ((conv => lhs; whnf); done)))
 | ((first | apply s_lss | apply s_leq | apply s_gtr | apply s_geq | apply s_eql | apply s_neq); exact rfl; all_goals (intro _; try (exfalso; omega)))
 | (apply s_pn; (focus (repeat (first | apply opds_nil | (apply opds_cons; (first | (focus ((conv => lhs; whnf); done)) | exact rfl))))); exact l0)
 | (apply s_pn; (focus (repeat (first | apply opds_nil | (apply opds_cons; (first | (focus ((conv => lhs; whnf); done)) | exact rfl))))); exact l1)
 | (apply s_pn; (focus (repeat (first | apply opds_nil | (apply opds_cons; (first | (focus ((conv => lhs; whnf); done)) | exact rfl))))); exact l2)
 | (apply s_pn; (focus (repeat (first | apply opds_nil | (apply opds_cons; (first | (focus ((conv => lhs; whnf); done)) | exact rfl))))); exact d0 _)
 | (apply s_pn; (focus (repeat (first | apply opds_nil | (apply opds_cons; (first | (focus ((conv => lhs; whnf); done)) | exact rfl))))); exact d1 _)
 | (apply s_pn; (focus (repeat (first | apply opds_nil | (apply opds_cons; (first | (focus ((conv => lhs; whnf); done)) | exact rfl))))); exact d2 _)
 | (apply isE; refine s_cB (by (focus (repeat (first | apply opds_nil | (apply opds_cons; (first | (focus ((conv => lhs; whnf); done)) | exact rfl)))))) (e60) (fun _ => ?_) (fun _ => ?_))
 | (apply c_seq)
 | (apply c_reg)
 | (apply c_ret)
 | (with_reducible apply k_c)
          · rw [decide_eq_true (hE2.2 (by assumption))]; exact fin _ _ rfl
          · rw [decide_eq_false (fun h => absurd (hE2.1 h) (by assumption))]; exact fin _ _ rfl
        · rw [decide_eq_false (fun h => hr1 (hdone.2 (hE.1 h).2.1))]
          repeat' first
 | (apply c_nil)
 | ((first | apply s_lss | apply s_leq | apply s_gtr | apply s_geq | apply s_eql | apply s_neq); exact rfl; all_goals (intro _; try (exfalso; omega)))
 | (apply c_seq)
 | (apply c_reg)
 | (apply c_exitH)
 | (apply c_condF; exact rfl)
 | (with_reducible apply k_c)
          try apply k_c
          apply c_pre
          · exact gcZ _
          repeat' first
 | (apply s_mov; (focus ((conv => lhs; whnf); done)))
 | (apply s_gF; exact rfl)
 | (apply s_gFD; exact rfl)
 | (apply c_nil)
 | (apply s_pickF; exact rfl; (focus ((conv => lhs; whnf); done)))
 | ((first | apply s_lss | apply s_leq | apply s_gtr | apply s_geq | apply s_eql | apply s_neq); exact rfl; all_goals (intro _; try (exfalso; omega)))
 | (apply c_seq)
 | (apply c_reg)
 | (apply c_ret)
 | (with_reducible apply k_c)
          exact fin _ _ rfl
    · have hE : ¬ EOk p w f B := by
        rintro (⟨h, _⟩ | ⟨_, h3, h4, h5, h6, h7, _⟩)
        · exact hp2 h
        · exact hc ⟨h3, h4, h5, h6, h7⟩
      rw [decide_eq_false hE]
      repeat' first
 | (apply s_mov; (focus ((conv => lhs; whnf); done)))
 | (apply s_gT; exact rfl)
 | (apply s_gF; exact rfl)
 | (apply s_gFD; exact rfl)
 | (apply c_nil)
 | (apply s_pickT; exact rfl; (focus ((conv => lhs; whnf); done)))
 | (apply s_pickF; exact rfl; (focus ((conv => lhs; whnf); done)))
 | (apply s_notT; exact rfl)
 | (apply s_notF; exact rfl)
 | ((first | apply s_lss | apply s_leq | apply s_gtr | apply s_geq | apply s_eql | apply s_neq); exact rfl; all_goals (intro _; try (exfalso; omega)))
 | (apply s_en; (focus (repeat (first | apply opds_nil | (apply opds_cons; (first | (focus ((conv => lhs; whnf); done)) | exact rfl))))); exact ob)
 | (apply s_pn; (focus (repeat (first | apply opds_nil | (apply opds_cons; (first | (focus ((conv => lhs; whnf); done)) | exact rfl))))); exact l0)
 | (apply s_pn; (focus (repeat (first | apply opds_nil | (apply opds_cons; (first | (focus ((conv => lhs; whnf); done)) | exact rfl))))); exact l1)
 | (apply s_pn; (focus (repeat (first | apply opds_nil | (apply opds_cons; (first | (focus ((conv => lhs; whnf); done)) | exact rfl))))); exact l2)
 | (apply s_pn; (focus (repeat (first | apply opds_nil | (apply opds_cons; (first | (focus ((conv => lhs; whnf); done)) | exact rfl))))); exact d0 _)
 | (apply s_pn; (focus (repeat (first | apply opds_nil | (apply opds_cons; (first | (focus ((conv => lhs; whnf); done)) | exact rfl))))); exact d1 _)
 | (apply s_pn; (focus (repeat (first | apply opds_nil | (apply opds_cons; (first | (focus ((conv => lhs; whnf); done)) | exact rfl))))); exact d2 _)
 | (apply s_pn; (focus (repeat (first | apply opds_nil | (apply opds_cons; (first | (focus ((conv => lhs; whnf); done)) | exact rfl))))); exact lf _)
 | (apply isE; refine s_cB (by (focus (repeat (first | apply opds_nil | (apply opds_cons; (first | (focus ((conv => lhs; whnf); done)) | exact rfl)))))) (h41 _ _) (fun _ => ?_) (fun _ => ?_))
 | (apply s_rem (b := 2); exact rfl; omega)
 | (apply s_pd; (focus ((conv => lhs; whnf); done)))
 | (apply c_seq)
 | (apply c_reg)
 | (apply c_block)
 | (apply c_skip)
 | (apply c_ret)
 | (apply c_condT; exact rfl)
 | (apply c_condF; exact rfl)
 | (with_reducible apply k_c)
      all_goals first | exact fin _ _ rfl | exact absurd ⟨by omega, by omega, by assumption, by omega, by omega⟩ hc
end Go.AM.Pr

set_option linter.unusedSectionVars false
set_option linter.unusedVariables false
set_option linter.unusedSimpArgs false
namespace Go.AM.Pr
attribute [local go_sem] gc subHeap reach_skip ren_free reach_new reach_newp reach_end rangeL roots boxCells nodupB posOf renL AV.ren pickO renH renO looks look bindEnv envOf reach_int reach_bool reach_nilS reach_rd putRow cells_sl cells_int cells_bool cells_nilS cells_rd cells_agg reach_agg reach_tup idFreeL idf_sl idf_ptr idf_int idf_bool idf_nilS idf_rd reach_fn reach_mp cells_fn cells_ptr cells_mp idf_mp idf_fn idf_agg idf_tup
open Go.AM.Num
set_option maxHeartbeats 4000000
/-- the numbers of the entries before one -/
def Bk (l : List En) (k : Nat) : List Int := (l.take k).map (·.p)
theorem Bk_succ {l : List En} {k : Nat} (h : k < l.length) : Bk l (k + 1) = Bk l k ++ [(ge l k).p] := by
  unfold Bk
  rw [ge_lt h, ← List.take_append_getElem h, List.map_append]
  rfl
def EntOk (l : List En) (i : Nat) : Prop := EOk (ge l i).p (ge l i).w (ge l i).f (Bk l i) ∧ (0 < i → (ge l (i - 1)).p < (ge l i).p)
/-- a right proof -/
def GP (l : List En) (n : Int) : Prop := 0 < l.length ∧ (ge l (l.length - 1)).p = n ∧ ∀ i, i < l.length → EntOk l i
noncomputable instance (l : List En) (n : Int) : Decidable (GP l n) := Classical.propDecidable _
theorem Bk_pr {l : List En} : ∀ {k : Nat}, k ≤ l.length → (∀ i, i < k → EntOk l i) → AllPr (Bk l k)
  | 0, _, _ => fun x hx => by simp [Bk] at hx
  | k + 1, hk, h => fun x hx => by
    have ih := Bk_pr (k := k) (by omega) fun i hi => h i (by omega)
    rw [Bk_succ (by omega)] at hx
    rcases List.mem_append.1 hx with hx | hx
    · exact ih x hx
    · simp only [List.mem_singleton] at hx
      subst hx
      exact (h k (by omega)).1.prime ih
def mBr (l : List En) : Nat → List (Int × AV)
  | 0 => []
  | k + 1 => putL (ge l k).p (.bool true) (mBr l k)
theorem mBr_map {l : List En} : ∀ {k : Nat}, k ≤ l.length → MapB (mBr l k) (Bk l k)
  | 0, _ => fun q => by simp [mBr, findL, Bk]
  | k + 1, hk => fun q => by
    have ih := mBr_map (l := l) (k := k) (by omega)
    simp only [mBr]
    rw [findL_put, Bk_succ (by omega), ih q]
    by_cases h : q = (ge l k).p
    · simp [h]
    · simp [h]
def lastP (l : List En) : Nat → Int
  | 0 => 0
  | k + 1 => (ge l k).p
theorem f61 {n : Int} {v : AV} {l : List En} (hn : 1 ≤ n) (hv : IsP v l) (hl : l.length ≤ 1000) (hfl : ∀ e ∈ l, e.f.length ≤ 1000) {m : Nat} (hm : 4000 ≤ m) :
    evF tab it m 61 [.int .i64 n, v] [] = some (.bool (decide (GP l n)), []) := by
  obtain ⟨m, rfl⟩ : ∃ j, m = j + 1 := ⟨m - 1, by omega⟩
  have fv := hv.free
  have hg := hv.1
  have h73 := fun {p w : Int} {fv : AV} {f B : List Int} {l : List (Int × AV)} (hB : MapB l B) (hpr : AllPr B) (hf : IsL fv f) (hlen : f.length ≤ 1000) => f73 (p := p) (w := w) hB hpr hf hlen (m := m) (by omega)
  have le := fun H => p_lenE (H := H) hv
  have ie := fun H i h => p_idxE (H := H) hv (i := i) h
  refine f_enter rfl rfl ?_
  have hm3 : 2000 ≤ m := by omega
  generalize evF tab it m = call at *
  repeat' first
 | (apply s_mov; (focus ((conv => lhs; whnf); done)))
 | (apply c_nil)
 | (apply s_en; (focus (repeat (first | apply opds_nil | (apply opds_cons; (first | (focus ((conv => lhs; whnf); done)) | exact rfl))))); exact e_mkM0)
 | (apply s_pn; (focus (repeat (first | apply opds_nil | (apply opds_cons; (first | (focus ((conv => lhs; whnf); done)) | exact rfl))))); exact le _)
 | (apply c_seq)
 | (apply c_reg)
 | (apply c_block)
 | (with_reducible apply k_c)
  refine c_loop ?_
  refine loop_gc (σ := Nat) (fun i => [.int .i64 n, .mp 0, .int .i64 (lastP l i), v, .int .i64 (l.length : Int), .int .i64 (i : Int)]) (fun i => [some (.map (mE (mBr l i)))]) (fun i => i ≤ l.length ∧ ∀ j, j < i → EntOk l j) (fun i => l.length - i) ?_ _ 0 _ _ ⟨by omega, by omega⟩ (by omega) (by simp [go_sem, fv, lastP, mBr])
  intro i ⟨hi, hok⟩ K hK
  by_cases hil : i < l.length
  · have i1 := ie [some (.map (mE (mBr l i)))] i hil
    have i2 := p_ldE (H := [some (.map (mE (mBr l i)))]) hil
    have hmem := ge_mem hil
    have hfe := hg _ hmem
    have hfl' := hfl _ hmem
    have hpr := Bk_pr hi hok
    have e73 := h73 (p := (ge l i).p) (w := (ge l i).w) (mBr_map hi) hpr hfe hfl'
    have ff := hfe.free
    have fo := hfe.one
    have o1 : ∀ x : Int, (AV.int .i64 x).one = true := fun _ => rfl
    have hput : mBr l (i + 1) = putL (ge l i).p (.bool true) (mBr l i) := rfl
    have hlast : lastP l (i + 1) = (ge l i).p := rfl
    have hasc : (lastP l i < (ge l i).p) → (0 < i → (ge l (i - 1)).p < (ge l i).p) := fun h h0 => by
      obtain ⟨j, rfl⟩ : ∃ j, i = j + 1 := ⟨i - 1, by omega⟩
      exact h
    have hasc' : EntOk l i → lastP l i < (ge l i).p := fun h => by
      cases i with
      | zero =>
        have := (h.1.prime hpr).1
        show (0 : Int) < _
        omega
      | succ j => exact h.2 (by omega)
    have hEnt : EntOk l i ↔ EOk (ge l i).p (ge l i).w (ge l i).f (Bk l i) ∧ lastP l i < (ge l i).p := ⟨fun h => ⟨h.1, hasc' h⟩, fun h => ⟨h.1, hasc h.2⟩⟩
    have gcK : ∀ a b c d : Int, ∀ x : AV, gc 0 [.int .i64 a, .mp 0, .int .i64 b, v, .int .i64 c, .int .i64 d] [some (.map (mE (mBr l (i + 1)))), some (.box [.int .i64 (ge l i).p, .int .i64 (ge l i).w, x])] = some ([.int .i64 a, .mp 0, .int .i64 b, v, .int .i64 c, .int .i64 d], [some (.map (mE (mBr l (i + 1))))]) := fun a b c d x => by
      simp [go_sem, fv]
    generalize ge l i = e at *
    obtain ⟨ep, ew, efv, ef⟩ := e
    simp only at *
    have al : evE call [some (.map (mE (mBr l i)))] (.alloc false [.int .i64 0, .int .i64 0, .nilS]) [] = some (.ptr 1 0, [some (.map (mE (mBr l i))), some (.box [.int .i64 0, .int .i64 0, .nilS])]) := rfl
    have st : evE call [some (.map (mE (mBr l i))), some (.box [.int .i64 0, .int .i64 0, .nilS])] (.st 3) [.ptr 1 0, .agg [.int .i64 ep, .int .i64 ew, efv]] = some (.undef, [some (.map (mE (mBr l i))), some (.box [.int .i64 ep, .int .i64 ew, efv])]) := by
      simp [evE, stAt, cells_agg, oneL, o1, fo, putRow]
    have d0 : ∀ H, evP H (.fldA 0) [.ptr 1 0] = some (.ptr 1 0) := fun _ => rfl
    have l0 : ∀ es, evP [some (.map es), some (.box [.int .i64 ep, .int .i64 ew, efv])] (.ld false 1) [.ptr 1 0] = some (.int .i64 ep) := fun _ => rfl
    have l3 : ∀ es, evP [some (.map es), some (.box [.int .i64 ep, .int .i64 ew, efv])] (.ld true 3) [.ptr 1 0] = some (.agg [.int .i64 ep, .int .i64 ew, efv]) := fun _ => rfl
    have mt : callMut call 73 [.agg [.int .i64 ep, .int .i64 ew, efv], .mp 0] [some (.map (mE (mBr l i))), some (.box [.int .i64 ep, .int .i64 ew, efv])] = some (.bool (decide (EOk ep ew ef (Bk l i))), [some (.map (mE (mBr l i))), some (.box [.int .i64 ep, .int .i64 ew, efv])]) := by
      simp [callMut, subHeap, backOf, writeBack, e73, go_sem, ff, renL, AV.ren]
    have up : evE call [some (.map (mE (mBr l i))), some (.box [.int .i64 ep, .int .i64 ew, efv])] (.upM [some .i64]) [.mp 0, .int .i64 ep, .bool true] = some (.undef, [some (.map (mE (mBr l (i + 1)))), some (.box [.int .i64 ep, .int .i64 ew, efv])]) := by
      rw [e_upM (l := mBr l i) rfl rfl, hput]; rfl
    by_cases hE : EOk ep ew ef (Bk l i)
    · simp only [hE, decide_true, true_and] at mt hEnt
      by_cases ha : lastP l i < ep
      · have hok' : ∀ j, j < i + 1 → EntOk l j := fun j hj => by
          rcases (by omega : j < i ∨ j = i) with h | rfl
          · exact hok j h
          · exact hEnt.2 ha
        generalize lastP l i = la at *
        repeat' first
 | (apply s_mov; (focus ((conv => lhs; whnf); done)))
 | (apply s_gT; exact rfl)
 | (apply c_nil)
 | (apply s_pickF; exact rfl; (focus ((conv => lhs; whnf); done)))
 | (apply s_notT; exact rfl)
 | ((first | apply s_lss | apply s_leq | apply s_gtr | apply s_geq | apply s_eql | apply s_neq); exact rfl; all_goals (intro _; try (exfalso; omega)))
 | ((first | apply s_add | apply s_sub); exact rfl; omega)
 | (apply s_pn; (focus (repeat (first | apply opds_nil | (apply opds_cons; (first | (focus ((conv => lhs; whnf); done)) | exact rfl))))); exact i1)
 | (apply s_pn; (focus (repeat (first | apply opds_nil | (apply opds_cons; (first | (focus ((conv => lhs; whnf); done)) | exact rfl))))); exact i2)
 | (apply s_en; (focus (repeat (first | apply opds_nil | (apply opds_cons; (first | (focus ((conv => lhs; whnf); done)) | exact rfl))))); exact al)
 | (apply s_st; (focus (repeat (first | apply opds_nil | (apply opds_cons; (first | (focus ((conv => lhs; whnf); done)) | exact rfl))))); exact st)
 | (apply s_pn; (focus (repeat (first | apply opds_nil | (apply opds_cons; (first | (focus ((conv => lhs; whnf); done)) | exact rfl))))); exact d0 _)
 | (apply s_pn; (focus (repeat (first | apply opds_nil | (apply opds_cons; (first | (focus ((conv => lhs; whnf); done)) | exact rfl))))); exact l0 _)
 | (apply s_pn; (focus (repeat (first | apply opds_nil | (apply opds_cons; (first | (focus ((conv => lhs; whnf); done)) | exact rfl))))); exact l3 _)
 | (apply s_en; (focus (repeat (first | apply opds_nil | (apply opds_cons; (first | (focus ((conv => lhs; whnf); done)) | exact rfl))))); exact mt)
 | (apply s_st; (focus (repeat (first | apply opds_nil | (apply opds_cons; (first | (focus ((conv => lhs; whnf); done)) | exact rfl))))); exact up)
 | (apply c_seq)
 | (apply c_reg)
 | (apply c_block)
 | (apply c_skip)
 | (apply c_condT; exact rfl)
 | (apply c_condF; exact rfl)
 | (with_reducible apply k_c)
        rw [← hlast]
        exact hK (i + 1) _ _ ⟨by omega, hok'⟩ (by omega) (by rw [hlast]; exact gcK _ _ _ _ _)
      · rw [decide_eq_false (fun h : GP l n => ha (hEnt.1 (h.2.2 i hil)))]
        generalize lastP l i = la at *
        repeat' first
 | (apply s_mov; (focus ((conv => lhs; whnf); done)))
 | (apply s_gF; exact rfl)
 | (apply s_gFD; exact rfl)
 | (apply c_nil)
 | (apply s_pickT; exact rfl; (focus ((conv => lhs; whnf); done)))
 | ((first | apply s_lss | apply s_leq | apply s_gtr | apply s_geq | apply s_eql | apply s_neq); exact rfl; all_goals (intro _; try (exfalso; omega)))
 | (apply s_pn; (focus (repeat (first | apply opds_nil | (apply opds_cons; (first | (focus ((conv => lhs; whnf); done)) | exact rfl))))); exact i1)
 | (apply s_pn; (focus (repeat (first | apply opds_nil | (apply opds_cons; (first | (focus ((conv => lhs; whnf); done)) | exact rfl))))); exact i2)
 | (apply s_en; (focus (repeat (first | apply opds_nil | (apply opds_cons; (first | (focus ((conv => lhs; whnf); done)) | exact rfl))))); exact al)
 | (apply s_st; (focus (repeat (first | apply opds_nil | (apply opds_cons; (first | (focus ((conv => lhs; whnf); done)) | exact rfl))))); exact st)
 | (apply s_pn; (focus (repeat (first | apply opds_nil | (apply opds_cons; (first | (focus ((conv => lhs; whnf); done)) | exact rfl))))); exact d0 _)
 | (apply s_pn; (focus (repeat (first | apply opds_nil | (apply opds_cons; (first | (focus ((conv => lhs; whnf); done)) | exact rfl))))); exact l0 _)
 | (apply c_seq)
 | (apply c_reg)
 | (apply c_block)
 | (apply c_skip)
 | (apply c_ret)
 | (apply c_condT; exact rfl)
 | (with_reducible apply k_c)
        exact fin_t (by (conv => lhs; whnf)) (by rfl) rfl
    · simp only [hE, decide_false, false_and] at mt hEnt
      rw [decide_eq_false (fun h : GP l n => hEnt.1 (h.2.2 i hil))]
      generalize lastP l i = la at *
      repeat' first
 | (apply s_mov; (focus ((conv => lhs; whnf); done)))
 | (apply s_gT; exact rfl)
 | (apply s_gF; exact rfl)
 | (apply s_gFD; exact rfl)
 | (apply c_nil)
 | (apply s_pickT; exact rfl; (focus ((conv => lhs; whnf); done)))
 | (apply s_pickF; exact rfl; (focus ((conv => lhs; whnf); done)))
 | (apply s_notF; exact rfl)
 | ((first | apply s_lss | apply s_leq | apply s_gtr | apply s_geq | apply s_eql | apply s_neq); exact rfl; all_goals (intro _; try (exfalso; omega)))
 | (apply s_pn; (focus (repeat (first | apply opds_nil | (apply opds_cons; (first | (focus ((conv => lhs; whnf); done)) | exact rfl))))); exact i1)
 | (apply s_pn; (focus (repeat (first | apply opds_nil | (apply opds_cons; (first | (focus ((conv => lhs; whnf); done)) | exact rfl))))); exact i2)
 | (apply s_en; (focus (repeat (first | apply opds_nil | (apply opds_cons; (first | (focus ((conv => lhs; whnf); done)) | exact rfl))))); exact al)
 | (apply s_st; (focus (repeat (first | apply opds_nil | (apply opds_cons; (first | (focus ((conv => lhs; whnf); done)) | exact rfl))))); exact st)
 | (apply s_pn; (focus (repeat (first | apply opds_nil | (apply opds_cons; (first | (focus ((conv => lhs; whnf); done)) | exact rfl))))); exact d0 _)
 | (apply s_pn; (focus (repeat (first | apply opds_nil | (apply opds_cons; (first | (focus ((conv => lhs; whnf); done)) | exact rfl))))); exact l0 _)
 | (apply s_pn; (focus (repeat (first | apply opds_nil | (apply opds_cons; (first | (focus ((conv => lhs; whnf); done)) | exact rfl))))); exact l3 _)
 | (apply s_en; (focus (repeat (first | apply opds_nil | (apply opds_cons; (first | (focus ((conv => lhs; whnf); done)) | exact rfl))))); exact mt)
 | (apply c_seq)
 | (apply c_reg)
 | (apply c_block)
 | (apply c_skip)
 | (apply c_ret)
 | (apply c_condT; exact rfl)
 | (with_reducible apply k_c)
      all_goals exact fin_t (by (conv => lhs; whnf)) (by rfl) rfl
  · obtain rfl : l.length = i := by omega
    have hfin : GP l n ↔ lastP l l.length = n := by
      cases hll : l.length with
      | zero =>
        unfold GP
        rw [hll]
        constructor
        · rintro ⟨h, _⟩; omega
        · intro h
          have : (0 : Int) = n := h
          omega
      | succ k =>
        unfold GP
        rw [hll]
        exact ⟨fun h => h.2.1, fun h => ⟨by omega, h, fun j hj => hok j (by omega)⟩⟩
    repeat' first
 | (apply s_mov; (focus ((conv => lhs; whnf); done)))
 | (apply c_nil)
 | ((first | apply s_lss | apply s_leq | apply s_gtr | apply s_geq | apply s_eql | apply s_neq); exact rfl; all_goals (intro _; try (exfalso; omega)))
 | (apply c_seq)
 | (apply c_reg)
 | (apply c_exitH)
 | (apply c_ret)
 | (apply c_condF; exact rfl)
 | (apply c_preF; (focus (repeat (first | apply looks_nil | (apply looks_cons; (focus ((conv => lhs; whnf); done)))))); (focus (simp [idFreeL, AV.idFree, *]; done)))
 | (with_reducible apply k_c)
    · exact fin_t (by (conv => lhs; whnf)) (by rfl) (leafT (hfin.2 (by assumption)))
    · exact fin_t (by (conv => lhs; whnf)) (by rfl) (leafF (fun h => absurd (hfin.1 h) (by assumption)))
theorem c61 {n : Int} {v : AV} {l : List En} (hn : 1 ≤ n) (hv : IsP v l) (hl : l.length ≤ 1000) (hfl : ∀ e ∈ l, e.f.length ≤ 1000) {m : Nat} (hm : 4000 ≤ m) (H : Heap) :
    callPure (evF tab it m) true 61 [.int .i64 n, v] H = some (.bool (decide (GP l n)), H) :=
  callPure_free (by simp [idFreeL, AV.idFree, hv.free]) (by simp) (f61 hn hv hl hfl hm) rfl
end Go.AM.Pr
