/- A part of the proof: S24. -/
import Derived.Test.YtbjkmejlecoebaaS23
set_option linter.unusedSectionVars false
set_option linter.unusedVariables false
set_option linter.unusedSimpArgs false
namespace Go.AM.Pr
attribute [local go_sem] gc subHeap reach_skip ren_free reach_new reach_newp reach_end rangeL roots boxCells nodupB posOf renL AV.ren pickO renH renO looks look bindEnv envOf reach_int reach_bool reach_nilS reach_rd putRow cells_sl cells_int cells_bool cells_nilS cells_rd cells_agg reach_agg reach_tup idFreeL idf_sl idf_ptr idf_int idf_bool idf_nilS idf_rd reach_fn reach_mp cells_fn cells_ptr cells_mp idf_mp idf_fn idf_agg idf_tup
open Go.AM.Num
/-- the reference's order modulo a prime -/
noncomputable def ordP (a p : Nat) : Nat := ordF a p (p - 1) (facOf (p - 1))
theorem fac_pm {p : Nat} (hp : IsPr p) : Fac (facOf (p - 1)) (p - 1) := facOf_fac (by have := hp.1; omega)
theorem ordP_spec {a p : Nat} (hp : IsPr p) (h1 : 1 ≤ a) (h2 : a < p) : Pow1 a p (ordP a p) ∧ 1 ≤ ordP a p ∧ ordP a p ∣ p - 1 ∧ ∀ q, IsPr q → q ∣ ordP a p → ¬ Pow1 a p (ordP a p / q) := ord_done (fac_pm hp) (fermat1 hp h1 h2)
theorem pr_div {n N : Nat} (hd : n ∣ N) (hN : 1 ≤ N) (hne : n ≠ N) : ∃ q, IsPr q ∧ q ∣ N ∧ n ∣ N / q := by
  obtain ⟨c, rfl⟩ := hd
  have hc : 1 < c := by
    rcases (by omega : c = 0 ∨ c = 1 ∨ 1 < c) with rfl | rfl | h
    · simp at hN
    · simp at hne
    · exact h
  obtain ⟨q, hq, d, rfl⟩ := pr_ex hc
  refine ⟨q, hq, ⟨n * d, by simp only [Nat.mul_comm, Nat.mul_left_comm, Nat.mul_assoc]⟩, ?_⟩
  have : n * (q * d) = q * (n * d) := by simp only [Nat.mul_comm, Nat.mul_left_comm, Nat.mul_assoc]
  rw [this, Nat.mul_div_cancel_left _ (by have := hq.1; omega)]
  exact ⟨d, rfl⟩
/-- the whole order is the witness' -/
theorem ordP_wit {a p : Nat} (hp : IsPr p) (h1 : 1 ≤ a) (h2 : a < p) : ordP a p = p - 1 ↔ Wit a p (ps (facOf (p - 1))) := by
  have hp2 := hp.1
  have hL := fac_pm hp
  have h1p : 1 % p = 1 := Nat.mod_eq_of_lt hp2
  obtain ⟨o1, o2, o3, o4⟩ := ordP_spec hp h1 h2
  rw [wit_iff]
  constructor
  · intro h
    rw [h] at o1 o4
    refine ⟨by unfold Pow1 at o1; omega, fun x hx hh => ?_⟩
    have hxx := hL.all x hx
    exact o4 x.1 hxx.1 (by rw [← hL.prod]; exact Nat.dvd_trans (Nat.dvd_of_pow_dvd hxx.2 (Nat.dvd_refl _)) (mem_dvd_prod hx)) (by unfold Pow1; omega)
  · rintro ⟨_, h⟩
    refine Classical.byContradiction fun hne => ?_
    obtain ⟨q, hq, hd, hdv⟩ := pr_div o3 (by omega) hne
    obtain ⟨e, he⟩ := pr_dvd_prod hq hL.all (by rw [hL.prod]; exact hd)
    refine h (q, e) he ?_
    have := o1.dvd hdv
    unfold Pow1 at this
    simp only
    omega
theorem least_wit {p : Nat} (hp : IsPr p) : ∃ G, 1 ≤ G ∧ G < p ∧ Wit G p (ps (facOf (p - 1))) ∧ ∀ k, 1 ≤ k → k < G → ¬ Wit k p (ps (facOf (p - 1))) := by
  obtain ⟨g, g1, g2, g3⟩ := gen_ex hp (fac_pm hp)
  have hw : Wit g p (ps (facOf (p - 1))) := by
    rw [wit_iff]
    have h1p : 1 % p = 1 := Nat.mod_eq_of_lt hp.1
    have := fermat1 hp g1 g2
    unfold Pow1 at this
    refine ⟨by omega, fun x hx hh => g3 x hx (by unfold Pow1; omega)⟩
  have key : ∀ n, ∀ g, g = n → 1 ≤ g → g < p → Wit g p (ps (facOf (p - 1))) → ∃ G, 1 ≤ G ∧ G < p ∧ Wit G p (ps (facOf (p - 1))) ∧ ∀ k, 1 ≤ k → k < G → ¬ Wit k p (ps (facOf (p - 1))) := by
    intro n
    induction n using Nat.strongRecOn with
    | _ n ih =>
      intro g e h1 h2 h3
      by_cases h : ∃ k, 1 ≤ k ∧ k < g ∧ Wit k p (ps (facOf (p - 1)))
      · obtain ⟨k, k1, k2, k3⟩ := h
        exact ih k (by omega) k rfl k1 (by omega) k3
      · exact ⟨g, h1, h2, h3, fun k k1 k2 k3 => h ⟨k, k1, k2, k3⟩⟩
  exact key g g rfl g1 g2 hw
def cellV (sz : Nat) : Nat → AV
  | 0 => .nilS
  | n + 1 => .sl 1 sz 0 (n + 1)
theorem own60 {call : CallF} {L : List (Nat × Nat)} {w p : Int} {b : Bool} (h : call 60 [.int .i64 w, .int .i64 p, fzL (ps L)] [] = some (.bool b, [])) :
    callPure call true 60 [.int .i64 w, .int .i64 p, cellV 1 L.length] (cellH 1 L.length (iL (ps L))) = some (.bool b, cellH 1 L.length (iL (ps L))) := by
  have e : frzV (cellH 1 L.length (iL (ps L))) 37 (cellV 1 L.length) = some (fzL (ps L)) := by
    rcases L with _ | ⟨x, L⟩
    · simp [cellV, frzV, fzL, ps]
    · have : (ps (x :: L)).length = L.length + 1 := by rw [ps_len]; rfl
      have e2 : fzL (ps (x :: L)) = .rd 1 (L.length + 1) (iL (ps (x :: L))) := by
        cases hps : ps (x :: L) with
        | nil => rw [hps] at this; simp at this
        | cons a r => rw [hps] at this; simp at this; simp [fzL, this]
      rw [e2]
      have h3 : (iL (ps (x :: L))).length = L.length + 1 := by rw [iL_len, this]
      generalize iL (ps (x :: L)) = C at *
      simp [cellH, cellV, frzV, Heap.data?, List.take_of_length_le, h3]
  have e1 : frzL (cellH 1 L.length (iL (ps L))) 40 [.int .i64 w, .int .i64 p, cellV 1 L.length] = some [.int .i64 w, .int .i64 p, fzL (ps L)] := by
    simp only [frzL_cons, frzL_nil, frzV_int, e, Option.bind_some, Option.map_some]
  simp [callPure, e1, h, frzV_bool, AV.hasRd]
theorem p_ldCell {L : Nat} {C : List AV} : evP (cellH 1 L C) (.ld false 1) [.ptr 0 0] = some (cellV 1 L) := by
  cases L <;> exact p_ldBox rfl
theorem gcG {n p g : Int} {L : Nat} {C : List AV} : gc 0 [.int .i64 p, .ptr 0 0, .int .i64 g] (cellH 1 L C) = some ([.int .i64 p, .ptr 0 0, .int .i64 g], cellH 1 L C) := by
  cases L <;> simp [cellH, go_sem]
theorem f32 {p : Nat} (hp : IsPr p) (hp2 : p ≤ 2147483647) {G : Nat} (hG : 1 ≤ G ∧ G < p ∧ Wit G p (ps (facOf (p - 1))) ∧ ∀ k, 1 ≤ k → k < G → ¬ Wit k p (ps (facOf (p - 1)))) {m : Nat} (hm : 46500 + p ≤ m) :
    evF tab it m 32 [.int .i64 (p : Int)] [] = some (.tup [.int .i64 (G : Int), .int .i64 0], []) := by
  obtain ⟨m, rfl⟩ : ∃ j, m = j + 1 := ⟨m - 1, by omega⟩
  obtain ⟨m', rfl⟩ : ∃ j, m = j + 1 := ⟨m - 1, by omega⟩
  have hpp := hp.1
  have hL := fac_pm hp
  have hl30 := fac_len31 hL (by omega)
  obtain ⟨G1, G2, G3, G4⟩ := hG
  have hc := mut58 (f58 (by omega) (by omega) hL (clo59 hl30 (m := m') (by omega)) (by omega))
  have hpos := ps_pos hL.toFacR
  have hpl := ps_len (facOf (p - 1))
  have h60 := fun {w : Nat} (hw : w < p) => own60 (f60 (w := w) (p := p) (isL_fz (ps (facOf (p - 1)))) (by omega) hp2 hw hpos (by omega) (m := m' + 1) (by omega))
  have h44 := fun H => c44 (m := m' + 1) (by omega) (p : Int) H
  have hPN : IsPN (p : Int) := ⟨⟨by omega, by omega⟩, by simpa using hp⟩
  simp only [hPN, decide_true] at h44
  refine f_enter rfl rfl ?_
  generalize evF tab it (m' + 1) = call at *
  generalize facOf (p - 1) = L at *
  repeat' first
 | (apply s_mov; (focus ((conv => lhs; whnf); done)))
 | (apply c_nil)
 | (apply s_notT; exact rfl)
 | (apply s_cn; (focus (repeat (first | apply opds_nil | (apply opds_cons; (first | (focus ((conv => lhs; whnf); done)) | exact rfl))))); exact h44 _)
 | (apply s_en; (focus (repeat (first | apply opds_nil | (apply opds_cons; (first | (focus ((conv => lhs; whnf); done)) | exact rfl))))); exact e_alB0)
 | (apply s_subN (b := 1); exact rfl; omega; omega)
 | (apply s_en; (focus (repeat (first | apply opds_nil | (apply opds_cons; (first | (focus ((conv => lhs; whnf); done)) | exact rfl))))); exact hc)
 | (apply s_pn; (focus (repeat (first | apply opds_nil | (apply opds_cons; (first | (focus ((conv => lhs; whnf); done)) | exact rfl))))); exact p_mkfn)
 | (apply c_seq)
 | (apply c_reg)
 | (apply c_block)
 | (apply c_skip)
 | (apply c_condF; exact rfl)
 | (with_reducible apply k_c)
  refine c_loop ?_
  refine loop_gc (σ := Nat) (fun g => [.int .i64 (p : Int), .ptr 0 0, .int .i64 (g : Int)]) (fun _ => cellH 1 L.length (iL (ps L))) (fun g => 1 ≤ g ∧ g ≤ G ∧ ∀ k, 1 ≤ k → k < g → ¬ Wit k p (ps L)) (fun g => G - g) ?_ _ 1 _ _ ⟨by omega, by omega, fun k h1 h2 => by omega⟩ (by omega) (gcG (n := 0))
  intro g ⟨g1, g2, g3⟩ K hK
  have e60 := h60 (w := g) (by omega)
  by_cases hw : Wit g p (ps L)
  · have hgG : g = G := by
      rcases (by omega : g = G ∨ g < G) with h | h
      · exact h
      · exact absurd hw (G4 g g1 h)
    simp only [hw, decide_true] at e60
    repeat' first
 | (apply s_mov; (focus ((conv => lhs; whnf); done)))
 | (apply c_nil)
 | (apply s_notT; exact rfl)
 | (apply s_pn; (focus (repeat (first | apply opds_nil | (apply opds_cons; (first | (focus ((conv => lhs; whnf); done)) | exact rfl))))); exact p_ldCell)
 | (apply s_cn; (focus (repeat (first | apply opds_nil | (apply opds_cons; (first | (focus ((conv => lhs; whnf); done)) | exact rfl))))); exact e60)
 | (apply c_seq)
 | (apply c_reg)
 | (apply c_exitH)
 | (apply c_ret)
 | (apply c_condF; exact rfl)
 | (apply c_preF; (focus (repeat (first | apply looks_nil | (apply looks_cons; (focus ((conv => lhs; whnf); done)))))); (focus (simp [idFreeL, AV.idFree, *]; done)))
 | (with_reducible apply k_c)
    exact fin_tt (by (conv => lhs; whnf)) (by (conv => lhs; whnf)) (by rfl) (by rfl) (by rw [hgG])
  · have hgG : g < G := by
      rcases (by omega : g = G ∨ g < G) with rfl | h
      · exact absurd G3 hw
      · exact h
    simp only [hw, decide_false] at e60
    repeat' first
 | (apply s_mov; (focus ((conv => lhs; whnf); done)))
 | (apply c_nil)
 | (apply s_notF; exact rfl)
 | ((first | apply s_add | apply s_sub); exact rfl; omega)
 | (apply s_pn; (focus (repeat (first | apply opds_nil | (apply opds_cons; (first | (focus ((conv => lhs; whnf); done)) | exact rfl))))); exact p_ldCell)
 | (apply s_cn; (focus (repeat (first | apply opds_nil | (apply opds_cons; (first | (focus ((conv => lhs; whnf); done)) | exact rfl))))); exact e60)
 | (apply c_seq)
 | (apply c_reg)
 | (apply c_block)
 | (apply c_skip)
 | (apply c_condT; exact rfl)
 | (with_reducible apply k_c)
    refine hK (g + 1) _ _ ⟨by omega, by omega, fun k h1 h2 => ?_⟩ (by omega) (gcG (n := 0))
    rcases (by omega : k < g ∨ k = g) with h | rfl
    · exact g3 k h1 h
    · exact hw
theorem f32e {p : Int} (hp : ¬ IsPN p) {m : Nat} (hm : 46500 ≤ m) : evF tab it m 32 [.int .i64 p] [] = some (.tup [.int .i64 0, .int .i64 2], []) := by
  obtain ⟨m, rfl⟩ : ∃ j, m = j + 1 := ⟨m - 1, by omega⟩
  have h44 := fun H => c44 (m := m) (by omega) p H
  simp only [hp, decide_false] at h44
  refine f_enter rfl rfl ?_
  generalize evF tab it m = call at *
  repeat' first
 | (apply s_mov; (focus ((conv => lhs; whnf); done)))
 | (apply c_nil)
 | (apply s_notF; exact rfl)
 | (apply s_cn; (focus (repeat (first | apply opds_nil | (apply opds_cons; (first | (focus ((conv => lhs; whnf); done)) | exact rfl))))); exact h44 _)
 | (apply c_seq)
 | (apply c_reg)
 | (apply c_ret)
 | (apply c_condT; exact rfl)
 | (with_reducible apply k_c)
  exact fin_tt (by (conv => lhs; whnf)) (by (conv => lhs; whnf)) (by rfl) (by rfl) rfl
end Go.AM.Pr
