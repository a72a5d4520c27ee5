/- A part of the proof: S49. -/
import Derived.Test.YtbjkmejlecoebaaS48
set_option linter.unusedSectionVars false
set_option linter.unusedVariables false
set_option linter.unusedSimpArgs false
namespace Go.AM.Pr
open Go.AM.Num
set_option maxHeartbeats 4000000
theorem GP_pr {l : List En} {n : Int} (h : GP l n) : IsPr n.toNat := by
  obtain ⟨h1, h2, h3⟩ := h
  have := Bk_pr (Nat.le_refl _) h3
  refine (this n ?_).2
  unfold Bk
  rw [List.take_of_length_le (Nat.le_refl _), ← h2, ge_lt (by omega)]
  exact List.mem_map.2 ⟨_, List.getElem_mem (by omega), rfl⟩
theorem no_div {n d : Int} (hn : IsPN n) (hd : d ≠ 0) : ¬ RV n d [] := by
  rintro (⟨h, _⟩ | ⟨_, _, h⟩)
  · exact hd h
  · have h1 := hn.2.1
    have h2 := hn.1
    rcases h with ⟨rfl, _⟩ | ⟨a, b, c⟩
    · exact absurd h1 (by decide)
    · obtain ⟨N, rfl⟩ : ∃ N : Nat, n = N := ⟨n.toNat, by have := h2.1; omega⟩
      obtain ⟨D, rfl⟩ : ∃ D : Nat, d = D := ⟨d.toNat, by omega⟩
      have h3 := hn.2.2 D (by
        rw [Int.toNat_natCast]
        have : ((N : Int)).tmod D = ((N % D : Nat) : Int) := by rw [Int.tmod_eq_emod_of_nonneg (by omega)]; rfl
        rw [this] at c
        exact Nat.dvd_of_mod_eq_zero (by omega))
      rw [Int.toNat_natCast] at h3
      omega
theorem no_proof {n : Int} {l : List En} (hI : IsNum n) (hn : ¬ IsPN n) : ¬ RV n 0 l := by
  rintro (⟨_, h⟩ | ⟨h, _⟩)
  · exact hn ⟨hI, GP_pr h⟩
  · exact h rfl
theorem e_st2a {call : CallF} {H : Heap} {id : Nat} {a b d : AV} {e : Int} (hH : H[id]? = some (some (.box [a, b]))) (h3 : d.one = true) (h4 : d.cells = [d]) : evE call H (.st 2) [.ptr id 0, .agg [.int .i64 e, d]] = some (.undef, H.set id (some (.box [.int .i64 e, d]))) := e_st2 hH h3 h4
theorem isP_one {v : AV} {l : List En} (h : IsP v l) : v.one = true ∧ v.cells = [v] := by
  obtain ⟨_, ⟨rfl, _⟩ | rfl⟩ := h <;> exact ⟨rfl, rfl⟩
/-- law 15 -/
theorem f15 {x d' : Int} {pv' : AV} {l' : List En} (hv' : IsP pv' l') : ∃ m H', evZ m 15 [.int .i64 x, .agg [.int .i64 d', pv']] [] = some (.bool true, H') := by
  obtain ⟨b1, b2⟩ := numN_le (x := x) (most := 2147483647) (by omega)
  have e28 := fun m (hm : 2 ≤ m) H => callPure_up (sp := spS) (Nat.le_refl _) (c28 (x := x) (n := 2147483647) (by omega) (by omega) (m := m) hm H)
  generalize numN x 2147483647 = N at *
  refine ⟨60001 + 3 * N, [], ?_⟩
  rw [show 60001 + 3 * N = 60000 + 3 * N + 1 by omega]
  have hn : IsNum (N : Int) := ⟨by omega, by omega⟩
  have e28 := e28 (60000 + 3 * N) (by omega)
  have h18 := fun H => callPure_up (sp := spS) (Nat.le_refl _) (awakeM (m := 60000 + 3 * N) (by omega) H)
  obtain ⟨d, pv, l, hv, hs, hR, hd, h30⟩ := c30 hn (m := 60000 + 3 * N) (by rw [Int.toNat_natCast]; omega)
  obtain ⟨py, hy, e39⟩ := c39 (d := d') hv' (m := 60000 + 3 * N) (by omega)
  have e39 := fun H => callPure_up (sp := spS) (Nat.le_refl _) (e39 H)
  obtain ⟨s1, s2⟩ := cpl_small l'
  generalize cpl (l'.take 60) = L at *
  have hsL : Small L := ⟨by omega, fun e he => by have := s2 e he; omega⟩
  have sn : Small [] := ⟨by simp, by simp⟩
  have gn : IsP .nilS [] := ⟨(by intro e he; cases he), .inl ⟨rfl, rfl⟩⟩
  have h38 := fun {d : Int} {pv : AV} {l : List En} (hv : IsP pv l) (hs : Small l) H => callPure_up (sp := spS) (Nat.le_refl _) (callPure_free (H := H) (args := [.int .i64 (N : Int), .agg [.int .i64 d, pv]]) (by simp [AV.idFree, idFreeL, hv.free]) (by simp) (f38 (d := d) hn hv hs (m := 60000 + 3 * N) (by omega)) rfl)
  have hx := fun H => h38 (d := d) hv hs H
  simp only [hR, if_true] at hx
  simp only [evZ] at h30
  have fo' : pv'.one = true := (isP_one hv').1
  obtain ⟨fo, fc⟩ := isP_one hv
  obtain ⟨yo, yc⟩ := isP_one hy
  have o1 : ∀ x : Int, (AV.int .i64 x).one = true := fun _ => rfl
  refine s_enter rfl rfl ?_
  by_cases hp : IsPN (N : Int)
  · obtain rfl := hd.2 hp
    have hz := fun (dy : Int) (h0 : dy ≠ 0) H => h38 (d := dy) gn sn H
    have hz := fun (dy : Int) (h0 : dy ≠ 0) H => (hz dy h0 H).trans (by rw [if_neg (no_div hp h0)])
    generalize evS spS tab it (60000 + 3 * N) = call at *
    have oa : evE call [] (.box false) [.agg [.int .i64 d', pv']] = some (.ptr 0 0, [some (.box [.int .i64 d', pv'])]) := by
      simp [evE, cells_agg, oneL, o1, fo', mkHO]
    repeat' first
 | (apply s_mov; (focus ((conv => lhs; whnf); done)))
 | (apply s_gT; exact rfl)
 | (apply c_nil)
 | (apply s_pickT; exact rfl; (focus ((conv => lhs; whnf); done)))
 | (apply s_pickF; exact rfl; (focus ((conv => lhs; whnf); done)))
 | ((first | apply s_lss | apply s_leq | apply s_gtr | apply s_geq | apply s_eql | apply s_neq); exact rfl; all_goals (intro _; try (exfalso; omega)))
 | (apply s_cn; (focus (repeat (first | apply opds_nil | (apply opds_cons; (first | (focus ((conv => lhs; whnf); done)) | exact rfl))))); exact e28 _)
 | (apply s_cn; (focus (repeat (first | apply opds_nil | (apply opds_cons; (first | (focus ((conv => lhs; whnf); done)) | exact rfl))))); exact h30 _)
 | (apply s_cn; (focus (repeat (first | apply opds_nil | (apply opds_cons; (first | (focus ((conv => lhs; whnf); done)) | exact rfl))))); exact hx _)
 | (apply s_cn; (focus (repeat (first | apply opds_nil | (apply opds_cons; (first | (focus ((conv => lhs; whnf); done)) | exact rfl))))); exact e39 _)
 | (apply s_cn; (focus (repeat (first | apply opds_nil | (apply opds_cons; (first | (focus ((conv => lhs; whnf); done)) | exact rfl))))); exact hz 1 (by omega) _)
 | (apply s_cn; (focus (repeat (first | apply opds_nil | (apply opds_cons; (first | (focus ((conv => lhs; whnf); done)) | exact rfl))))); exact hz d' (by assumption) _)
 | (apply s_cn; (focus (repeat (first | apply opds_nil | (apply opds_cons; (first | (focus ((conv => lhs; whnf); done)) | exact rfl))))); exact h18 _)
 | (apply s_en; (focus (repeat (first | apply opds_nil | (apply opds_cons; (first | (focus ((conv => lhs; whnf); done)) | exact rfl))))); exact oa)
 | (apply s_st; (focus (repeat (first | apply opds_nil | (apply opds_cons; (first | (focus ((conv => lhs; whnf); done)) | exact rfl))))); exact e_st2 rfl fo fc)
 | (apply s_st; (focus (repeat (first | apply opds_nil | (apply opds_cons; (first | (focus ((conv => lhs; whnf); done)) | exact rfl))))); exact e_st2 rfl yo yc)
 | (apply s_st; (focus (repeat (first | apply opds_nil | (apply opds_cons; (first | (focus ((conv => lhs; whnf); done)) | exact rfl))))); exact e_stB rfl rfl rfl (Nat.le_of_ble_eq_true rfl))
 | (apply isE; apply s_ed; (focus ((conv => lhs; whnf); done)))
 | (apply s_pd; (focus ((conv => lhs; whnf); done)))
 | (apply c_seq)
 | (apply c_reg)
 | (apply c_skip)
 | (apply c_ret)
 | (apply c_condT; exact rfl)
 | (apply c_condF; exact rfl)
 | (with_reducible apply k_c)
    all_goals exact fin_t (by (conv => lhs; whnf)) (by rfl) rfl
  · have hd0 : d ≠ 0 := fun h => hp (hd.1 h)
    have hz := fun H => h38 (d := 0) hy hsL H
    have hz := fun H => (hz H).trans (by rw [if_neg (no_proof hn hp)])
    generalize evS spS tab it (60000 + 3 * N) = call at *
    have oa : evE call [] (.box false) [.agg [.int .i64 d', pv']] = some (.ptr 0 0, [some (.box [.int .i64 d', pv'])]) := by
      simp [evE, cells_agg, oneL, o1, fo', mkHO]
    repeat' first
 | (apply s_mov; (focus ((conv => lhs; whnf); done)))
 | (apply s_gT; exact rfl)
 | (apply c_nil)
 | (apply s_pickT; exact rfl; (focus ((conv => lhs; whnf); done)))
 | (apply s_pickF; exact rfl; (focus ((conv => lhs; whnf); done)))
 | ((first | apply s_lss | apply s_leq | apply s_gtr | apply s_geq | apply s_eql | apply s_neq); exact rfl; all_goals (intro _; try (exfalso; omega)))
 | (apply s_cn; (focus (repeat (first | apply opds_nil | (apply opds_cons; (first | (focus ((conv => lhs; whnf); done)) | exact rfl))))); exact e28 _)
 | (apply s_cn; (focus (repeat (first | apply opds_nil | (apply opds_cons; (first | (focus ((conv => lhs; whnf); done)) | exact rfl))))); exact h30 _)
 | (apply s_cn; (focus (repeat (first | apply opds_nil | (apply opds_cons; (first | (focus ((conv => lhs; whnf); done)) | exact rfl))))); exact hx _)
 | (apply s_cn; (focus (repeat (first | apply opds_nil | (apply opds_cons; (first | (focus ((conv => lhs; whnf); done)) | exact rfl))))); exact e39 _)
 | (apply s_cn; (focus (repeat (first | apply opds_nil | (apply opds_cons; (first | (focus ((conv => lhs; whnf); done)) | exact rfl))))); exact hz _)
 | (apply s_cn; (focus (repeat (first | apply opds_nil | (apply opds_cons; (first | (focus ((conv => lhs; whnf); done)) | exact rfl))))); exact h18 _)
 | (apply s_en; (focus (repeat (first | apply opds_nil | (apply opds_cons; (first | (focus ((conv => lhs; whnf); done)) | exact rfl))))); exact oa)
 | (apply s_st; (focus (repeat (first | apply opds_nil | (apply opds_cons; (first | (focus ((conv => lhs; whnf); done)) | exact rfl))))); exact e_st2 rfl fo fc)
 | (apply s_st; (focus (repeat (first | apply opds_nil | (apply opds_cons; (first | (focus ((conv => lhs; whnf); done)) | exact rfl))))); exact e_st2 rfl yo yc)
 | (apply s_st; (focus (repeat (first | apply opds_nil | (apply opds_cons; (first | (focus ((conv => lhs; whnf); done)) | exact rfl))))); exact e_stB rfl rfl rfl (Nat.le_of_ble_eq_true rfl))
 | (apply isE; apply s_ed; (focus ((conv => lhs; whnf); done)))
 | (apply s_pd; (focus ((conv => lhs; whnf); done)))
 | (apply c_seq)
 | (apply c_reg)
 | (apply c_skip)
 | (apply c_ret)
 | (apply c_condF; exact rfl)
 | (with_reducible apply k_c)
    all_goals exact fin_t (by (conv => lhs; whnf)) (by rfl) rfl
end Go.AM.Pr
