/- A part of the proof: Q46. -/
import Derived.Test.YtmeajfgjbebkiaaQ42
set_option linter.unusedSectionVars false
set_option linter.unusedVariables false
set_option linter.unusedSimpArgs false
namespace Go.AM.Pa
/-! right outcomes -/
def okV (g : Gm) (W M : List Int) (v : Nat) : Prop := (0 ≤ getI W v ∧ getI W v ≤ 1) ∧ (getI g.owner v = getI W v → getI M v ∈ getLL g.next v ∧ getI W (getI M v) = getI W v) ∧ (getI g.owner v ≠ getI W v → getI M v = -1 ∧ ∀ u ∈ getLL g.next v, getI W u = getI W v)
def Pre (g : Gm) (W M : List Int) : Prop := W.length = g.next.length ∧ M.length = g.next.length ∧ ∀ v : Nat, v < g.next.length → okV g W M v
def Reg (g : Gm) (W : List Int) (p : Int) (v : Nat) : Prop := v < g.next.length ∧ getI W v = p
def WinW (g : Gm) (W M : List Int) (p : Int) : Prop := Wins g p (Reg g W p) (Ed g M p)
def RightW (g : Gm) (W M : List Int) : Prop := Pre g W M ∧ ∀ p : Int, p = 0 ∨ p = 1 → WinW g W M p
open Classical in
noncomputable def rightB (g : Gm) (W M : List Int) : Bool := decide (RightW g W M)
open Classical in
theorem rightB_t {g : Gm} {W M : List Int} (h : RightW g W M) : rightB g W M = true := by unfold rightB; exact decide_eq_true h
open Classical in
theorem rightB_f {g : Gm} {W M : List Int} (h : ¬ RightW g W M) : rightB g W M = false := by unfold rightB; exact decide_eq_false h
open Classical in
theorem rightB_iff {g : Gm} {W M : List Int} : rightB g W M = true ↔ RightW g W M := by unfold rightB; exact decide_eq_true_iff
theorem right_strat {g : Gm} (hg : Good g) {W M : List Int} (h : RightW g W M) {p : Int} (hp : p = 0 ∨ p = 1) : Strat g M p (Reg g W p) := by
  refine ⟨fun v h => h.1, fun v hv ho => ?_, fun v hv ho u hu => ?_, h.2 p hp⟩
  · obtain ⟨h1, h2⟩ := (h.1.2.2 v hv.1).2.1 (ho.trans hv.2.symm)
    have := row_mem hg rfl hv.1 _ h1
    obtain ⟨u, hu⟩ : ∃ u : Nat, getI M v = u := ⟨_, (Int.toNat_of_nonneg this.1).symm⟩
    rw [hu] at h1 h2 this
    exact ⟨u, hu.symm, h1, by omega, h2.trans hv.2⟩
  · have h1 := ((h.1.2.2 v hv.1).2.2 (fun e => ho (e.trans hv.2))).2 u hu
    have := row_mem hg rfl hv.1 _ hu
    exact ⟨by omega, h1.trans hv.2⟩
/-- the winners of a right outcome are those that the program finds -/
theorem right_uniq {g : Gm} (hg : Good g) {W M : List Int} (h : RightW g W M) {v : Nat} (hv : v < g.next.length) : getI W v = winA (zAll g).1 v := by
  have h1 := (h.1.2.2 v hv).1
  exact (strat_uniq hg (by omega) (right_strat hg h (p := getI W v) (by omega)) (v := v) ⟨hv, rfl⟩).symm
theorem strat_right {g : Gm} (hg : Good g) {W M : List Int} (hl : W.length = g.next.length) (hm : M.length = g.next.length) (hw : ∀ v : Nat, v < g.next.length → (getI W v = 0 ∨ getI W v = 1) ∧ (getI g.owner v ≠ getI W v → getI M v = -1)) (hs : ∀ p : Int, p = 0 ∨ p = 1 → Strat g M p (Reg g W p)) : RightW g W M := by
  refine ⟨⟨hl, hm, fun v hv => ?_⟩, fun p hp => (hs p hp).win⟩
  obtain ⟨h1, h2⟩ := hw v hv
  have s := hs (getI W v) h1
  refine ⟨by omega, fun ho => ?_, fun ho => ⟨h2 ho, fun u hu => ?_⟩⟩
  · obtain ⟨u, u1, u2, u3⟩ := s.mem v ⟨hv, rfl⟩ ho
    rw [← u1]; exact ⟨u2, u3.2⟩
  · have := row_mem hg rfl hv _ hu
    obtain ⟨k, rfl⟩ : ∃ k : Nat, u = k := ⟨u.toNat, by omega⟩
    exact (s.trap v ⟨hv, rfl⟩ ho k hu).2
/-- what the program finds is right -/
theorem z_right {g : Gm} (hg : Good g) : RightW g (winL (zAll g).1 g.next.length) (movL g (zAll g).1 (zAll g).2 g.next.length) := by
  have hw : ∀ v : Nat, v < g.next.length → getI (winL (zAll g).1 g.next.length) v = winA (zAll g).1 v := fun v hv => by rw [winL, getLL_rngI hv]
  have hm : ∀ v : Nat, v < g.next.length → getI (movL g (zAll g).1 (zAll g).2 g.next.length) v = movA g (zAll g).1 (zAll g).2 v := fun v hv => by rw [movL, getLL_rngI hv]
  refine strat_right hg (by simp [winL]) (by simp [movL]) (fun v hv => ?_) fun p hp => ?_
  · rw [hw v hv, hm v hv]
    refine ⟨by unfold winA; split <;> simp, fun h => mov_ne rfl h⟩
  · have s := strat_z hg hp
    have hr : ∀ v, Reg g (winL (zAll g).1 g.next.length) p v ↔ (v < g.next.length ∧ winA (zAll g).1 v = p) := fun v => by
      unfold Reg
      constructor
      · rintro ⟨h1, h2⟩; exact ⟨h1, by rw [← hw v h1]; exact h2⟩
      · rintro ⟨h1, h2⟩; exact ⟨h1, by rw [hw v h1]; exact h2⟩
    refine ⟨fun v h => h.1, fun v hv ho => ?_, fun v hv ho u hu => (hr u).2 (s.trap v ((hr v).1 hv) ho u hu), fun f hf r hr' => ?_⟩
    · have hv' := (hr v).1 hv
      obtain ⟨u, u1, u2, u3⟩ := s.mem v hv' ho
      exact ⟨u, by rw [u1, hm v hv.1, mov_eq hv'.2 ho], u2, (hr u).2 u3⟩
    · refine s.win f (fun i => ⟨(hr _).1 (hf i).1, (hf i).2.1, fun ho => ?_⟩) r hr'
      have hv' := (hr _).1 (hf i).1
      rw [(hf i).2.2 ho, hm _ hv'.1, mov_eq hv'.2 ho]
theorem getI_memB {l : List Int} {i : Nat} (h : i < l.length) : getI l i ∈ l := by
  simp [getI_nat, h]
/-! the program's way: what the moves, completed, beat -/
def cpA (g : Gm) (p : Int) (M : List Int) (v : Nat) : Int := if getI g.owner v = p ∧ getI M v < 0 then getI (getLL g.next v) 0 else getI M v
def cpL (g : Gm) (p : Int) (M : List Int) : List Int := (List.range g.next.length).map (cpA g p M)
theorem cp_get {g : Gm} {p : Int} {M : List Int} {v : Nat} (h : v < g.next.length) : getI (cpL g p M) v = cpA g p M v := getLL_rngI h
theorem cp_ok {g : Gm} (hg : Good g) {W M : List Int} (hp : Pre g W M) (p : Int) : OkB g p (cpL g p M) := fun v hv ho => by
  rw [cp_get hv, cpA]
  have hne := List.length_pos_iff.2 (row_ne hg rfl hv)
  have hfirst : getI (getLL g.next v) 0 ∈ getLL g.next v := getI_memB (i := 0) hne
  split
  · exact hfirst
  · rename_i h
    by_cases hw : getI g.owner v = getI W v
    · exact ((hp.2.2 v hv).2.1 hw).1
    · have := ((hp.2.2 v hv).2.2 hw).1
      exact absurd ⟨ho, by omega⟩ h
theorem cp_win {g : Gm} (hg : Good g) {W M : List Int} (hp : Pre g W M) {p : Int} (hp01 : p = 0 ∨ p = 1) : (∀ v : Nat, v < g.next.length → getI W v = p → (v : Int) ∈ beatsL g p (cpL g p M)) ↔ WinW g W M p := by
  have hq := cp_ok hg hp p
  have hno : ∀ v : Nat, v < g.next.length → ¬ getI g.owner v = p → getLL (bndG g p (cpL g p M)).next v = getLL g.next v := fun v hv ho => by rw [bnd_ll hv, bRow, if_neg ho]
  have hyes : ∀ v : Nat, v < g.next.length → getI g.owner v = p → getI W v = p → getLL (bndG g p (cpL g p M)).next v = [getI M v] := fun v hv ho hw => by
    have h1 := ((hp.2.2 v hv).2.1 (ho.trans hw.symm)).1
    have h2 := row_mem hg rfl hv _ h1
    rw [bnd_ll hv, bRow, if_pos ho, cp_get hv, cpA, if_neg (by omega)]
  constructor
  · intro h f hf r hr
    have hv := (hf 0).1
    have hm := h _ hv.1 hv.2
    rw [beatsL, fil_mem, decide_eq_true_iff] at hm
    refine Classical.byContradiction fun hpar => (bnd_win hg hp01 hq hv.1).1 hm.2 ⟨f, rfl, fun i => ?_, r, hr, hpar⟩
    obtain ⟨hi, h1, h2⟩ := hf i
    by_cases ho : getI g.owner (f i) = p
    · rw [hyes _ hi.1 ho hi.2, h2 ho]; exact List.mem_cons_self
    · rw [hno _ hi.1 ho]; exact h1
  · intro h v hv hw
    rw [beatsL, fil_mem, decide_eq_true_iff]
    refine ⟨hv, (bnd_win hg hp01 hq hv).2 ?_⟩
    rintro ⟨f, f0, fp, r, hr, hpar⟩
    have step : ∀ i, Reg g W p (f i) → Reg g W p (f (i + 1)) ∧ Ed g M p (f i) (f (i + 1)) := fun i hi => by
      have he := fp i
      by_cases ho : getI g.owner (f i) = p
      · have hok := (hp.2.2 _ hi.1).2.1 (ho.trans hi.2.symm)
        rw [hyes _ hi.1 ho hi.2] at he
        simp at he
        have h2 := row_mem hg rfl hi.1 _ hok.1
        rw [← he] at hok h2
        exact ⟨⟨by omega, hok.2.trans hi.2⟩, hok.1, fun _ => he⟩
      · rw [hno _ hi.1 ho] at he
        have h2 := row_mem hg rfl hi.1 _ he
        exact ⟨⟨by omega, (((hp.2.2 _ hi.1).2.2 (fun e => ho (e.trans hi.2))).2 _ he).trans hi.2⟩, he, fun h => absurd h ho⟩
    have hA : ∀ i, Reg g W p (f i) ∧ Ed g M p (f i) (f (i + 1)) := fun i => by
      have : Reg g W p (f i) := by
        induction i with
        | zero => rw [f0]; exact ⟨hv, hw⟩
        | succ i ih => exact (step i ih).1
      exact ⟨this, (step i this).2⟩
    exact hpar (h f hA r hr)
/-! the reference's way: no bad circle in the graph of the region -/
def rgRow (g : Gm) (W M : List Int) (p : Int) (v : Nat) : List Int := if getI W v = p then (if getI g.owner v = p then [getI M v] else getLL g.next v) else []
def rgN (g : Gm) (W M : List Int) (p : Int) : List (List Int) := (List.range g.next.length).map (rgRow g W M p)
theorem rg_ll {g : Gm} {W M : List Int} {p : Int} {v : Nat} (h : v < g.next.length) : getLL (rgN g W M p) v = rgRow g W M p v := getLL_rng h
theorem rg_gra {g : Gm} (hg : Good g) (hr : ∀ l ∈ g.next, l.length < 50) {W M : List Int} (hm : ∀ v : Nat, v < g.next.length → getI g.owner v = getI W v → getI M v ∈ getLL g.next v) (p : Int) : Gra (rgN g W M p) g.rank := by
  have hl : (rgN g W M p).length = g.next.length := by simp [rgN]
  refine ⟨⟨by rw [hl]; exact hg.1.2, by rw [hl]; exact hg.2.2.1⟩, fun v hv u hu => ?_, fun l hl => ?_⟩
  · rw [hl] at hv ⊢
    rw [rg_ll hv, rgRow] at hu
    split at hu
    · rename_i h1
      split at hu
      · rename_i h2
        simp at hu
        rw [hu]
        exact row_mem hg rfl hv _ (hm v hv (h2.trans h1.symm))
      · exact row_mem hg rfl hv _ hu
    · cases hu
  · obtain ⟨v, hv, rfl⟩ := List.mem_map.1 hl
    unfold rgRow
    split
    · split
      · simp
      · exact getLL_lt hr (by omega) v
    · simp
theorem rg_win {g : Gm} (hg : Good g) (hr : ∀ l ∈ g.next, l.length < 50) {W M : List Int} (hp : Pre g W M) {p : Int} (hp01 : p = 0 ∨ p = 1) : (∀ v : Nat, v < g.next.length → getI W v = p → badB (rgN g W M p) g.rank p v = false) ↔ WinW g W M p := by
  have hl : (rgN g W M p).length = g.next.length := by simp [rgN]
  have hgr := rg_gra hg hr (W := W) (M := M) (fun v hv ho => ((hp.2.2 v hv).2.1 ho).1) p
  have hbad := fun (v : Nat) (hv : v < g.next.length) => bad_iff (p := p) hgr (fun u hu => ((hg.2.2.2 u (by omega)).2.1).2) (v := v) (by omega)
  have hrow : ∀ v : Nat, v < g.next.length → getI W v = p → getLL (rgN g W M p) v = if getI g.owner v = p then [getI M v] else getLL g.next v := fun v hv hw => by rw [rg_ll hv, rgRow, if_pos hw]
  constructor
  · intro h f hf rr hrr
    have hv := (hf 0).1
    have hb := h _ hv.1 hv.2
    refine Classical.byContradiction fun hpar => ?_
    have := (hbad _ hv.1).2 ⟨f, rfl, fun i => ?_, rr, hrr, hpar⟩
    · rw [hb] at this; cases this
    · obtain ⟨hi, h1, h2⟩ := hf i
      rw [hrow _ hi.1 hi.2]
      split
      · rename_i ho
        rw [h2 ho]; exact List.mem_cons_self
      · exact h1
  · intro h v hv hw
    rw [Bool.eq_false_iff]
    intro hb
    obtain ⟨f, f0, fp, rr, hrr, hpar⟩ := (hbad v hv).1 hb
    have step : ∀ i, Reg g W p (f i) → Reg g W p (f (i + 1)) ∧ Ed g M p (f i) (f (i + 1)) := fun i hi => by
      have he := fp i
      rw [hrow _ hi.1 hi.2] at he
      split at he
      · rename_i ho
        have hok := (hp.2.2 _ hi.1).2.1 (ho.trans hi.2.symm)
        simp at he
        have h2 := row_mem hg rfl hi.1 _ hok.1
        rw [← he] at hok h2
        exact ⟨⟨by omega, hok.2.trans hi.2⟩, hok.1, fun _ => he⟩
      · rename_i ho
        have h2 := row_mem hg rfl hi.1 _ he
        exact ⟨⟨by omega, (((hp.2.2 _ hi.1).2.2 (fun e => ho (e.trans hi.2))).2 _ he).trans hi.2⟩, he, fun h => absurd h ho⟩
    have hA : ∀ i, Reg g W p (f i) ∧ Ed g M p (f i) (f (i + 1)) := fun i => by
      have : Reg g W p (f i) := by
        induction i with
        | zero => rw [f0]; exact ⟨hv, hw⟩
        | succ i ih => exact (step i ih).1
      exact ⟨this, (step i this).2⟩
    exact hpar (h f hA rr hrr)
end Go.AM.Pa
