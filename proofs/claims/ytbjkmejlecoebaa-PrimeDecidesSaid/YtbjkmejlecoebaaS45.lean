/- A part of the proof: S45. -/
import Derived.Test.YtbjkmejlecoebaaS44
import Derived.Test.YtbjkmejlecoebaaS40
set_option linter.unusedSectionVars false
set_option linter.unusedVariables false
set_option linter.unusedSimpArgs false
namespace Go.AM.Pr
open Go.AM.Num
noncomputable def entE (x : Int) : En := if x = 2 then ⟨2, 1, .nilS, []⟩ else ⟨x, (witN x.toNat : Int), fzL (ps (facOf (x.toNat - 1))), ps (facOf (x.toNat - 1))⟩
theorem entE_p (x : Int) : (entE x).p = x := by
  unfold entE
  split
  · rename_i h; rw [h]
  · rfl
theorem entE_good (x : Int) : IsL (entE x).fv (entE x).f := by
  unfold entE
  split
  · exact .nil
  · exact isL_fz _
theorem ent_E (p : Nat) : ent p = .agg [.int .i64 (entE (p : Int)).p, .int .i64 (entE (p : Int)).w, (entE (p : Int)).fv] := by
  unfold ent entE
  by_cases h : p = 2
  · subst h; rfl
  · rw [if_neg h, if_neg (by omega), Int.toNat_natCast]
noncomputable def srt (s : List Nat) : List Int := sortI (s.map fun (p : Nat) => (p : Int))
noncomputable def prf (s : List Nat) : List En := (srt s).map entE
theorem srt_mem {s : List Nat} {x : Int} : x ∈ srt s ↔ ∃ p ∈ s, (p : Int) = x := by
  unfold srt sortI
  rw [(List.mergeSort_perm _ _).mem_iff, List.mem_map]
theorem srt_len (s : List Nat) : (srt s).length = s.length := by
  unfold srt
  rw [sortI_len, List.length_map]
theorem srt_lt {s : List Nat} (h : s.Nodup) : (srt s).Pairwise (· < ·) := by
  have h1 : (srt s).Pairwise (fun a b => decide (a ≤ b) = true) := List.pairwise_mergeSort (fun a b c h1 h2 => by simp at *; omega) (fun a b => by simp; omega) _
  have h2 : (srt s).Nodup := by
    unfold srt sortI
    rw [(List.mergeSort_perm _ _).nodup_iff]
    exact List.Pairwise.map (R := (· ≠ ·)) _ (fun a b h e => h (by exact Int.ofNat_inj.1 e)) h
  exact (h1.and h2).imp fun ⟨a, b⟩ => by
    simp only [decide_eq_true_eq] at a
    have : ¬ _ = _ := b
    omega
theorem prf_len (s : List Nat) : (prf s).length = s.length := by unfold prf; rw [List.length_map, srt_len]
theorem prf_ge {s : List Nat} {i : Nat} (h : i < (srt s).length) : ge (prf s) i = entE (srt s)[i] := by
  rw [ge_lt (by unfold prf; rw [List.length_map]; exact h)]
  simp [prf]
theorem prf_Bk (s : List Nat) (i : Nat) : Bk (prf s) i = (srt s).take i := by
  unfold Bk prf
  rw [← List.map_take, List.map_map]
  have : (fun x : En => x.p) ∘ entE = id := funext fun x => entE_p x
  rw [this, List.map_id]
theorem tmod2 {P : Nat} (h : P % 2 = 1) : (P : Int).tmod 2 ≠ 0 := by
  rw [Int.tmod_eq_emod_of_nonneg (by omega)]
  omega
theorem take_mem {l : List Int} {i j : Nat} (hl : l.Pairwise (· < ·)) (hi : i < l.length) (hj : j < l.length) (h : l[j] < l[i]) : l[j] ∈ l.take i := by
  have hji : j < i := by
    rcases Nat.lt_or_ge j i with h1 | h1
    · exact h1
    · exfalso
      rcases Nat.lt_or_ge i j with h2 | h2
      · have := List.pairwise_iff_getElem.1 hl i j hi hj h2
        omega
      · have : i = j := by omega
        subst this
        omega
  refine List.mem_of_getElem? (i := j) ?_
  rw [List.getElem?_take_of_lt hji]
  exact List.getElem?_eq_getElem hj
theorem prf_GP {p : Nat} (hp : IsPr p) (hp2 : p ≤ 2147483647) : GP (prf (pvF p p [])) (p : Int) := by
  obtain ⟨hg, hm, _⟩ := pvF_good p p [] (Nat.le_refl _) hp Gd.nil
  have hle : ∀ y ∈ pvF p p [], y ≤ p := fun y hy => by
    rcases pvF_le p p [] y hy with h | h
    · cases h
    · exact h
  generalize pvF p p [] = s at *
  have hlt := srt_lt hg.nd
  have hsl := srt_len s
  have hpl := prf_len s
  have hpos : 0 < s.length := List.length_pos_of_mem hm
  have hpm : (p : Int) ∈ srt s := srt_mem.2 ⟨p, hm, rfl⟩
  refine ⟨by omega, ?_, fun i hi => ?_⟩
  · rw [hpl, prf_ge (by omega), entE_p]
    obtain ⟨j, hj, hjp⟩ := List.getElem_of_mem hpm
    obtain ⟨y, hy, hye⟩ := srt_mem.1 (List.getElem_mem (l := srt s) (n := s.length - 1) (by omega))
    have := hle y hy
    rcases Nat.lt_or_ge j (s.length - 1) with h | h
    · have := List.pairwise_iff_getElem.1 hlt j (s.length - 1) hj (by omega) h
      omega
    · have : j = s.length - 1 := by omega
      subst this
      exact hjp
  · have hi' : i < (srt s).length := by omega
    refine ⟨?_, fun h0 => ?_⟩
    · rw [prf_ge hi', prf_Bk]
      obtain ⟨P, hP, hPx⟩ := srt_mem.1 (List.getElem_mem hi')
      have hPp := hg.pr P hP
      have hP1 := hPp.1
      have hPl := hle P hP
      by_cases h2 : P = 2
      · left
        rw [← hPx, h2]
        exact ⟨rfl, rfl, rfl⟩
      · right
        have hL := fac_pm hPp
        have hfl := fac_lt hP1
        have e : entE (srt s)[i] = ⟨(P : Int), (witN P : Int), fzL (ps (facOf (P - 1))), ps (facOf (P - 1))⟩ := by
          rw [← hPx]
          unfold entE
          rw [if_neg (by omega), Int.toNat_natCast]
        rw [e]
        obtain ⟨w1, w2, w3, w4⟩ := witN_spec hPp
        have w5 := wit_two hPp (by omega)
        have hodd := odd_pr hPp (by omega)
        have e1 : ((P : Int) - 1).toNat = P - 1 := by omega
        refine ⟨by show ¬ (P : Int) = 2; omega, by show (3 : Int) ≤ P; omega, tmod2 (by omega), ⟨by show (1 : Int) ≤ P; omega, by show (P : Int) ≤ 2147483647; omega⟩, by show (2 : Int) ≤ witN P; omega, by show (witN P : Int) < P; omega, fun k hk => ?_, fun q hq hd => ?_, ?_⟩
        · dsimp only at hk ⊢
          rw [ps_len] at hk
          have hk1 : ∀ j : Nat, (h : j < (facOf (P - 1)).length) → getI (ps (facOf (P - 1))) (j : Int) = (((facOf (P - 1))[j].1 : Nat) : Int) := fun j hj => by
            rw [getI_nat]
            simp [ps, List.getD, hj]
          obtain ⟨q1, q2, q3⟩ := hfl _ (List.getElem_mem hk)
          refine ⟨?_, fun h0 => ?_, ?_⟩
          · rw [hk1 k hk]
            have hqs := hg.cl P hP h2 _ (List.getElem_mem hk)
            obtain ⟨j, hj, hje⟩ := List.getElem_of_mem (srt_mem.2 ⟨_, hqs, rfl⟩)
            rw [← hje]
            exact take_mem hlt hi' hj (by rw [hje, ← hPx]; omega)
          · have e3 : (k : Int) - 1 = ((k - 1 : Nat) : Int) := by omega
            rw [e3, hk1 k hk, hk1 (k - 1) (by omega)]
            have := List.pairwise_iff_getElem.1 hL.asc (k - 1) k (by rw [List.length_map]; omega) (by rw [List.length_map]; omega) (by omega)
            simp only [List.getElem_map] at this
            omega
          · rw [hk1 k hk, e1, Int.toNat_natCast]
            exact q3
        · dsimp only at hd ⊢
          rw [e1] at hd
          obtain ⟨f, hf⟩ := pr_dvd_prod hq hL.all (by rw [hL.prod]; exact hd)
          exact List.mem_map.2 ⟨(q, f), hf, rfl⟩
        · dsimp only
          rw [Int.toNat_natCast, Int.toNat_natCast]
          exact w3
    · rw [prf_ge hi', prf_ge (by omega), entE_p, entE_p]
      exact List.pairwise_iff_getElem.1 hlt (i - 1) i (by omega) hi' (by omega)
theorem prf_small {s : List Nat} (hl : s.length ≤ 100) (hm : ∀ y ∈ s, IsPr y ∧ y ≤ 2147483647) : Small (prf s) := by
  refine ⟨by rw [prf_len]; omega, fun e he => ?_⟩
  obtain ⟨x, hx, rfl⟩ := List.mem_map.1 he
  obtain ⟨P, hP, rfl⟩ := srt_mem.1 hx
  obtain ⟨h1, h2⟩ := hm P hP
  unfold entE
  split
  · simp
  · rw [Int.toNat_natCast]
    show (ps (facOf (P - 1))).length ≤ 1000
    rw [ps_len]
    have := fac_len31 (fac_pm h1) (by omega)
    omega
theorem prf_goodE (s : List Nat) : GoodE (prf s) := fun e he => by
  obtain ⟨x, _, rfl⟩ := List.mem_map.1 he
  exact entE_good x
end Go.AM.Pr
