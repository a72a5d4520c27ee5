/- A part of the proof: Q55. -/
import Derived.Test.YtmeajfgjbebkiaaQ54
set_option linter.unusedSectionVars false
set_option linter.unusedVariables false
set_option linter.unusedSimpArgs false
namespace Go.AM.Pa
set_option maxHeartbeats 8000000
theorem f61 {x : AV} {g : Gm} {n : Nat} (hx : IsG x g) (hg : Good g) (hnn : g.next.length = n) (hrow : ∀ i : Int, (getLL g.next i).length < 50) : ∀ (k : Nat) (inn reg : List Bool) (mv : List Int), Area g inn → mv.length = n → reg.length = n → (∀ i : Nat, getB inn i = getB reg i) → ct inn < k → ∀ m, 110 + k ≤ m →
    evF tab it m 61 [x, .rd 1 n (bL reg)] [] = some (.sl 0 1 0 n, [some (.data (bL (outL n inn (zsol g k inn mv).1)))])
  | 0, _, _, _, _, _, _, _, h, _, _ => by omega
  | k + 1, inn, reg, mv, ha, hm, hrl, he, hct, m, hmm => by
    obtain ⟨m, rfl⟩ : ∃ j, m = j + 1 := ⟨m - 1, by omega⟩
    have IH := fun (inn reg : List Bool) (mv : List Int) (ha : Area g inn) (hm : mv.length = n) (hrl : reg.length = n) (he : ∀ i : Nat, getB inn i = getB reg i) (hct : ct inn < k) (H : Heap) => callPure_frz (H := H) (args := [x, .rd 1 n (bL reg)]) (by simp [idFreeL, hx.free, AV.idFree]) (by simp) (f61 hx hg hnn hrow k inn reg mv ha hm hrl he hct m (by omega)) (v' := .rd 1 n (bL (outL n inn (zsol g k inn mv).1))) (by
      have h2 : (bL (outL n inn (zsol g k inn mv).1)).length = n := by rw [bL_len, outL_len]
      have h3 : (bL (outL n inn (zsol g k inn mv).1)).take n = bL (outL n inn (zsol g k inn mv).1) := List.take_of_length_le (by omega)
      simp [frzV, Heap.data?, h2, h3])
    have hx' := hx
    have h48 := fun {set : List Bool} {p : Int} (args : List AV) (H : Heap) (e : frzL H 40 args = some [x, .int .i64 p, .rd 1 n (bL set), .rd 1 n (bL reg)]) (hs : set.length = n) => c48f e hx hg hnn hs hrl hrow (m := m) (by omega)
    have h69 := fun (a b : List Bool) (ha : a.length = n) (hb : b.length = n) H => c69 ha hb (by have := hg.1; omega) (m := m) (by omega) H
    obtain ⟨xo, xr, xn, rfl, ho, hr, hn⟩ := hx
    have hg1 := hg.1; have hg3 := hg.2.2.1
    have hlt : ∀ i : Nat, getB inn i = true → i < n := fun i h => by have := ha.lt i h; omega
    have hout : ∀ i : Nat, ¬ i < n → getB reg i = false := fun i hi => Bool.eq_false_iff.2 fun e => hi (hlt i (by rw [he]; exact e))
    refine f_enter rfl rfl ?_
    generalize evF tab it m = call at *
    by_cases hz : inn = z24
    · have hreg : ∀ j : Nat, getB reg j = false := fun j => by rw [← he j, hz, getB_z24]
      have hz2 : outL n inn (zsol g (k + 1) inn mv).1 = List.replicate n false := by
        simp only [zsol, if_pos hz]
        refine List.ext_getElem (by simp [outL]) fun i h1 h2 => ?_
        simp [outL, hz, getB_z24]
      exact walk61 (top := -1) (P := -1) (SET := _) (LOST := _) (NEAR := []) (REST := List.replicate n false) (INNER := List.replicate n false) (FAR := []) (REST2 := []) (INNER2 := []) ho.one hr hn.one ho.free hn.free (by omega) (by omega) (by omega) hrl
        (fun t _ h => by
          rcases h with h | ⟨j, hj, h1, h2⟩
          · exact h
          · rw [hreg j] at h1; cases h1)
        (fun _ => hz2) rfl rfl rfl (by simp) (by simp)
        (fun h => absurd (by omega) h) (fun h => absurd (by omega) h) (fun h => absurd (by omega) h) (fun h => absurd (by omega) h) (fun h => absurd (by omega) h) (fun h => absurd (by omega) h) (fun h => absurd (by omega) h) (fun h => absurd (by omega) h) (fun h => absurd (by omega) h) (fun h => absurd (by omega) h)
    · obtain ⟨⟨hd, hd1, hd2⟩, hr0, hr9, hle⟩ := top_head hg ha hz
      have hhd := getB_heads g inn (topRank g inn) ha.len hd
      rw [hd2] at hhd
      have hhd3 : getI g.rank hd = topRank g inn := by
        cases hb : decide (getI g.rank hd = topRank g inn)
        · rw [hb, Bool.and_false] at hhd; cases hhd
        · exact of_decide_eq_true hb
      have huniq : ∀ t : Int, (∀ j : Nat, j < n → getB reg j = true → getI g.rank j ≤ t) → (t = -1 ∨ ∃ j : Nat, j < n ∧ getB reg j = true ∧ getI g.rank j = t) → t = topRank g inn := fun t h1 h2 => by
        have h3 := h1 hd (by have := hlt hd hd1; omega) (by rw [← he]; exact hd1)
        rcases h2 with h | ⟨j, hj, h4, h5⟩
        · omega
        · have := hle j (by rw [he]; exact h4)
          omega
      simp only [zsol, if_neg hz]
      have hhl : (heads g inn (topRank g inn)).length = 24 := by rw [heads, heads_len, z24_len]
      have hh := fun i => getB_heads g inn (topRank g inn) ha.len i
      have hds : getB (heads g inn (topRank g inn)) hd = true := by rw [hh, hd1, decide_eq_true hhd3]; rfl
      have hp : (topRank g inn).tmod 2 = 0 ∨ (topRank g inn).tmod 2 = 1 := by
        rw [Int.tmod_eq_emod_of_nonneg hr0]; omega
      clear hhd hd2 hle hr9 hhd3
      generalize topRank g inn = top at *
      generalize heads g inn top = hdl at *
      obtain ⟨a1, m1⟩ := runN_attr (g := g) (p := top.tmod 2) ha.len 26 hdl mv hhl hm (by have := cf_le hdl; omega)
      have e1 := runG_eq hg hnn ha hrl he (p := top.tmod 2) 26 hdl (ini ((List.range n).map fun (j : Nat) => getB reg j && decide (getI g.rank j = top)) reg n n) mv hhl (ini_len _ _ _ _) (fun i => by
        rw [getB_ini, getB_mapN, hh, he]
        by_cases hi : i < n
        · cases getB reg i <;> simp [hi]
        · have : getB reg i = false := Bool.eq_false_iff.2 fun e => hi (hlt i (by rw [he]; exact e))
          simp [this])
      have nl := runR_len (g := g) (reg := reg) (p := top.tmod 2) 26 _ (ini_len ((List.range n).map fun (j : Nat) => getB reg j && decide (getI g.rank j = top)) reg n n)
      have h48a := fun args H e => h48 (set := (List.range n).map fun (j : Nat) => getB reg j && decide (getI g.rank j = top)) (p := top.tmod 2) args H e (by simp)
      have c2 : ct (woB inn (runN g inn (top.tmod 2) 26 hdl mv).1) < ct inn := ct_wo ha.len a1.len hd1 (a1.sub hd hds)
      generalize runN g inn (top.tmod 2) 26 hdl mv = N1 at *
      generalize runR g reg (top.tmod 2) 26 (ini ((List.range n).map fun (j : Nat) => getB reg j && decide (getI g.rank j = top)) reg n n) = NEAR at *
      have ar2 := area_wo ha a1
      have hwo := getB_wo ha.len a1.len
      have hrest : ∀ i : Nat, getB (woB inn N1.1) i = getB ((List.range n).map fun (j : Nat) => getB reg j && !getB NEAR j) i := fun i => by
        rw [hwo, getB_mapN, he, e1]
        by_cases hi : i < n
        · simp [hi]
        · have : getB reg i = false := Bool.eq_false_iff.2 fun e => hi (hlt i (by rw [he]; exact e))
          simp [this]
      obtain ⟨l2, m2, s2⟩ := zsol_sub hg k _ _ ar2 m1
      have h69a := h69 reg NEAR hrl nl
      have h61a := IH _ _ N1.2 ar2 m1 (by simp) hrest (by omega)
      have hlt2 : ∀ i : Nat, getB (woB inn N1.1) i = true → i < n := fun i h => by have := ar2.lt i h; omega
      generalize hREST : (List.range n).map (fun (j : Nat) => getB reg j && !getB NEAR j) = REST at *
      have hRl : REST.length = n := by rw [← hREST]; simp
      generalize zsol g k (woB inn N1.1) N1.2 = Z2 at *
      have hI := getB_outL (z := Z2.1) hlt2
      have hIl := outL_len n (woB inn N1.1) Z2.1
      generalize outL n (woB inn N1.1) Z2.1 = INNER at *
      have hll := as_len (p := 1 - top.tmod 2) ar2.len l2
      have hlost : ∀ i : Nat, getB (asB (woB inn N1.1) (1 - top.tmod 2) Z2.1) i = getB ((List.range n).map fun (j : Nat) => getB REST j && (getB INNER j == decide (top.tmod 2 = 0))) i := fun i => by
        rw [getB_mapN, ← hrest, hI]
        have hsub := s2 i
        unfold asB
        rcases hp with e | e
        · rw [e, if_neg (by omega), getB_wo ar2.len l2]
          by_cases hi : i < n
          · cases getB (woB inn N1.1) i <;> cases getB Z2.1 i <;> simp [hi]
          · have : getB (woB inn N1.1) i = false := Bool.eq_false_iff.2 fun e => hi (hlt2 i e)
            simp [this]
        · rw [e, if_pos (by omega)]
          by_cases hi : i < n
          · cases hb : getB (woB inn N1.1) i
            · have : getB Z2.1 i = false := Bool.eq_false_iff.2 fun e => by have := hsub e; rw [hb] at this; cases this
              simp [this]
            · cases getB Z2.1 i <;> simp [hi]
          · have hb : getB (woB inn N1.1) i = false := Bool.eq_false_iff.2 fun e => hi (hlt2 i e)
            have : getB Z2.1 i = false := Bool.eq_false_iff.2 fun e => by have := hsub e; rw [hb] at this; cases this
            simp [this, hi]
      have hlsub : ∀ i : Nat, getB (asB (woB inn N1.1) (1 - top.tmod 2) Z2.1) i = true → getB inn i = true := fun i h => by
        have := as_sub ar2.len l2 s2 i h
        rw [hwo] at this; simp at this; exact this.1
      generalize asB (woB inn N1.1) (1 - top.tmod 2) Z2.1 = L24 at *
      have hreg01 : ∀ i : Nat, getB inn i = getB reg i := he
      by_cases hL : L24 = z24
      · rw [if_pos hL]
        have hno : ¬ ∃ j : Nat, j < n ∧ (getB REST j && (getB INNER j == decide (top.tmod 2 = 0))) = true := fun ⟨j, hj, h⟩ => by
          have := hlost j
          rw [hL, getB_z24, getB_mapN, h] at this
          simp [hj] at this
        refine walk61 (top := top) (SET := _) (LOST := _) (NEAR := NEAR) (REST := REST) (INNER := INNER) (FAR := []) (REST2 := []) (INNER2 := []) ho.one hr hn.one ho.free hn.free (by omega) (by omega) (by omega) hrl huniq
          (fun h => by omega) rfl rfl rfl hRl hIl
          (fun _ => h48a) (fun _ => h69a) (fun _ => h61a) (fun _ _ => ?_) (fun _ h => absurd h hno) (fun _ h => absurd h hno) (fun _ h => absurd h hno) (fun _ h => absurd h hno) (fun _ h => absurd h hno) (fun _ => hp)
        unfold outL
        refine List.map_congr_left fun i hi => ?_
        rw [← he]
        unfold asB
        rcases hp with e | e
        · rw [e, if_pos rfl]
          cases getB inn i <;> simp
        · rw [e, if_neg (by omega), getB_wo ha.len ha.len]
          cases getB inn i <;> simp
      · rw [if_neg hL]
        obtain ⟨hq, hq1⟩ := ne_z hll hL
        have hyes : ∃ j : Nat, j < n ∧ (getB REST j && (getB INNER j == decide (top.tmod 2 = 0))) = true := by
          have := hlost hq
          rw [hq1, getB_mapN] at this
          by_cases hj : hq < n
          · exact ⟨hq, hj, by simpa [hj] using this.symm⟩
          · simp [hj] at this
        have q1 : (1 - top.tmod 2 = 0 ∨ 1 - top.tmod 2 = 1) := by omega
        obtain ⟨a3, m3⟩ := runN_attr (g := g) (p := 1 - top.tmod 2) ha.len 26 L24 Z2.2 hll m2 (by have := cf_le L24; omega)
        have e3 := runG_eq hg hnn ha hrl he (p := 1 - top.tmod 2) 26 L24 (ini ((List.range n).map fun (j : Nat) => getB REST j && (getB INNER j == decide (top.tmod 2 = 0))) reg n n) Z2.2 hll (ini_len _ _ _ _) (fun i => by
          rw [getB_ini, ← hlost]
          by_cases hi : i < n
          · cases hb : getB L24 i
            · simp
            · have := hlsub i hb
              rw [he] at this
              simp [hi, this]
          · have : getB L24 i = false := Bool.eq_false_iff.2 fun e => hi (hlt i (hlsub i e))
            simp [this])
        have nl3 := runR_len (g := g) (reg := reg) (p := 1 - top.tmod 2) 26 _ (ini_len ((List.range n).map fun (j : Nat) => getB REST j && (getB INNER j == decide (top.tmod 2 = 0))) reg n n)
        have h48b := fun args H e => h48 (set := (List.range n).map fun (j : Nat) => getB REST j && (getB INNER j == decide (top.tmod 2 = 0))) (p := 1 - top.tmod 2) args H e (by simp)
        have c3 : ct (woB inn (runN g inn (1 - top.tmod 2) 26 L24 Z2.2).1) < ct inn := ct_wo ha.len a3.len (hlsub hq hq1) (a3.sub hq hq1)
        generalize runN g inn (1 - top.tmod 2) 26 L24 Z2.2 = N3 at *
        generalize runR g reg (1 - top.tmod 2) 26 (ini ((List.range n).map fun (j : Nat) => getB REST j && (getB INNER j == decide (top.tmod 2 = 0))) reg n n) = FAR at *
        have ar3 := area_wo ha a3
        have hwo3 := getB_wo ha.len a3.len
        have hrest3 : ∀ i : Nat, getB (woB inn N3.1) i = getB ((List.range n).map fun (j : Nat) => getB reg j && !getB FAR j) i := fun i => by
          rw [hwo3, getB_mapN, he, e3]
          by_cases hi : i < n
          · simp [hi]
          · simp [hout i hi]
        obtain ⟨l4, m4, s4⟩ := zsol_sub hg k _ _ ar3 m3
        have h69b := h69 reg FAR hrl nl3
        have h61b := IH _ _ N3.2 ar3 m3 (by simp) hrest3 (by omega)
        have hlt3 : ∀ i : Nat, getB (woB inn N3.1) i = true → i < n := fun i h => by have := ar3.lt i h; omega
        generalize hREST2 : (List.range n).map (fun (j : Nat) => getB reg j && !getB FAR j) = REST2 at *
        generalize zsol g k (woB inn N3.1) N3.2 = Z3 at *
        have hI3 := getB_outL (z := Z3.1) hlt3
        have hIl3 := outL_len n (woB inn N3.1) Z3.1
        generalize outL n (woB inn N3.1) Z3.1 = INNER2 at *
        refine walk61 (top := top) (SET := _) (LOST := _) (NEAR := NEAR) (REST := REST) (INNER := INNER) (FAR := FAR) (REST2 := REST2) (INNER2 := INNER2) ho.one hr hn.one ho.free hn.free (by omega) (by omega) (by omega) hrl huniq
          (fun h => by omega) rfl rfl rfl hRl hIl
          (fun _ => h48a) (fun _ => h69a) (fun _ => h61a) (fun _ h => absurd hyes h) (fun _ _ => h48b) (fun _ _ => h69b) (fun _ _ => h61b) (fun _ _ => ⟨nl3, hIl3⟩) (fun _ _ => ?_) (fun _ => hp)
        unfold outL
        refine List.map_congr_left fun i hi => ?_
        have hl3 := wo_len (b := N3.1) ha.len
        have hsub := s4 i
        rw [hI3, ← he, ← e3]
        unfold asB
        rcases hp with e | e
        · rw [e, if_pos rfl, if_pos rfl, hwo3]
          rw [hwo3] at hsub
          cases ha1 : getB inn i
          · simp
          · cases hb1 : getB N3.1 i
            · cases getB Z3.1 i <;> simp
            · cases hc1 : getB Z3.1 i
              · simp
              · have := hsub hc1
                rw [ha1, hb1] at this; simp at this
        · rw [e, if_neg (by omega), if_neg (by omega), getB_wo ha.len (wo_len hl3), getB_wo hl3 l4, hwo3]
          rw [hwo3] at hsub
          cases ha1 : getB inn i
          · simp
          · cases hb1 : getB N3.1 i
            · cases getB Z3.1 i <;> simp
            · cases hc1 : getB Z3.1 i
              · simp
              · have := hsub hc1
                rw [ha1, hb1] at this; simp at this
end Go.AM.Pa
