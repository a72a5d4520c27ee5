/- A part of the proof: T23. -/
import Derived.Test.YtdgkchedoooffaaT22
set_option linter.unusedVariables false
set_option linter.unusedSimpArgs false
set_option linter.unusedSectionVars false
namespace Go.AM.Tb
set_option maxHeartbeats 4000000
def G56 (c : Nat) (r : R) : Prop := ∃ es', r = some (.int .i64 (c : Int), [some (.map (mG es'))]) ∧ Knows es'
theorem gcM1 {m : List (AV × AV)} {k : List AV} {x : AV} {a b c : Int} (fx : x.idFree = true) : gc 1 [.mp 0, x, .ptr 1 0, .int .i64 a, .int .i64 b, .int .i64 c] [some (.map m), some (.data k)] = some ([.mp 0, x, .ptr 1 0, .int .i64 a, .int .i64 b, .int .i64 c], [some (.map m), some (.data k)]) := by
  simp [gc, subHeap, reach_mp, reach_newp, reach_int, reach_skip fx, reach_end, rangeL, roots, boxCells, nodupB, posOf, renL, AV.ren, ren_self fx, pickO, renH, renO]
theorem gcM2 {m : List (AV × AV)} {k : List AV} {a : Int} : gc 1 [.mp 0, .ptr 1 0, .int .i64 a] [some (.map m), some (.data k)] = some ([.mp 0, .ptr 1 0, .int .i64 a], [some (.map m), some (.data k)]) := by
  simp [gc, subHeap, reach_mp, reach_newp, reach_int, reach_end, rangeL, roots, boxCells, nodupB, posOf, renL, AV.ren, pickO, renH, renO]
theorem fin56 {c : Nat} {s1 : Nat} {env : Env} {es : List (List Int × Int)} {X : Heap} (h1 : look env s1 = .int .i64 (c : Int)) (hk : Knows es) : G56 c (finish 1 [.t s1] env (some (.map (mG es)) :: X)) := by
  refine ⟨es, ?_, hk⟩
  simp only [finish, ress, resOf, h1, tupOf, Option.bind_some, Option.map_some]
  have : gc 1 [.int .i64 (c : Int)] (some (.map (mG es)) :: X) = some ([.int .i64 (c : Int)], [some (.map (mG es))]) := by
    simp [gc, subHeap, reach_int, reach_end, rangeL, roots, boxCells, nodupB, posOf, renL, AV.ren, pickO, renH, renO]
  rw [this]
  rfl
theorem f56 : ∀ (n : Nat) {x : AV} {s : List Int} {es : List (List Int × Int)}, siz s = n → IsL x s → IsSh s → siz s ≤ 30 → Knows es → ∀ {m : Nat}, 100 + n ≤ m → G56 (cntS s) (evF tab it m 56 [.mp 0, x] [some (.map (mG es))]) := by
  intro n
  induction n with
  | zero =>
    intro x s es hn hx hsh h30 hk m hm
    obtain ⟨m, rfl⟩ : ∃ j, m = j + 1 := ⟨m - 1, by omega⟩
    have hs : s = [] := Classical.byContradiction fun h0 => by have := siz_pos hsh h0; omega
    subst hs
    have fx := hx.free
    have hl : ([] : List Int).length = 0 := rfl
    have hlen : ∀ H, evP H .len [x] = some (.int .i64 0) := fun H => p_len hx
    refine via_enter rfl rfl ?_
    generalize evF tab it m = call at *
    refine via (res := ?r0) ?w0 ?g0
    case w0 =>
      repeat' first
 | (apply s_mov; exact aW)
 | (apply c_nil)
 | (apply s_eql; exact rfl; all_goals (intro _; try (exfalso; omega)))
 | (apply s_pn; exact aO; exact hlen _)
 | (apply c_seq)
 | (apply c_reg)
 | (apply c_ret)
 | (apply c_condT; exact rfl)
 | (with_reducible apply k_c)
      exact rfl
    exact fin56 rfl hk
  | succ n ih =>
    intro x s es hn hx hsh h30 hk m hm
    obtain ⟨m, rfl⟩ : ∃ j, m = j + 1 := ⟨m - 1, by omega⟩
    have fx := hx.free
    have h0 : s ≠ [] := fun e => by subst e; simp [siz, sN] at hn
    have hls := len_siz hsh
    have hkl := keyL_len (l := s) (by omega)
    have hll : s.length ≠ 0 := fun e => h0 (List.length_eq_zero_iff.1 e)
    have e77 := fun H => c77 hx h0 (by omega) (m := m) (by omega) H
    have e57 := fun {j : Nat} (hj : j < s.length) => c57 hx hsh (by omega) (fun i hi => by have := getI_le hsh h30 i hi; omega) hj (m := m) (by omega)
    have eih := fun {x : AV} {t : List Int} {es : List (List Int × Int)} h1 (h2 : IsL x t) h3 h4 (h5 : Knows es) => ih h1 h2 h3 h4 h5 (m := m) (by omega)
    have hcl := cnt_le hsh h30
    have al : ∀ call, evE call [some (HO.map (mG es))] (.alloc true (List.replicate 30 (.int .i64 0))) [] = some (.ptr 1 0, [some (.map (mG es)), some (.data (iL (List.replicate 30 0)))]) := fun call => rfl
    have st : ∀ call, evE call [some (HO.map (mG es)), some (.data (iL (List.replicate 30 0)))] (.st 30) [.ptr 1 0, .agg (iL (keyL s))] = some (.undef, [some (.map (mG es)), some (.data (iL (keyL s)))]) := fun call => by
      have hz : (iL (List.replicate 30 0)).length = 30 := by rw [iL_len, List.length_replicate]
      have hk : (iL (keyL s)).length = 30 := by rw [iL_len, hkl]
      have ho : oneL (iL (keyL s)) = true := iL_one _
      have hf : idFreeL (iL (keyL s)) = true := iL_free _
      generalize iL (List.replicate 30 0) = z at *
      generalize iL (keyL s) = k at *
      simp [evE, stAt, AV.cells, hz, hk, ho, hf, putRow]
    have pk : ∀ m', evP [some (HO.map m'), some (.data (iL (keyL s)))] (.ld true 30) [.ptr 1 0] = some (.agg (iL (keyL s))) := fun m' => by
      have hk : (iL (keyL s)).length = 30 := by rw [iL_len, hkl]
      generalize iL (keyL s) = k at *
      simp [evP, ldc, getRow, Heap.cells?, HO.cells?, hk, wholeOf]
      rw [List.take_of_length_le (by omega)]
    have lk : ∀ call, evE call [some (HO.map (mG es)), some (.data (iL (keyL s)))] (.lkM ks30 true (.int .i64 0)) [.mp 0, .agg (iL (keyL s))] = some (.tup [.int .i64 ((findG (keyL s) es).getD 0), .bool (findG (keyL s) es).isSome], [some (HO.map (mG es)), some (.data (iL (keyL s)))]) := fun call => e_lkG rfl hkl hk.1
    refine via_enter rfl rfl ?_
    generalize evF tab it m = call at *
    cases hfd : findG (keyL s) es with
    | some v =>
      have hv := hk.2 s hsh h0 h30 v hfd
      subst hv
      rw [hfd] at lk
      refine via (res := ?r1) ?w1 ?g1
      case w1 =>
        repeat' first
 | (apply s_mov; exact aW)
 | (apply c_nil)
 | (apply s_eql; exact rfl; all_goals (intro _; try (exfalso; omega)))
 | (apply s_cn; exact aO; exact e77 _)
 | (apply s_en; exact aO; exact al _)
 | (apply s_st; exact aO; exact st _)
 | (apply s_pn; exact aO; exact pk _)
 | (apply s_en; exact aO; exact lk _)
 | (apply s_len; exact aW; exact aI)
 | (apply s_pd; exact aW)
 | (apply c_seq)
 | (apply c_reg)
 | (apply c_skip)
 | (apply c_ret)
 | (apply c_condT; exact rfl)
 | (apply c_condF; exact rfl)
 | (with_reducible apply k_c)
        exact rfl
      exact fin56 rfl hk
    | none =>
      rw [hfd] at lk
      refine via (res := ?r2) ?w2 ?g2
      case w2 =>
        repeat' first
 | (apply s_mov; exact aW)
 | (apply c_nil)
 | (apply s_eql; exact rfl; all_goals (intro _; try (exfalso; omega)))
 | (apply s_cn; exact aO; exact e77 _)
 | (apply s_en; exact aO; exact al _)
 | (apply s_st; exact aO; exact st _)
 | (apply s_pn; exact aO; exact pk _)
 | (apply s_en; exact aO; exact lk _)
 | (apply s_len; exact aW; exact aI)
 | (apply s_pd; exact aW)
 | (apply c_seq)
 | (apply c_reg)
 | (apply c_block)
 | (apply c_skip)
 | (apply c_condF; exact rfl)
 | (with_reducible apply k_c)
        exact c_end
      generalize hG : G56 (cntS s) = G
      refine loop_P (G := G) (σ := Nat × List (List Int × Int)) (fun q => [.mp 0, x, .ptr 1 0, .int .i64 ((sN q.1 (fun j => if crn s j then cntS (lessL s j) else 0) : Nat) : Int), .int .i64 s.length, .int .i64 (q.1 : Int)]) (fun q => [some (.map (mG q.2)), some (.data (iL (keyL s)))])
        (fun q => q.1 ≤ s.length ∧ Knows q.2) (fun q => s.length - q.1) ?_ _ (0, es) _ _ ⟨by omega, hk⟩ (by dsimp only; omega) (gcM1 fx)
      rintro ⟨j, es⟩ ⟨hj, hk⟩ K hKK
      dsimp only at hj hk hKK ⊢
      have hS := sN_mono (f := fun j => if crn s j then cntS (lessL s j) else 0) hj
      rw [← cntS_eq hsh h0] at hS
      by_cases hjs : j < s.length
      · obtain ⟨v, hv, ec⟩ := e57 hjs
        have hsucc : sN (j + 1) (fun j => if crn s j then cntS (lessL s j) else 0) = sN j (fun j => if crn s j then cntS (lessL s j) else 0) + (if crn s j then cntS (lessL s j) else 0) := rfl
        have hS' := sN_mono (f := fun j => if crn s j then cntS (lessL s j) else 0) (show j + 1 ≤ s.length by omega)
        rw [← cntS_eq hsh h0] at hS'
        have hK' := fun es' => hKK (j + 1, es')
        dsimp only at hK'
        rw [hsucc] at hK' hS'
        clear hKK hsucc
        have fv := hv.free
        by_cases hc : crn s j = true
        · simp only [hc, if_true] at ec hK' hS'
          generalize sN j (fun j => if crn s j then cntS (lessL s j) else 0) = a at *
          obtain ⟨es', g1, g2⟩ := eih (es := es) (by have := less_siz hsh hjs hc; omega) hv (less_sh hsh hjs hc) (by have := less_siz hsh hjs hc; omega) hk
          have em : evE call [some (HO.map (mG es)), some (.data (iL (keyL s)))] (.call false true 56) [.mp 0, v] = some (.int .i64 (cntS (lessL s j) : Int), [some (HO.map (mG es')), some (.data (iL (keyL s)))]) := callMut_mp rfl fv g1
          have hadd : ((a + cntS (lessL s j) : Nat) : Int) = (a : Int) + cntS (lessL s j) := by omega
          rw [hadd] at hK'
          refine via (res := ?r3) ?w3 ?g3
          case w3 =>
            repeat' first
 | (apply s_mov; exact aW)
 | (apply c_nil)
 | (apply s_lss; exact rfl; all_goals (intro _; try (exfalso; omega)))
 | (apply s_add; exact rfl; omega)
 | (apply s_cn; exact aO; exact ec _)
 | (apply s_en; exact aO; exact em)
 | (apply s_pd; exact aW)
 | (apply c_seq)
 | (apply c_reg)
 | (apply c_block)
 | (apply c_skip)
 | (apply c_condT; exact rfl)
 | (with_reducible apply k_c)
            exact rfl
          exact hK' es' _ _ ⟨by omega, g2⟩ (by omega) (gcM1 fx)
        · simp only [hc, Bool.false_eq_true, if_false, Nat.add_zero] at ec hK' hS'
          generalize sN j (fun j => if crn s j then cntS (lessL s j) else 0) = a at *
          refine via (res := ?r4) ?w4 ?g4
          case w4 =>
            repeat' first
 | (apply s_mov; exact aW)
 | (apply c_nil)
 | (apply s_lss; exact rfl; all_goals (intro _; try (exfalso; omega)))
 | (apply s_add; exact rfl; omega)
 | (apply s_cn; exact aO; exact ec _)
 | (apply s_pd; exact aW)
 | (apply c_seq)
 | (apply c_reg)
 | (apply c_block)
 | (apply c_skip)
 | (apply c_condT; exact rfl)
 | (apply c_condF; exact rfl)
 | (with_reducible apply k_c)
            exact rfl
          exact hK' es _ _ ⟨by omega, hk⟩ (by omega) (gcM1 fx)
      · obtain rfl : j = s.length := by omega
        have hcn : sN s.length (fun j => if crn s j then cntS (lessL s j) else 0) = cntS s := (cntS_eq hsh h0).symm
        rw [hcn]
        have up : ∀ call, evE call [some (HO.map (mG es)), some (.data (iL (keyL s)))] (.upM ks30) [.mp 0, .agg (iL (keyL s)), .int .i64 (cntS s : Int)] = some (.undef, [some (HO.map (mG (putG (keyL s) (cntS s : Int) es))), some (.data (iL (keyL s)))]) := fun call => e_upG rfl hkl hk.1
        refine via (res := ?r5) ?w5 ?g5
        case w5 =>
          repeat' first
 | (apply s_mov; exact aW)
 | (apply c_nil)
 | (apply s_lss; exact rfl; all_goals (intro _; try (exfalso; omega)))
 | (apply c_pre; exact gcM2)
 | (apply s_pn; exact aO; exact pk _)
 | (apply s_st; exact aO; exact up _)
 | (apply c_seq)
 | (apply c_reg)
 | (apply c_exitH)
 | (apply c_ret)
 | (apply c_condF; exact rfl)
 | (with_reducible apply k_c)
          exact rfl
        rw [← hG]
        exact fin56 rfl (knows_put hk hsh h30)
end Go.AM.Tb
