/- A part of the proof: T9. -/
import Derived.Test.YtdgkchedoooffaaT8
set_option linter.unusedVariables false
set_option linter.unusedSimpArgs false
set_option linter.unusedSectionVars false
namespace Go.AM.Tb
set_option maxHeartbeats 4000000
theorem gcX2 {H : Heap} {P : List (List Int)} {x : Int} {b : Nat} (h : LB H 0 (List.range' 1 P.length) P) (hb : H[b]? = some (some (.data [.int .i64 x]))) (hbn : P.length < b) (hk : P.length ≤ 100) :
    gc (P.length + 1) [.sl 0 1 0 P.length, .ptr b 0] H = some ([.sl 0 1 0 P.length, .ptr (P.length + 1) 0], HX P x) := by
  have hnm : b ∉ (0 :: List.range' 1 P.length) := by simp [List.mem_range'_1]; omega
  have hnd : ((0 :: List.range' 1 P.length) ++ [b]).Nodup := List.nodup_append.2 ⟨h.nd, by simp, fun z hz y hy e => by simp at hy; subst hy; subst e; exact hnm hz⟩
  have hφ := nodupB_iff.2 hnd
  have q1 : posOf ((0 :: List.range' 1 P.length) ++ [b]) 0 = some 0 := posOf_of_get hφ (j := 0) rfl
  have q2 : posOf ((0 :: List.range' 1 P.length) ++ [b]) b = some (P.length + 1) := posOf_of_get hφ (j := P.length + 1) (by
    rw [List.getElem?_append_right (by simp)]; simp)
  have pr : renL (posOf ((0 :: List.range' 1 P.length) ++ [b])) (refs (List.range' 1 P.length) (P.map iL)) = some (refs (List.range' 1 (List.range' 1 P.length).length) (P.map iL)) := renL_refs hφ _ _ 1 h.lnm fun j i hj => by
    have hjl := (List.getElem?_eq_some_iff.1 hj).1
    rw [List.getElem?_append_left (by simp at hjl ⊢; omega), Nat.add_comm]; exact hj
  have hp := h.pick
  refine gc_of (φ := (0 :: List.range' 1 P.length) ++ [b]) ?_ hφ ?_ (Hp := (some (.box (refs (List.range' 1 P.length) (P.map iL))) :: rowsH (P.map iL)) ++ [some (.data [.int .i64 x])]) ?_ ?_
  · rw [roots_lb h, rangeL_cons]
    have hin : (0 :: List.range' 1 P.length).contains 0 = true := by simp
    have hnb : (0 :: List.range' 1 P.length).contains b = false := by simpa using hnm
    have hbc : boxCells H b = [] := by simp [boxCells, hb]
    have hl : (List.range' 1 P.length).length = P.length := by simp
    rw [show (400 : Nat) = (400 - P.length) + (List.range' 1 P.length).length by rw [hl]; omega, reach_in _ _ _ _ _ h.lnm (fun i hi => by simp [hi])]
    rw [show 400 - P.length = (398 - P.length) + 1 + 1 by omega, reach_new, if_pos hin, reach_newp, hnb, hbc]
    simp only [Bool.false_eq_true, if_false, List.nil_append]
    rw [reach_end]
  · simp only [renL, AV.ren, q1, q2, Option.map_some, Option.bind_some]
  · rw [pickO_append, hp]; simp [pickO, hb]
  · rw [renH_append]
    rw [List.cons_append] at pr
    simp only [renH, renO, pr, renH_rows, HBs, HX, List.length_range', Option.map_some, Option.bind_some, Nat.zero_add, List.cons_append]
section
variable {call : CallF} {it : IterF} {n k : Nat} {X : Nat → KT} {K Rt : KT} {env : Env} {H : Heap} {res : R} {c : AC} {G : R → Prop}
theorem via (h : RC call it n c k K X Rt env H res) (g : G res) : G (evC call it n c k K X Rt env H) := by rw [h.eq]; exact g
theorem c_end : RC call it n c k K X Rt env H (evC call it n c k K X Rt env H) := ⟨rfl⟩
theorem via_enter {tab : Nat → Option AFunc} {m f : Nat} {np : Nat} {body : AC} {rs : List ARes} {args : List AV} (ht : tab f = some ⟨np, body, rs⟩) (hl : Nat.beq args.length np = true)
    (g : G (evC (evF tab it m) it m body H.length (finish H.length rs) (fun _ _ _ => none) (finish H.length rs) (envOf 0 args) H)) : G (evF tab it (m + 1) f args H) := by
  rw [f_enterH ht hl c_end]; exact g
theorem loop_P {live : List Nat} {σ : Type} (vals : σ → List AV) (heap : σ → Heap) (P : σ → Prop) (μ : σ → Nat)
    (step : ∀ s, P s → ∀ K : KT, (∀ s' env' H', P s' → μ s' < μ s → gc k (looks env' live) H' = some (vals s', heap s') → G (K env' H')) → G (evC call it n c k K X Rt (bindEnv live 0 (vals s)) (heap s))) :
    ∀ fuel s env H, P s → μ s < fuel → gc k (looks env live) H = some (vals s, heap s) → G (loopIt fuel (fun K => evC call it n (.pre live c) k K X Rt) env H)
  | 0, s, env, H, _, h, _ => by omega
  | fuel + 1, s, env, H, hp, hm, hg => by
    simp only [loopIt]
    rw [raw_c_pre hg rfl]
    exact step s hp _ fun s' env' H' hp' hm' hg' => loop_P vals heap P μ step fuel s' env' H' hp' (by omega) hg'
end
theorem fgt_lo {x : Int} : ∀ (r : List Int) (i : Nat), i < fgt x r → getI r (i : Int) ≤ x
  | [], i, h => by simp [fgt] at h
  | a :: r, i, h => by
    simp only [fgt] at h
    split at h
    · omega
    · rw [getI_nat]
      cases i with
      | zero => simp; omega
      | succ i => have := fgt_lo (x := x) r i (by omega); rw [getI_nat] at this; simpa using this
theorem fgt_hi {x : Int} : ∀ (r : List Int) (i : Nat), Srt r → fgt x r ≤ i → i < r.length → x < getI r (i : Int)
  | [], i, _, _, h => by simp at h
  | a :: r, i, hs, h, hi => by
    unfold Srt at hs
    rw [List.pairwise_cons] at hs
    simp only [fgt] at h
    rw [getI_nat]
    split at h
    · cases i with
      | zero => simpa
      | succ i =>
        simp only [List.length_cons] at hi
        have := hs.1 r[i] (List.getElem_mem _)
        simp [List.getD, show i < r.length by omega]; omega
    · cases i with
      | zero => omega
      | succ i =>
        simp only [List.length_cons] at hi
        have := fgt_hi (x := x) r i hs.2 (by omega) (by omega)
        rw [getI_nat] at this
        simpa using this
theorem getLL_get {P : List (List Int)} {k : Nat} (h : k < P.length) : getLL P (k : Int) = P[k] := by rw [getLL_nat]; simp [List.getD, h]
theorem ins_more {P : List (List Int)} {k : Nat} {x : Int} (hk : k < P.length) (hf : fgt x (getLL P (k : Int)) < (getLL P (k : Int)).length) :
    P.take k ++ insT (P.drop k) x = (P.set k ((getLL P (k : Int)).set (fgt x (getLL P (k : Int))) x)).take (k + 1) ++ insT ((P.set k ((getLL P (k : Int)).set (fgt x (getLL P (k : Int))) x)).drop (k + 1)) (getI (getLL P (k : Int)) (fgt x (getLL P (k : Int)) : Nat)) ∧
    insK (P.drop k) x = 1 + insK ((P.set k ((getLL P (k : Int)).set (fgt x (getLL P (k : Int))) x)).drop (k + 1)) (getI (getLL P (k : Int)) (fgt x (getLL P (k : Int)) : Nat)) := by
  rw [getLL_get hk] at hf ⊢
  have e : P.drop k = P[k] :: P.drop (k + 1) := List.drop_eq_getElem_cons hk
  rw [e]
  simp only [insT, insK, if_pos hf, getI_nat]
  rw [List.drop_set_of_lt (by omega), List.take_set, List.take_succ_eq_append_getElem hk]
  have hl : (P.take k).length = k := by rw [List.length_take]; omega
  refine ⟨?_, by omega⟩
  rw [List.set_append_right _ _ (by omega), hl]
  simp
theorem ins_stop {P : List (List Int)} {k : Nat} {x : Int} (hk : k < P.length) (hf : ¬ fgt x (getLL P (k : Int)) < (getLL P (k : Int)).length) :
    P.take k ++ insT (P.drop k) x = P.set k (getLL P (k : Int) ++ [x]) ∧ insK (P.drop k) x = 0 := by
  rw [getLL_get hk] at hf ⊢
  have e : P.drop k = P[k] :: P.drop (k + 1) := List.drop_eq_getElem_cons hk
  rw [e]
  simp only [insT, insK, if_neg hf]
  exact ⟨by rw [List.set_eq_take_append_cons_drop, if_pos hk], trivial⟩
theorem ins_len : ∀ (P : List (List Int)) (x : Int), (insT P x).length = P.length + (if insK P x = P.length then 1 else 0) ∧ insK P x ≤ P.length
  | [], x => by simp [insT, insK]
  | r :: R, x => by
    simp only [insT, insK]
    split
    · rename_i h
      have := ins_len R (r.getD (fgt x r) 0)
      simp only [List.length_cons]
      split at this <;> split <;> omega
    · simp
theorem c94 {l : List Int} {v : AV} {x : Int} (hl : IsL v l) {m : Nat} (hm : 1 ≤ m) (i : Nat) (H : Heap) (h : i < l.length) : callPure (evF tab it m) true 94 [.int .i64 (i : Int), .rp [v], .rp [.int .i64 x]] H = some (.bool (decide (x < getI l i)), H) :=
  callPure_free (by simp [idFreeL, AV.idFree]) (by simp) (f94 hl h hm) rfl
theorem c91i {l : List Int} {v : AV} {x : Int} (hv : IsL v l) (hs : Srt l) (hl : l.length ≤ 1000) {m : Nat} (hm : 1011 ≤ m) {args : List AV} {H : Heap} (ha : frzL H 140 args = some [.int .i64 (l.length : Int), .fn 94 [.rp [v], .rp [.int .i64 x]]]) :
    callPure (evF tab it m) true 91 args H = some (.int .i64 (fgt x l : Int), H) := by
  obtain ⟨m, rfl⟩ : ∃ j, m = j + 1 := ⟨m - 1, by omega⟩
  exact c91 (cap := [.rp [v], .rp [.int .i64 x]]) (g := 94) (n := l.length) (Q := fun i => decide (x < getI l i)) (s := fgt x l) hl (by simp [idFreeL, AV.idFree]) (fgt_le x l) (fun i h => by simpa using fgt_lo l i h) (fun i h1 h2 => by simpa using fgt_hi l i hs h1 h2) (by omega) (fun i H hi => c94 hv (by omega) i H hi) ha
def G75 (n : Nat) (T : List (List Int)) (K : Nat) (r : R) : Prop := ∃ a' is' R, r = some (.tup [.sl a' 1 0 T.length, .int .i64 (K : Int)], R) ∧ LB R a' is' T ∧ PL R a' ∧ n + 1 ≤ R.length
theorem growH_len {H : Heap} {a : Nat} {is : List Nat} {P : List (List Int)} {j i : Nat} {x : Int} : (growH H a is P j i x).length = H.length + 1 := by simp [growH]
theorem fin75 {n : Nat} {H : Heap} {a : Nat} {is : List Nat} {T : List (List Int)} {K : Nat} {env : Env} {s1 s2 : Nat} {φ : List Nat} (h1 : look env s1 = .sl a 1 0 T.length) (h2 : look env s2 = .int .i64 (K : Int))
    (hr : reach H 400 (rangeL (n + 1) []) (roots H (rangeL (n + 1) []) ++ [.tup [.sl a 1 0 T.length, .int .i64 (K : Int)]]) = φ) (hn : φ.Nodup) (hlt : ∀ i ∈ φ, i < H.length) (h : LB H a is T) (hsub : ∀ i ∈ a :: is, i ∈ φ)
    (hpl : ∀ i ∈ φ, i ≠ a → ∀ o, H[i]? = some o → o = none ∨ ∃ c, o = some (.data c)) (hl : n + 1 ≤ φ.length) : G75 n T K (finish (n + 1) [.t s1, .t s2] env H) := by
  obtain ⟨R, a', is', e, g1, g2, g3⟩ := fin_lb hr hn hlt h hsub hpl
  refine ⟨a', is', R, ?_, g1, g2, by omega⟩
  simp only [finish, ress, resOf, h1, h2, tupOf, Option.bind_some, Option.map_some, e]
  rfl
theorem reach_refs1 {H : Heap} {is : List Nat} {ll : List (List AV)} {f b : Nat} {acc : List Nat} {r : List AV} {k : Nat} (hl : is.length = ll.length) (hk : is[k]? = some b) (ho : ∀ j i : Nat, j ≠ k → is[j]? = some i → i ∈ acc) (hb : b ∉ acc) (hc : boxCells H b = []) :
    reach H (f + is.length) acc (refs is ll ++ r) = reach H f (acc ++ [b]) r := by
  obtain ⟨hkl, hkb⟩ := List.getElem?_eq_some_iff.1 hk
  have e1 : is = is.take k ++ b :: is.drop (k + 1) := by rw [← hkb]; simp
  have hkll : k < ll.length := by omega
  have e2 : ll = ll.take k ++ ll[k] :: ll.drop (k + 1) := by simp
  have h1 : (is.take k).length = (ll.take k).length := by simp [hl]
  have h2 : (is.drop (k + 1)).length = (ll.drop (k + 1)).length := by simp [hl]
  have e3 : refs is ll = refs (is.take k) (ll.take k) ++ .sl b 1 0 ll[k].length :: refs (is.drop (k + 1)) (ll.drop (k + 1)) := by
    conv => lhs; rw [e1, e2]
    rw [refs_append h1]
    rfl
  have hlen : f + is.length = (f + (is.drop (k + 1)).length + 1) + (is.take k).length := by simp; omega
  rw [e3, List.append_assoc, hlen, reach_in _ _ _ _ _ h1 fun i hi => ?_, List.cons_append, reach_new, if_neg (by simpa using hb), hc, List.nil_append, reach_in _ _ _ _ _ h2 fun i hi => ?_]
  · obtain ⟨j, hj, rfl⟩ := List.mem_iff_getElem.1 hi
    simp only [List.length_drop] at hj
    have : is[k + 1 + j]? = some (is.drop (k + 1))[j] := by simp
    have := ho (k + 1 + j) _ (by omega) this
    simp at this ⊢
    exact .inl this
  · obtain ⟨j, hj, rfl⟩ := List.mem_iff_getElem.1 hi
    simp only [List.length_take] at hj
    have : is[j]? = some (is.take k)[j] := by simp [show j < is.length by omega]
    exact ho j _ (by omega) this
theorem f75 {P0 : List (List Int)} {x0 : Int} (hn : P0.length ≤ 90) (hs : ∀ r ∈ P0, Srt r ∧ r.length ≤ 90) {m : Nat} (hm : 2000 ≤ m) : G75 P0.length (insT P0 x0) (insK P0 x0) (evF tab it m 75 [.sl 0 1 0 P0.length, .int .i64 x0] (HB P0)) := by
  obtain ⟨m, rfl⟩ : ∃ j, m = j + 1 := ⟨m - 1, by omega⟩
  obtain ⟨q, rfl⟩ : ∃ j, m = j + 1 := ⟨m - 1, by omega⟩
  have b0 : ∀ call, evE call (HB P0) (.box true) [.int .i64 x0] = some (.ptr (P0.length + 1) 0, HX P0 x0) := fun call => by
    simp [evE, mkHO, idFreeL, AV.idFree, AV.cells, oneL, AV.one, hbs_len, HX]
  have e91 := fun {l : List Int} {v : AV} {x : Int} {args : List AV} {H : Heap} (hv : IsL v l) (h1 : Srt l) (hl : l.length ≤ 90) => c91i (x := x) (args := args) (H := H) hv h1 (by omega) (m := q + 1) (by omega)
  refine via_enter rfl rfl ?_
  rw [hbs_len]
  generalize evF tab it (q + 1) = call at *
  refine via (res := ?r0) ?w0 ?g0
  case w0 =>
    repeat' first
 | (apply s_mov; exact aW)
 | (apply c_nil)
 | (apply s_en; exact aO; exact b0 _)
 | (apply s_lenSl; exact rfl)
 | (apply c_seq)
 | (apply c_reg)
 | (apply c_block)
 | (with_reducible apply k_c)
    exact c_end
  generalize hG : G75 P0.length (insT P0 x0) (insK P0 x0) = G
  refine loop_P (G := G) (σ := Nat × List (List Int) × Int) (fun s => [.sl 0 1 0 s.2.1.length, .ptr (s.2.1.length + 1) 0, .sl 0 1 0 s.2.1.length, .int .i64 s.2.1.length, .int .i64 s.1]) (fun s => HX s.2.1 s.2.2)
    (fun s => s.1 ≤ s.2.1.length ∧ s.2.1.length = P0.length ∧ (∀ r ∈ s.2.1, Srt r ∧ r.length ≤ 90) ∧ s.2.1.take s.1 ++ insT (s.2.1.drop s.1) s.2.2 = insT P0 x0 ∧ s.1 + insK (s.2.1.drop s.1) s.2.2 = insK P0 x0) (fun s => s.2.1.length - s.1) ?_ _ (0, P0, x0) _ _ ⟨by omega, rfl, hs, by simp, by simp⟩ (by dsimp only; omega) ?_
  rotate_left
  · dsimp only
    exact gcX (hx_lb P0 x0) (hx_x P0 x0) (by omega) (by omega)
  rintro ⟨k, P, x⟩ ⟨hk, hPl, hrs, hT, hK⟩ K hKK
  dsimp only at hk hPl hrs hT hK hKK ⊢
  by_cases hkP : k < P.length
  · obtain ⟨hsr, hrl⟩ := hrs (getLL P (k : Int)) (by rw [getLL_get hkP]; exact List.getElem_mem _)
    have hidx : (List.range' 1 P.length)[k]? = some (1 + k) := rngn hkP
    have p1 : evP (HX P x) (.ld false 1) [.ptr 0 (0 + ((k : Nat) : Int).toNat * 1)] = some (.sl (1 + k) 1 0 (getLL P (k : Int)).length) := by
      have := (hx_lb P x).ld hidx
      simpa using this
    have b1 : ∀ call, evE call (HX P x) (.alloc false [.nilS]) [] = some (.ptr (P.length + 2) 0, HX P x ++ [some (.box [.nilS])]) := fun call => by
      simp [evE, mkHO, hx_len]
    have b2 : ∀ call, evE call (HX P x ++ [some (.box [.nilS])]) (.st 1) [.ptr (P.length + 2) 0, .sl (1 + k) 1 0 (getLL P (k : Int)).length] = some (.undef, HX P x ++ [some (.box [.sl (1 + k) 1 0 (getLL P (k : Int)).length])]) := fun call => by
      have := e_stX (call := call) (H := HX P x ++ [some (.box [.nilS])]) (a := P.length + 2) (j := 0) (cs := [.nilS]) (v := .sl (1 + k) 1 0 (getLL P (k : Int)).length) (by rw [List.getElem?_append_right (by rw [hx_len]; omega), hx_len]; simp) (by simp) rfl rfl
      rw [this, List.set_append_right _ _ (by rw [hx_len]; omega), hx_len]
      simp
    obtain ⟨H2, hH2⟩ : ∃ H2, HX P x ++ [some (.box [.sl (1 + k) 1 0 (getLL P (k : Int)).length])] = H2 := ⟨_, rfl⟩
    have hlen2 : H2.length = P.length + 3 := by rw [← hH2]; simp [hx_len]
    have hpre : ∀ i, i < P.length + 2 → H2[i]? = (HX P x)[i]? := fun i hi => by rw [← hH2, List.getElem?_append_left (by rw [hx_len]; exact hi)]
    have lb2 : LB H2 0 (List.range' 1 P.length) P := (hx_lb P x).keep fun i hi => hpre i (by have := (hx_lb P x).lt i hi; rw [hx_len] at this; exact this)
    have hx2 : H2[P.length + 1]? = some (some (.data [.int .i64 x])) := by rw [hpre _ (by omega)]; exact hx_x P x
    have hb2 : H2[P.length + 2]? = some (some (.box [.sl (1 + k) 1 0 (getLL P (k : Int)).length])) := by
      rw [← hH2, List.getElem?_append_right (by rw [hx_len]; omega), hx_len]; simp
    rw [hH2] at b2
    have hrow := lb2.rw k (1 + k) hidx
    have hrowd : H2.data? (1 + k) = some (iL (getLL P (k : Int))) := data?_iff.2 hrow
    have p2 : evP H2 (.ld false 1) [.ptr (P.length + 2) 0] = some (.sl (1 + k) 1 0 (getLL P (k : Int)).length) := p_ldX hb2 rfl
    have p3 : evP H2 (.ld false 1) [.ptr (P.length + 1) 0] = some (.int .i64 x) := by
      have := p_ldD (l := [x]) (k := 0) (by rw [hx2]; rfl) (by simp)
      rwa [show getI [x] ((0 : Nat) : Int) = x from by rw [getI_nat]; rfl] at this
    have hfr : frzL H2 140 [.int .i64 ((getLL P (k : Int)).length : Int), .fn 94 [.ptr (P.length + 2) 0, .ptr (P.length + 1) 0]] = some [.int .i64 ((getLL P (k : Int)).length : Int), .fn 94 [.rp [.rd 1 (getLL P (k : Int)).length (iL (getLL P (k : Int)))], .rp [.int .i64 x]]] := by
      simp [frzL, frzV, idFreeL, AV.idFree, hb2, hx2, hrowd, iL_len]
      rw [← iL_len, List.take_length]
    have ec := e91 (x := x) (rd_isL (l := getLL P (k : Int)) rfl) hsr (by omega) hfr
    by_cases hf : fgt x (getLL P (k : Int)) < (getLL P (k : Int)).length
    · obtain ⟨T1, K1⟩ := ins_more hkP hf
      have s1 := lb2.st hidx (k := fgt x (getLL P (k : Int))) (x := x) hf
      have p5 := lb2.get hidx (k := fgt x (getLL P (k : Int))) hf
      have hPl' : (P.set k ((getLL P (k : Int)).set (fgt x (getLL P (k : Int))) x)).length = P.length := by simp
      have hst : ∀ call, evE call (H2.set (1 + k) (some (.data (iL ((getLL P (k : Int)).set (fgt x (getLL P (k : Int))) x))))) (.st 1) [.ptr (P.length + 1) 0, .int .i64 (getI (getLL P (k : Int)) (fgt x (getLL P (k : Int)) : Nat))] =
          some (.undef, (H2.set (1 + k) (some (.data (iL ((getLL P (k : Int)).set (fgt x (getLL P (k : Int))) x))))).set (P.length + 1) (some (.data [.int .i64 (getI (getLL P (k : Int)) (fgt x (getLL P (k : Int)) : Nat))]))) := fun call => by
        have := e_stO (call := call) (H := H2.set (1 + k) (some (.data (iL ((getLL P (k : Int)).set (fgt x (getLL P (k : Int))) x))))) (id := P.length + 1) (l := [x]) (i := 0) (v := getI (getLL P (k : Int)) (fgt x (getLL P (k : Int)) : Nat)) (data?_iff.2 (by rw [List.getElem?_set_ne (by omega), hx2]; rfl)) (by simp)
        simpa [iL] using this
      have hsp := fgt_split x (getLL P (k : Int)) hf
      generalize hfg : fgt x (getLL P (k : Int)) = f at *
      generalize hy : getI (getLL P (k : Int)) (f : Int) = y at *
      have q5 : evP H2 (.ld false 1) [.ptr (1 + k) (0 + ((f : Nat) : Int).toNat * 1)] = some (.int .i64 y) := by simpa using p5
      have q6 : evE call H2 (.st 1) [.ptr (1 + k) (0 + ((f : Nat) : Int).toNat * 1), .int .i64 x] = some (.undef, H2.set (1 + k) (some (.data (iL ((getLL P (k : Int)).set f x))))) := by simpa using s1.1 call
      refine via (res := ?r2) ?w2 ?g2
      case w2 =>
        repeat' first
 | (apply s_mov; exact aW)
 | (apply c_nil)
 | (apply s_lss; exact rfl; all_goals (intro _; try (exfalso; omega)))
 | (apply s_eql; exact rfl; all_goals (intro _; try (exfalso; omega)))
 | (apply s_add; exact rfl; omega)
 | (apply s_pn; exact aO; exact p1)
 | (apply s_en; exact aO; exact b1 _)
 | (apply s_st; exact aO; exact b2 _)
 | (apply s_pn; exact aO; exact p2)
 | (apply s_pn; exact aO; exact p3)
 | (apply s_cn; exact aO; exact ec)
 | (apply s_pn; exact aO; exact q5)
 | (apply s_st; exact aO; exact q6)
 | (apply s_st; exact aO; exact hst _)
 | (apply s_lenSl; exact rfl)
 | (apply s_idxS; exact rfl; exact rfl; omega)
 | (apply s_pd; exact aW)
 | (apply c_seq)
 | (apply c_reg)
 | (apply c_block)
 | (apply c_skip)
 | (apply c_condT; exact rfl)
 | (apply c_condF; exact rfl)
 | (with_reducible apply k_c)
        exact rfl
      have hP2 : (H2.set (1 + k) (some (HO.data (iL ((getLL P (k : Int)).set f x))))).length = P.length + 3 := by simpa using hlen2
      have lb3 : LB ((H2.set (1 + k) (some (.data (iL ((getLL P (k : Int)).set f x))))).set (P.length + 1) (some (.data [.int .i64 y]))) 0 (List.range' 1 (P.set k ((getLL P (k : Int)).set f x)).length) (P.set k ((getLL P (k : Int)).set f x)) := by
        rw [hPl']
        refine s1.2.keep fun i hi => ?_
        rw [List.getElem?_set_ne]
        have := (hx_lb P x).lt i hi
        simp [List.mem_range'_1] at hi
        omega
      refine hKK (k + 1, P.set k ((getLL P (k : Int)).set f x), y) _ _ ⟨by dsimp only; omega, by dsimp only; omega, fun r hr => ?_, by rw [← hT, T1], by rw [← hK, K1]; dsimp only; omega⟩ (by dsimp only; omega) ?_
      · rcases List.mem_or_eq_of_mem_set hr with hr | rfl
        · exact hrs r hr
        · refine ⟨?_, by simpa using hrl⟩
          obtain ⟨L, y', M, e1, e2, e3, e4⟩ := hsp
          rw [e1, ← e2, set_split]
          rw [e1] at hsr
          exact srt_set hsr e3 e4
      · dsimp only
        have g := gcX (u := ((P.length : Nat) : Int)) (w := ((k + 1 : Nat) : Int)) lb3 (x := y) (b := P.length + 1) (by rw [List.getElem?_set_self (by rw [hP2]; omega)]) (by omega) (by omega)
        rw [hPl'] at g ⊢
        rw [← hPl]
        exact g
    · obtain ⟨T1, K1⟩ := ins_stop hkP hf
      have hfe : fgt x (getLL P (k : Int)) = (getLL P (k : Int)).length := by have := fgt_le x (getLL P (k : Int)); omega
      obtain ⟨a1, a2, a3, a4, a5⟩ := lb2.app hidx (x := x) (by omega)
      have a2' : evE call (H2.set (1 + k) none ++ [some (HO.data (iL (getLL P (k : Int) ++ [x])))]) (.st 1) [.ptr 0 (0 + ((k : Nat) : Int).toNat * 1), .sl H2.length 1 0 ((getLL P (k : Int)).length + 1)] = some (.undef, growH H2 0 (List.range' 1 P.length) P k (1 + k) x) := by simpa using a2 call
      rw [hfe] at ec
      refine via (res := ?r3) ?w3 ?g3
      case w3 =>
        repeat' first
 | (apply s_mov; exact aW)
 | (apply c_nil)
 | (apply s_lss; exact rfl; all_goals (intro _; try (exfalso; omega)))
 | (apply s_eql; exact rfl; all_goals (intro _; try (exfalso; omega)))
 | (apply s_pn; exact aO; exact p1)
 | (apply s_en; exact aO; exact b1 _)
 | (apply s_st; exact aO; exact b2 _)
 | (apply s_pn; exact aO; exact p2)
 | (apply s_pn; exact aO; exact p3)
 | (apply s_cn; exact aO; exact ec)
 | (apply s_en; exact aO; exact e_bld1 rfl rfl rfl rfl)
 | (apply s_en; exact aO; exact a1 _ _)
 | (apply s_st; exact aO; exact a2')
 | (apply s_lenSl; exact rfl)
 | (apply s_idxS; exact rfl; exact rfl; omega)
 | (apply s_pd; exact aW)
 | (apply c_seq)
 | (apply c_reg)
 | (apply c_block)
 | (apply c_skip)
 | (apply c_ret)
 | (apply c_condT; exact rfl)
 | (with_reducible apply k_c)
        exact rfl
      have hGl := growH_len (H := H2) (a := 0) (is := List.range' 1 P.length) (P := P) (j := k) (i := 1 + k) (x := x)
      rw [← hG, ← hT, ← hK, T1, K1, Nat.add_zero]
      have hacc : ∀ i, i ∈ (0 :: List.range' 1 P.length) ↔ i ≤ P.length := fun i => by simp [List.mem_range'_1]; omega
      refine fin75 (by rw [List.length_set]; rfl) rfl (φ := (0 :: List.range' 1 P.length) ++ [H2.length]) ?_ ?_ ?_ a3 ?_ ?_ ?_
      · have hbx : boxCells (growH H2 0 (List.range' 1 P.length) P k (1 + k) x) 0 = refs ((List.range' 1 P.length).set k H2.length) ((P.set k (getLL P (k : Int) ++ [x])).map iL) := a3.box
        have hro : roots (growH H2 0 (List.range' 1 P.length) P k (1 + k) x) (rangeL (P0.length + 1) []) = refs ((List.range' 1 P.length).set k H2.length) ((P.set k (getLL P (k : Int) ++ [x])).map iL) := by
          rw [← hPl, rangeL_cons]
          simp only [roots, hbx]
          rw [roots_none, List.append_nil]
          intro i hi
          by_cases hik : i = 1 + k
          · subst hik
            simp only [boxCells, growH]
            rw [List.getElem?_set_ne (by omega), List.getElem?_append_left (by simp; omega), List.getElem?_set_self (by omega)]
          · have hi' := (List.mem_range'_1.1 hi)
            simp only [boxCells, growH]
            rw [List.getElem?_set_ne (by omega), List.getElem?_append_left (by simp; omega), List.getElem?_set_ne (by omega)]
            have := lb2.rw (i - 1) i (by rw [rngn (by omega)]; congr 1; omega)
            rw [this]
        rw [hro, ← hPl, rangeL_cons]
        have hl : ((List.range' 1 P.length).set k H2.length).length = P.length := by simp
        rw [show (400 : Nat) = (400 - P.length) + ((List.range' 1 P.length).set k H2.length).length by rw [hl]; omega]
        rw [reach_refs1 (k := k) (b := H2.length) (by simp) (List.getElem?_set_self (by simpa using hkP)) (fun j i hj hi => ?_) (by rw [hacc]; omega) ?_]
        · rw [show 400 - P.length = (397 - P.length) + 1 + 1 + 1 by omega, reach_tup]
          simp only [idFreeL, AV.idFree, Bool.false_and, Bool.false_eq_true, if_false, List.cons_append, List.nil_append]
          rw [reach_new, if_pos (by simp), reach_int, reach_end]
        · have := a3.rw k H2.length (List.getElem?_set_self (by simpa using hkP))
          simp only [boxCells, this]
        · rw [List.getElem?_set_ne (Ne.symm hj)] at hi
          have := rng_get hi
          rw [hacc]; omega
      · refine List.nodup_append.2 ⟨lb2.nd, by simp, fun z hz y hy e => ?_⟩
        simp at hy; subst hy; subst e
        have := (hacc _).1 hz
        omega
      · intro i hi
        rw [hGl]
        rcases List.mem_append.1 hi with hi | hi
        · have := (hacc _).1 hi; omega
        · simp at hi; omega
      · intro i hi
        rcases List.mem_cons.1 hi with rfl | hi
        · simp
        · rcases List.mem_or_eq_of_mem_set hi with hi | hi
          · simp [hi]
          · simp [hi]
      · intro i hi hia o ho
        rcases List.mem_append.1 hi with hi | hi
        · have hi' := (hacc _).1 hi
          by_cases hik : i = 1 + k
          · subst hik
            simp only [growH] at ho
            rw [List.getElem?_set_ne (by omega), List.getElem?_append_left (by simp; omega), List.getElem?_set_self (by omega)] at ho
            cases ho
            exact .inl rfl
          · simp only [growH] at ho
            rw [List.getElem?_set_ne (by omega), List.getElem?_append_left (by simp; omega), List.getElem?_set_ne (by omega)] at ho
            have := lb2.rw (i - 1) i (by rw [rngn (by omega)]; congr 1; omega)
            rw [this] at ho
            cases ho
            exact .inr ⟨_, rfl⟩
        · simp at hi
          subst hi
          have := a3.rw k H2.length (List.getElem?_set_self (by simpa using hkP))
          rw [this] at ho
          cases ho
          exact .inr ⟨_, rfl⟩
      · simp; omega
  · obtain rfl : k = P.length := by omega
    have hT1 : insT P0 x0 = P ++ [[x]] := by rw [← hT]; simp [insT]
    have hK1 : insK P0 x0 = P.length := by rw [← hK]; simp [insK]
    rw [← hG, hT1, hK1]
    rw [← hPl] at hKK ⊢
    have lb := hx_lb P x
    have g2 : gc (P.length + 1) [.sl 0 1 0 P.length, .ptr (P.length + 1) 0] (HX P x) = some ([.sl 0 1 0 P.length, .ptr (P.length + 1) 0], HX P x) := gcX2 lb (hx_x P x) (by omega) (by omega)
    have p3 : evP (HX P x) (.ld false 1) [.ptr (P.length + 1) 0] = some (.int .i64 x) := by
      have := p_ldD (H := HX P x) (l := [x]) (k := 0) (by rw [hx_x P x]; rfl) (by simp)
      rwa [show getI [x] ((0 : Nat) : Int) = x from by rw [getI_nat]; rfl] at this
    have b1 : evE call (HX P x) (.bldS true false 1 1 [.int .i64 0] [(0, 1)]) [.int .i64 x] = some (.sl (P.length + 2) 1 0 1, HX P x ++ [some (.data [.int .i64 x])]) := by
      simp [evE, repl, fillParts, AV.cells, AV.solid, putPart, oneL, AV.one, idFreeL, AV.idFree, newRow, hx_len]
    have b2 : evE call (HX P x ++ [some (HO.data [.int .i64 x])]) (.bldB 1 1 [.nilS] [(0, 1)]) [.sl (P.length + 2) 1 0 1] = some (.sl (P.length + 3) 1 0 1, HX P x ++ [some (HO.data [.int .i64 x])] ++ [some (.box [.sl (P.length + 2) 1 0 1])]) := by
      have := e_bldB1 (call := call) (H := HX P x ++ [some (HO.data [.int .i64 x])]) (v := .sl (P.length + 2) 1 0 1) (z := .nilS) rfl rfl rfl
      rw [this]
      simp [hx_len]
    have hrl : (refs (List.range' 1 P.length) (P.map iL)).length = P.length := by rw [refs_length lb.lnm]; simp
    obtain ⟨H3, hH3⟩ : ∃ H3, HX P x ++ [some (HO.data [.int .i64 x])] ++ [some (HO.box [.sl (P.length + 2) 1 0 1])] = H3 := ⟨_, rfl⟩
    have hlen3 : H3.length = P.length + 4 := by rw [← hH3]; simp [hx_len]
    have h3a : H3[P.length + 2]? = some (some (.data [.int .i64 x])) := by rw [← hH3]; simp [List.getElem?_append, hx_len]
    have h3b : H3[P.length + 3]? = some (some (.box [.sl (P.length + 2) 1 0 1])) := by rw [← hH3]; simp [List.getElem?_append, hx_len]
    have lb3 : LB H3 0 (List.range' 1 P.length) P := lb.keep fun i hi => by
      have := lb.lt i hi
      rw [← hH3, List.append_assoc, List.getElem?_append_left this]
    rw [hH3] at b2
    have b3 : ∀ q, evE call H3 (.appB 1 q) [.sl 0 1 0 P.length, .sl (P.length + 3) 1 0 1] = some (.sl (P.length + 4) 1 0 (P.length + 1), H3.set 0 none ++ [some (.box (refs (List.range' 1 P.length) (P.map iL) ++ [.sl (P.length + 2) 1 0 1]))]) := fun q => by
      have := e_appB_sl (call := call) (q := q) (H := H3) (id := 0) (id2 := P.length + 3) (n := 1) (cells?_iff.2 (.inr lb3.bx)) hrl (cells?_iff.2 (.inr h3b)) rfl (by decide) (by unfold most; omega)
      rw [this]
      simp [hlen3]
    refine via (res := ?r4) ?w4 ?g4
    case w4 =>
      repeat' first
 | (apply s_mov; exact aW)
 | (apply c_nil)
 | (apply s_lss; exact rfl; all_goals (intro _; try (exfalso; omega)))
 | (apply c_pre; exact g2)
 | (apply s_pn; exact aO; exact p3)
 | (apply s_en; exact aO; exact b1)
 | (apply s_en; exact aO; exact b2)
 | (apply s_en; exact aO; exact b3 _)
 | (apply s_lenSl; exact rfl)
 | (apply c_seq)
 | (apply c_reg)
 | (apply c_exitH)
 | (apply c_ret)
 | (apply c_condF; exact rfl)
 | (with_reducible apply k_c)
      exact rfl
    obtain ⟨H4, hH4⟩ : ∃ H4, H3.set 0 none ++ [some (HO.box (refs (List.range' 1 P.length) (P.map iL) ++ [.sl (P.length + 2) 1 0 1]))] = H4 := ⟨_, rfl⟩
    have hlen4 : H4.length = P.length + 5 := by rw [← hH4]; simp [hlen3]
    have h40 : H4[0]? = some none := by rw [← hH4, List.getElem?_append_left (by simp; omega), List.getElem?_set_self (by omega)]
    have h4o : ∀ i, 0 < i → i < P.length + 4 → H4[i]? = H3[i]? := fun i h1 h2 => by rw [← hH4, List.getElem?_append_left (by simp; omega), List.getElem?_set_ne (by omega)]
    have h4n : H4[P.length + 4]? = some (some (.box (refs (List.range' 1 P.length) (P.map iL) ++ [.sl (P.length + 2) 1 0 1]))) := by
      rw [← hH4, List.getElem?_append_right (by simp; omega)]; simp [hlen3]
    have hrefs : refs (List.range' 1 P.length ++ [P.length + 2]) ((P ++ [[x]]).map iL) = refs (List.range' 1 P.length) (P.map iL) ++ [.sl (P.length + 2) 1 0 1] := by
      rw [List.map_append, refs_append lb.lnm]; rfl
    have lb4 : LB H4 (P.length + 4) (List.range' 1 P.length ++ [P.length + 2]) (P ++ [[x]]) := by
      refine ⟨by rw [h4n, hrefs], by simp, fun j i hj => ?_, ?_⟩
      · rcases Nat.lt_or_ge j P.length with h | h
        · rw [List.getElem?_append_left (by simpa using h)] at hj
          have h1 := rng_get hj
          rw [h4o i (by omega) (by omega), lb3.rw j i hj, getLL_nat, getLL_nat]
          simp [List.getD, List.getElem?_append_left h]
        · rw [List.getElem?_append_right (by simpa using h)] at hj
          simp at hj
          obtain ⟨hj1, rfl⟩ := List.getElem?_eq_some_iff.1 hj
          simp at hj1
          obtain rfl : j = P.length := by omega
          simp
          rw [h4o _ (by omega) (by omega), h3a, getLL_nat]
          simp [List.getD, iL]
      · rw [List.nodup_cons, List.nodup_append]
        refine ⟨by simp [List.mem_range'_1]; omega, List.nodup_range', by simp, fun a ha b hb e => ?_⟩
        simp at hb
        have := List.mem_range'_1.1 ha
        omega
    rw [hH4]
    have hacc : ∀ i, i ∈ (0 :: List.range' 1 P.length) ↔ i ≤ P.length := fun i => by simp [List.mem_range'_1]; omega
    refine fin75 (by rw [List.length_append]; rfl) rfl (φ := (0 :: List.range' 1 P.length) ++ [P.length + 4, P.length + 2]) ?_ ?_ ?_ lb4 ?_ ?_ ?_
    · have hbx : boxCells H4 0 = [] := by simp [boxCells, h40]
      have hro : roots H4 (rangeL (P.length + 1) []) = [] := by
        rw [rangeL_cons]
        refine roots_none fun i hi => ?_
        have := (hacc i).1 hi
        rcases Nat.eq_zero_or_pos i with rfl | h
        · exact hbx
        · have h2 := lb3.rw (i - 1) i (by rw [rngn (by omega)]; congr 1; omega)
          simp only [boxCells, h4o i h (by omega), h2]
      have hl : (List.range' 1 P.length ++ [P.length + 2]).length = P.length + 1 := by simp
      have hn4 : (0 :: List.range' 1 P.length).contains (P.length + 4) = false := by
        rw [Bool.eq_false_iff]; intro h; have := (hacc _).1 (List.contains_iff_mem.1 h); omega
      rw [hro, rangeL_cons, List.nil_append, show (400 : Nat) = (398 - (P.length + 1)) + (List.range' 1 P.length ++ [P.length + 2]).length + 1 + 1 by rw [hl]; omega, reach_tup]
      simp only [idFreeL, AV.idFree, Bool.false_and, Bool.false_eq_true, if_false, List.append_nil]
      rw [reach_new, hn4, lb4.box]
      simp only [Bool.false_eq_true, if_false]
      rw [reach_refs1 (k := P.length) (b := P.length + 2) lb4.lnm (by simp) (fun j i hj hi => ?_) ?_ ?_]
      · rw [show 398 - (P.length + 1) = (396 - P.length) + 1 by omega, reach_int, reach_end, List.append_assoc]
        rfl
      · rw [List.mem_append, hacc]; simp
      · simp only [boxCells, h4o (P.length + 2) (by omega) (by omega), h3a]
      · have h1 : j < P.length := by
          have := (List.getElem?_eq_some_iff.1 hi).1
          rw [hl] at this; omega
        rw [List.getElem?_append_left (by simpa using h1)] at hi
        have := rng_get hi
        rw [List.mem_append, hacc]; left; omega
    · refine List.nodup_append.2 ⟨lb3.nd, by simp, fun z hz y hy e => ?_⟩
      have := (hacc _).1 hz
      simp at hy
      omega
    · intro i hi
      rcases List.mem_append.1 hi with hi | hi
      · have := (hacc _).1 hi; omega
      · simp at hi; omega
    · intro i hi
      rcases List.mem_cons.1 hi with rfl | hi
      · simp
      · rcases List.mem_append.1 hi with hi | hi
        · simp [hi]
        · simp at hi; simp [hi]
    · intro i hi hia o ho
      rcases List.mem_append.1 hi with hi | hi
      · have hi' := (hacc _).1 hi
        rcases Nat.eq_zero_or_pos i with rfl | h
        · rw [h40] at ho; cases ho; exact .inl rfl
        · have h2 := lb3.rw (i - 1) i (by rw [rngn (by omega)]; congr 1; omega)
          rw [h4o i h (by omega), h2] at ho
          cases ho
          exact .inr ⟨_, rfl⟩
      · simp at hi
        rcases hi with rfl | rfl
        · exact absurd rfl hia
        · rw [h4o _ (by omega) (by omega), h3a] at ho
          cases ho
          exact .inr ⟨_, rfl⟩
    · simp
end Go.AM.Tb
