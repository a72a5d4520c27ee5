/- A part of the proof: Q57. -/
import Derived.Test.YtmeajfgjbebkiaaQ52
import Derived.Test.YtmeajfgjbebkiaaQ31
import Derived.Test.YtmeajfgjbebkiaaQ32
set_option linter.unusedSectionVars false
set_option linter.unusedVariables false
set_option linter.unusedSimpArgs false
namespace Go.AM.Pa
attribute [local go_sem] gc subHeap reach_skip ren_free reach_new reach_newp reach_end rangeL roots boxCells nodupB posOf renL AV.ren pickO renH renO looks look bindEnv envOf reach_int reach_bool reach_nilS reach_rd putRow cells_sl cells_int cells_bool cells_nilS cells_rd cells_agg reach_agg reach_tup idFreeL idf_sl idf_ptr idf_int idf_bool idf_nilS idf_rd
theorem tame_rank' (a : Gm) {hi : Int} (hhi : 1 ≤ hi ∧ hi ≤ 10) : ∀ u ∈ (tameG a hi).rank, u < hi := fun u hu => by
  obtain ⟨v, hv, rfl⟩ := List.mem_map.1 hu
  exact (mdF_range (x := getI (g30 a).rank v) (n := hi) (by omega)).2
theorem g30_id' {g : Gm} (h1 : g.owner.length ≤ 30) (h2 : g.rank.length ≤ 30) (h3 : g.next.length ≤ 30) (h4 : ∀ l ∈ g.next, l.length ≤ 30) : g30 g = g := by
  have e : (g.next.map (·.take 30)) = g.next := by
    refine (List.map_congr_left fun l hl => ?_).trans (List.map_id _)
    exact List.take_of_length_le (h4 l hl)
  unfold g30
  rw [List.take_of_length_le h1, List.take_of_length_le h2, List.take_of_length_le h3, e]
/-- game, its rows its caller's own -/
theorem gcD {H : Heap} {x1 x2 x3 y1 y2 y3 : AV} {p1 p2 b M : Nat} {is : List Nat} {R : List (List AV)} {e1 e2 e3 : Int} {gs : List AV} (hx1 : x1.idFree = true) (hx2 : x2.idFree = true) (hx3 : x3.idFree = true) (hy1 : y1.idFree = true) (hy2 : y2.idFree = true) (hy3 : y3.idFree = true)
    (h1 : H[p1]? = some (some (.box [x1, x2, x3]))) (h2 : H[p2]? = some (some (.box [y1, y2, y3]))) (hb : H[b]? = some (some (.box (refs is R)))) (hl : is.length = R.length)
    (hR : ∀ (j i : Nat) (l : List AV), is[j]? = some i → R[j]? = some l → H[i]? = some (some (.data l))) (hd : (p1 :: p2 :: b :: is).Nodup) (hk : is.length < 100) (hg : idFreeL gs = true) :
    gc 0 (.ptr p1 0 :: .ptr p2 0 :: .int .i64 e1 :: .int .i64 e2 :: .int .i64 e3 :: .sl b 1 0 M :: gs) H = some (.ptr 0 0 :: .ptr 1 0 :: .int .i64 e1 :: .int .i64 e2 :: .int .i64 e3 :: .sl 2 1 0 M :: gs,
      some (.box [x1, x2, x3]) :: some (.box [y1, y2, y3]) :: some (.box (refs (List.range' 3 is.length) R)) :: rowsH R) := by
  have hφ : nodupB (p1 :: p2 :: b :: is) = true := nodupB_iff.2 hd
  have q1 : posOf (p1 :: p2 :: b :: is) p1 = some 0 := posOf_of_get hφ (j := 0) rfl
  have q2 : posOf (p1 :: p2 :: b :: is) p2 = some 1 := posOf_of_get hφ (j := 1) rfl
  have q3 : posOf (p1 :: p2 :: b :: is) b = some 2 := posOf_of_get hφ (j := 2) rfl
  have pr : renL (posOf (p1 :: p2 :: b :: is)) (refs is R) = some (refs (List.range' 3 is.length) R) := renL_refs hφ is R 3 hl fun j i h => by rw [Nat.add_comm]; exact h
  have hpick := pickO_refs is R hl hR
  have rgs : ∀ f, renL f gs = some gs := fun f => by
    have := ren_self (f := f) (v := .agg gs) (by simpa [AV.idFree] using hg)
    clear hpick pr hR hl
    induction gs with
    | nil => rfl
    | cons g r ih =>
      simp only [idFreeL, Bool.and_eq_true] at hg
      simp only [renL, ren_self hg.1, Option.bind_some, ih hg.2 (ren_self (by simpa [AV.idFree] using hg.2)), Option.map_some]
  simp only [List.nodup_cons, List.mem_cons, not_or] at hd
  obtain ⟨⟨d1, d2, d3⟩, ⟨d4, d5⟩, d6, d7⟩ := hd
  refine gc_of (φ := p1 :: p2 :: b :: is) ?_ hφ (vs' := .ptr 0 0 :: .ptr 1 0 :: .int .i64 e1 :: .int .i64 e2 :: .int .i64 e3 :: .sl 2 1 0 M :: gs) ?_ (Hp := some (.box [x1, x2, x3]) :: some (.box [y1, y2, y3]) :: some (.box (refs is R)) :: rowsH R) ?_ ?_
  · have b0 : boxCells H p1 = [x1, x2, x3] := by simp [boxCells, h1]
    have b1 : boxCells H p2 = [y1, y2, y3] := by simp [boxCells, h2]
    have b2 : boxCells H b = refs is R := by simp [boxCells, hb]
    have e : reach H 400 (rangeL 0 []) (roots H (rangeL 0 []) ++ (.ptr p1 0 :: .ptr p2 0 :: .int .i64 e1 :: .int .i64 e2 :: .int .i64 e3 :: .sl b 1 0 M :: gs)) = reach H 388 [p1, p2, b] (refs is R ++ gs) := by
      simp [rangeL, roots, reach_newp, reach_new, b0, b1, b2, reach_skip, reach_int, hx1, hx2, hx3, hy1, hy2, hy3, Ne.symm d1, Ne.symm d2, Ne.symm d4]
    rw [e, reach_refs' (by omega) hl (fun i hi => ?_) d7 (rows_box hl hR), reach_free _ _ _ _ hg]
    · rfl
    · have h1 : i ≠ p1 := fun e => d3 (e ▸ hi)
      have h2 : i ≠ p2 := fun e => d5 (e ▸ hi)
      have h3 : i ≠ b := fun e => d6 (e ▸ hi)
      simp [h1, h2, h3]
  · simp [renL, AV.ren, q1, q2, q3, rgs]
  · simp [pickO, h1, h2, hb, hpick]
  · simp [renH, renO, renL, ren_self hx1, ren_self hx2, ren_self hx3, ren_self hy1, ren_self hy2, ren_self hy3, pr, renH_rows]
theorem refs_len : ∀ (is : List Nat) {R S : List (List AV)}, R.map List.length = S.map List.length → refs is R = refs is S
  | [], R, S, _ => by simp [refs]
  | i :: is, [], [], _ => rfl
  | i :: is, [], _ :: _, h => by simp at h
  | i :: is, _ :: _, [], h => by simp at h
  | i :: is, l :: R, k :: S, h => by
    simp only [List.map_cons, List.cons.injEq] at h
    simp [refs, h.1, refs_len is h.2]
theorem set_rows (pre : Heap) {s i : Nat} {R : List (List AV)} {c : List AV} (hp : pre.length = s) : (pre ++ rowsH R).set (s + i) (some (.data c)) = pre ++ rowsH (R.set i c) := by
  subst hp
  rw [List.set_append_right _ _ (by omega), Nat.add_sub_cancel_left]
  simp [rowsH, List.map_set]
theorem set_lens {R : List (List AV)} {i : Nat} {c l : List AV} (h : R[i]? = some l) (hl : c.length = l.length) : (R.set i c).map List.length = R.map List.length := by
  rw [List.map_set, hl]
  refine List.ext_getElem? fun j => ?_
  by_cases e : i = j
  · subst e
    have hi := (List.getElem?_eq_some_iff.1 h).1
    rw [List.getElem?_set_self (by simpa using hi)]
    simp [h]
  · rw [List.getElem?_set_ne e]
theorem e_stRow {call : CallF} {H : Heap} {id : Nat} {c : List AV} {k v : Int} {q : IntKind} (h : H[id]? = some (some (.data c))) (hk : k.toNat < c.length) :
    evE call H (.st 1) [.ptr id (0 + k.toNat * 1), .int q v] = some (.undef, H.set id (some (.data (putRow c k.toNat [.int q v])))) := by
  have e : 0 + k.toNat * 1 = k.toNat := by omega
  simp only [evE, stAt, e, h, cells_int]
  simp [oneL, AV.one, idFreeL, AV.idFree]
  omega
theorem c33o {x : AV} {a : Gm} (hx : IsG x a) (ha : a.next.length < 50 ∧ a.rank.length < 50 ∧ ∀ l ∈ a.next, l.length < 50) (hc : Good a ∧ ¬ (9 : Int) ∈ a.rank) {m : Nat} (hm : 105 ≤ m) (H : Heap) :
    callPure (evF tab it m) false 33 [x] H = some (.tup [.agg [.sl H.length 1 0 a.next.length, .sl (H.length + 1) 1 0 a.next.length, .sl (H.length + 2) 1 0 a.next.length], .int .i64 0],
      H ++ (some (.data (iL (a.owner.map (1 - ·)))) :: some (.data (iL (a.rank.map (· + 1)))) :: some (.box (refs (List.range' (H.length + 3) a.next.length) (a.next.map iL))) :: rowsH (a.next.map iL))) := by
  have h := e33 hx ha hc m hm
  have hr := renL_shift (n := H.length) a.next.length 3 (a.next.map iL)
  have hw := renH_rows (f := fun i => some (H.length + i)) (a.next.map iL)
  simp only [callPure, frzL_free H 40 [x] (by simp) (by simp [idFreeL, hx.free]), h, idFreeL, hx.free, Option.bind_some, Bool.and_self, Bool.true_or, if_true, Bool.false_eq_true, if_false]
  simp [shiftH, AV.ren, renL, idFreeL, idf_sl, AV.idFree, renH, renO, hr, hw]
theorem c18o {x t : AV} {a : Gm} {set : List Int} {p : Int} (hx : IsG x a) (ht : IsL t set) (ha : a.next.length < 100 ∧ ∀ l ∈ a.next, l.length < 50) (hs : set.length < 50) (hc : Good a ∧ (0 ≤ p ∧ p ≤ 1) ∧ Asc set a.next.length) (hn : attrL a p set ≠ []) {m : Nat} (hm : 105 ≤ m) (H : Heap) :
    callPure (evF tab it m) false 18 [x, .int .i64 p, t] H = some (.tup [.sl H.length 1 0 (iL (attrL a p set)).length, .int .i64 0], H ++ [some (.data (iL (attrL a p set)))]) := by
  have h := e18 hx ht ha hs m hm (p := p)
  rw [if_pos hc] at h
  generalize attrL a p set = l at *
  rcases l with _ | ⟨c, r⟩
  · exact absurd rfl hn
  · have hf : idFreeL [x, .int .i64 p, t] = true := by simp [idFreeL, hx.free, ht.free, AV.idFree]
    simp only [callPure, frzL_free H 40 [x, .int .i64 p, t] (by simp) hf, h, hf, Option.bind_some, Bool.true_or, if_true, Bool.false_eq_true, if_false]
    simp [shiftH, AV.ren, renL, idFreeL, idf_sl, AV.idFree, renH, renO, ownV, owH, iL]
theorem asc0 {n : Nat} (h : 1 ≤ n) : Asc [0] n := by
  intro i hi
  simp at hi
  subst hi
  unfold badAt
  have e : getI [0] ((0 : Nat) : Int) = 0 := getI_zero 0 []
  rw [e]
  omega
theorem attr_ne {a : Gm} (hg : Good a) : attrL a 0 [0] ≠ [] := by
  have h1 := hg.1
  have hs := asc0 h1.1
  have ha := attrB_attr hg (s := [0]) (p := 0)
  have h0 := ha.sub 0 (by rw [markS hg hs]; simp)
  intro e
  have : (trues (attrB a 0 [0])).map (fun (i : Nat) => (i : Int)) = [] := e
  rw [List.map_eq_nil_iff] at this
  have h2 := trues_of (b := attrB a 0 [0]) (v := 0) (by omega) h0
  rw [this] at h2
  simp at h2
theorem e_st3p {call : CallF} {X : Heap} {u v w : AV} (hu : u.one = true) (hv : v.one = true) (hw : w.one = true) : evE call (X ++ [some (.box [.nilS, .nilS, .nilS])]) (.st 3) [.ptr X.length 0, .agg [u, v, w]] = some (.undef, X ++ [some (.box [u, v, w])]) := by
  simp [evE, stAt, cells_agg, oneL, hu, hv, hw, putRow]
theorem p_ldbox {H : Heap} {i : Nat} {cs : List AV} {k : Nat} {v : AV} (hi : H[i]? = some (some (.box cs))) (h : cs[k]? = some v) : evP H (.ld false 1) [.ptr i k] = some v := by
  obtain ⟨h1, h2⟩ := List.getElem?_eq_some_iff.1 h
  have hc : Heap.cells? H i = some cs := cells?_iff.2 (.inr hi)
  have h5 : k + 1 ≤ cs.length := by omega
  simp only [evP, ldc, getRow, hc, Option.bind_some, if_pos h5]
  rw [List.drop_eq_getElem_cons h1, h2]
  simp [wholeOf]
theorem p_ldbox3 {H : Heap} {i : Nat} {a b c : AV} (hi : H[i]? = some (some (.box [a, b, c]))) : evP H (.ld true 3) [.ptr i 0] = some (.agg [a, b, c]) := by
  have hc : Heap.cells? H i = some [a, b, c] := cells?_iff.2 (.inr hi)
  simp [evP, ldc, getRow, hc, wholeOf]
theorem e_bldB5 {call : CallF} {H : Heap} {a b c d e : Nat} {la lb lc ld le : Nat} : evE call H (.bldB 1 5 [.nilS] [(0, 1), (1, 1), (2, 1), (3, 1), (4, 1)]) [.sl a 1 0 la, .sl b 1 0 lb, .sl c 1 0 lc, .sl d 1 0 ld, .sl e 1 0 le] =
    some (.sl H.length 1 0 5, H ++ [some (.box [.sl a 1 0 la, .sl b 1 0 lb, .sl c 1 0 lc, .sl d 1 0 ld, .sl e 1 0 le])]) := by
  simp [evE, repl, fillParts, AV.cells, AV.solid, putPart, oneL, AV.one, newBox]
theorem nd9 {n q : Nat} (hq : q = 9 + n) : (1 :: 2 :: (q + 3) :: ([3, 4, q + 1, 6, 7] ++ List.range' 9 n)).Nodup := by
  subst hq
  simp [List.nodup_append, List.mem_range'_1, List.nodup_range']
  repeat' apply And.intro
  all_goals first
    | omega
    | (intros; omega)
def HH (u : HO) (M : Nat) (R0 S : List (List AV)) : Heap := some u :: some u :: some (.box (refs (List.range' 3 M) R0)) :: rowsH S
theorem gcE {x1 x2 x3 : AV} {M : Nat} {R0 S : List (List AV)} {e1 e2 e3 : Int} {gs : List AV} (hx1 : x1.idFree = true) (hx2 : x2.idFree = true) (hx3 : x3.idFree = true) (hM : R0.length = M) (hk : M < 100) (hS : S.map List.length = R0.map List.length) (hg : idFreeL gs = true) :
    gc 0 (.ptr 0 0 :: .ptr 1 0 :: .int .i64 e1 :: .int .i64 e2 :: .int .i64 e3 :: .sl 2 1 0 M :: gs) (HH (.box [x1, x2, x3]) M R0 S) = some (.ptr 0 0 :: .ptr 1 0 :: .int .i64 e1 :: .int .i64 e2 :: .int .i64 e3 :: .sl 2 1 0 M :: gs, HH (.box [x1, x2, x3]) M R0 S) := by
  have hSl : S.length = M := by have := congrArg List.length hS; simpa [hM] using this
  have e : HH (.box [x1, x2, x3]) M R0 S = some (.box [x1, x2, x3]) :: some (.box [x1, x2, x3]) :: some (.box (refs (List.range' 3 M) S)) :: rowsH S := by
    unfold HH; rw [refs_len _ hS.symm]
  rw [e]
  have h := gcD (H := some (.box [x1, x2, x3]) :: some (.box [x1, x2, x3]) :: some (.box (refs (List.range' 3 M) S)) :: rowsH S) (p1 := 0) (p2 := 1) (b := 2) (M := M) (is := List.range' 3 M) (R := S) (e1 := e1) (e2 := e2) (e3 := e3) hx1 hx2 hx3 hx1 hx2 hx3 rfl rfl rfl (by simp [hSl])
    (rng_rows0 [some (.box [x1, x2, x3]), some (.box [x1, x2, x3]), some (.box (refs (List.range' 3 M) S))] rfl) (by simp [List.mem_range'_1, List.nodup_range']) (by simpa using hk) hg
  rw [List.length_range'] at h
  exact h
set_option maxHeartbeats 4000000
theorem f9 {x : AV} {a : Gm} (hx : IsG x a) : ∃ m H', evF tab it m 9 [x] [] = some (.bool true, H') := by
  refine ⟨401, [], ?_⟩
  obtain ⟨xo, xr, xn, rfl, ho, hr, hn⟩ := id hx
  have fo := ho.free; have fr := hr.free; have fn := hn.free
  have ob : ∀ call, evE call [] (.box false) [.agg [xo, xr, xn]] = some (.ptr 0 0, [some (.box [xo, xr, xn])]) := fun call => by simp [evE, AV.cells, oneL, ho.one, hr.one, hn.one, mkHO]
  have h28 := fun H => c28 hx (hi := 9) (by omega) (m := 400) (by omega) H
  have hg := tame_good a (hi := 9) (by omega)
  have h9 : ¬ 9 ∈ (tameG a 9).rank := fun h => by have := tame_rank' a (hi := 9) (by omega) 9 h; omega
  obtain ⟨ha1, ha2⟩ := tame_rows a 9
  have hid : g30 (tameG a 9) = tameG a 9 := by
    obtain ⟨e1, e2, e3⟩ := tameN_eq a
    obtain ⟨l1, l2, l3⟩ := tameG_len a 9
    refine g30_id' (by omega) (by omega) (by omega) fun l hl => ?_
    simp only [tameG, List.mem_map, List.mem_range] at hl
    obtain ⟨i, hi, rfl⟩ := hl
    have := tRow_len (g30 a) (tameN a) i (tameN a)
    omega
  have h16 := fun H => c16 (isG_fz (tameG a 9)) (m := 400) (by omega) H
  rw [hid] at h16
  have hzo := isL_fz (tameG a 9).owner
  have hzr := isL_fz (tameG a 9).rank
  have hzn := isLL_fz (tameG a 9).next
  have hG := isG_fz (tameG a 9)
  unfold fzG at h28 hG h16
  generalize tameG a 9 = g at *
  have hg1 := hg.1; have hg2 := hg.2.1; have hg3 := hg.2.2.1
  have h29 := fun H => c29o hG ⟨ha1, ha2⟩ hg (m := 400) (by omega) H
  have h29' := fun H => c29 hG ⟨ha1, ha2⟩ (m := 400) (by omega) H
  simp only [if_pos hg] at h29'
  have h33 := fun H => c33o hG ⟨ha1, by omega, ha2⟩ ⟨hg, h9⟩ (m := 400) (by omega) H
  have hs := asc0 hg1.1
  have h18 := fun H => c18o hG (IsL.rd [0]) ⟨by omega, ha2⟩ (by simp) ⟨hg, by omega, hs⟩ (attr_ne hg) (m := 400) (by omega) H
  have hwl : (winL (zAll g).1 g.next.length).length = g.next.length := by simp [winL]
  have hml : (movL g (zAll g).1 (zAll g).2 g.next.length).length = g.next.length := by simp [movL]
  have hW := isL_fz (winL (zAll g).1 g.next.length)
  have hM := isL_fz (movL g (zAll g).1 (zAll g).2 g.next.length)
  have hright := z_right hg
  have h34 := fun H => c34 hG hW hM hg ha2 ⟨by omega, by omega⟩ (m := 400) (by omega) H
  rw [rightB_t hright] at h34
  have h20a := fun H => c20 hzo hzo (by omega) (m := 400) (by omega) H
  have h20b := fun H => c20 hzr hzr (by omega) (m := 400) (by omega) H
  simp only [decide_true] at h20a h20b
  have h23 := fun H => c23m (m := 400) (by omega) H
  have hal : (attrL g 0 [0]).length ≤ 24 := by simp only [attrL, List.length_map]; exact trues_len _
  have hLo : (iL (g.owner.map (1 - ·))).length = g.next.length := by simp [iL]; omega
  have hLr : (iL (g.rank.map (· + 1))).length = g.next.length := by simp [iL]; omega
  generalize attrL g 0 [0] = at0 at *
  have hLw : (iL (winL (zAll g).1 g.next.length)).length = g.next.length := by rw [iL_len]; exact hwl
  have hLm : (iL (movL g (zAll g).1 (zAll g).2 g.next.length)).length = g.next.length := by rw [iL_len]; exact hml
  generalize iL (winL (zAll g).1 g.next.length) = Lw at *
  generalize iL (movL g (zAll g).1 (zAll g).2 g.next.length) = Lm at *
  generalize iL (g.owner.map (1 - ·)) = Lo at *
  generalize iL (g.rank.map (· + 1)) = Lr at *
  have hLa : (iL at0).length ≤ 24 := by rw [iL_len]; exact hal
  generalize iL at0 = La at *
  generalize fzL (winL (zAll g).1 g.next.length) = w at *
  generalize fzL (movL g (zAll g).1 (zAll g).2 g.next.length) = mo at *
  generalize fzL g.owner = zo at *
  generalize fzL g.rank = zr at *
  generalize fzLL g.next = zn at *
  have go := hzo.free; have gr := hzr.free; have gn := hzn.free
  have al2 : ∀ call H, evE call H (.alloc false [.nilS, .nilS]) [] = some (.ptr H.length 0, H ++ [some (.box [.nilS, .nilS])]) := fun call H => rfl
  have al3 : ∀ call H, evE call H (.alloc false [.nilS, .nilS, .nilS]) [] = some (.ptr H.length 0, H ++ [some (.box [.nilS, .nilS, .nilS])]) := fun call H => rfl
  have stG : ∀ call H id, H[id]? = some (some (.box [.nilS, .nilS, .nilS])) → evE call H (.st 3) [.ptr id 0, .agg [zo, zr, zn]] = some (.undef, H.set id (some (.box [zo, zr, zn]))) := fun call H id h => e_st3 hzo.one hzr.one hzn.one h
  have stO : ∀ call H i j n, H[5]? = some (some (.box [.nilS, .nilS])) → evE call H (.st 2) [.ptr 5 0, .agg [.sl i 1 0 n, .sl j 1 0 n]] = some (.undef, H.set 5 (some (.box [.sl i 1 0 n, .sl j 1 0 n]))) := fun call H i j n h => by
    simp [evE, stAt, cells_agg, oneL, AV.one, h, putRow]
  have h29x := h29 [some (.box [xo, xr, xn]), some (.box [zo, zr, zn]), some (.box [zo, zr, zn])]
  have h33x := h33 [some (.box [xo, xr, xn]), some (.box [zo, zr, zn]), some (.box [zo, zr, zn]), some (.data Lw), some (.data Lm), some (.box [.sl 3 1 0 g.next.length, .sl 4 1 0 g.next.length])]
  simp only [List.length_cons, List.length_nil, Nat.zero_add, Nat.reduceAdd, List.cons_append, List.nil_append] at h29x h33x
  obtain ⟨R, hRd⟩ : ∃ R, R = g.next.map iL := ⟨_, rfl⟩
  have hRl : R.length = g.next.length := by rw [hRd]; simp
  have hRs : ∀ l ∈ R, l.length < 50 := by
    rw [hRd]; intro l hl
    obtain ⟨r, hr, rfl⟩ := List.mem_map.1 hl
    rw [iL_len]; exact ha2 r hr
  rw [← hRd] at h33x
  obtain ⟨X, hX⟩ : ∃ X : Heap, X = some (.box [xo, xr, xn]) :: some (.box [zo, zr, zn]) :: some (.box [zo, zr, zn]) :: some (.data Lw) :: some (.data Lm) :: some (.box [.sl 3 1 0 g.next.length, .sl 4 1 0 g.next.length]) :: some (.data Lo) :: some (.data Lr) :: some (.box (refs (List.range' 9 g.next.length) R)) :: rowsH R := ⟨_, rfl⟩
  rw [← hX] at h33x
  have hXl : X.length = 9 + g.next.length := by rw [hX]; simp [rowsH_length, hRl]; omega
  have x1 : X[1]? = some (some (.box [zo, zr, zn])) := by rw [hX]; rfl
  have x2 : X[2]? = some (some (.box [zo, zr, zn])) := by rw [hX]; rfl
  have x3 : X[3]? = some (some (.data Lw)) := by rw [hX]; rfl
  have x4 : X[4]? = some (some (.data Lm)) := by rw [hX]; rfl
  have x5 : X[5]? = some (some (.box [.sl 3 1 0 g.next.length, .sl 4 1 0 g.next.length])) := by rw [hX]; rfl
  have x6 : X[6]? = some (some (.data Lo)) := by rw [hX]; rfl
  have x7 : X[7]? = some (some (.data Lr)) := by rw [hX]; rfl
  have x8 : X[8]? = some (some (.box (refs (List.range' 9 g.next.length) R))) := by rw [hX]; rfl
  have x9 : ∀ (j i : Nat) (l : List AV), (List.range' 9 g.next.length)[j]? = some i → R[j]? = some l → X[i]? = some (some (.data l)) := by
    rw [hX]
    exact rng_rows0 [some (.box [xo, xr, xn]), some (.box [zo, zr, zn]), some (.box [zo, zr, zn]), some (.data Lw), some (.data Lm), some (.box [.sl 3 1 0 g.next.length, .sl 4 1 0 g.next.length]), some (.data Lo), some (.data Lr), some (.box (refs (List.range' 9 g.next.length) R))] rfl
  clear hX
  have hin : ∀ {i : Nat} {o : Option HO} (Y : Heap), X[i]? = some o → (X ++ Y)[i]? = some o := fun {i o} Y h => by
    rw [List.getElem?_append_left (List.getElem?_eq_some_iff.1 h).1]; exact h
  obtain ⟨b7, hb7⟩ : ∃ b : Option HO, b = some (.box [.sl 6 1 0 g.next.length, .sl 7 1 0 g.next.length, .sl 8 1 0 g.next.length]) := ⟨_, rfl⟩
  have st7 : evE (evF tab it 400) (X ++ [some (.box [.nilS, .nilS, .nilS])]) (.st 3) [.ptr X.length 0, .agg [.sl 6 1 0 g.next.length, .sl 7 1 0 g.next.length, .sl 8 1 0 g.next.length]] = some (.undef, X ++ [b7]) := by
    rw [hb7]; exact e_st3p rfl rfl rfl
  have h18x := h18 (X ++ [b7])
  have r5 : ((X ++ [b7]) ++ [some (.data La)])[5]? = some (some (.box [.sl 3 1 0 g.next.length, .sl 4 1 0 g.next.length])) := by rw [List.append_assoc]; exact hin _ x5
  have r7 : ((X ++ [b7]) ++ [some (.data La)])[X.length]? = some (some (.box [.sl 6 1 0 g.next.length, .sl 7 1 0 g.next.length, .sl 8 1 0 g.next.length])) := by rw [hb7]; simp
  obtain ⟨b9, hb9⟩ : ∃ b : Option HO, b = some (.box [.sl 3 1 0 g.next.length, .sl 4 1 0 g.next.length, .sl (X ++ [b7]).length 1 0 La.length, .sl 6 1 0 g.next.length, .sl 7 1 0 g.next.length]) := ⟨_, rfl⟩
  have eb5 : evE (evF tab it 400) ((X ++ [b7]) ++ [some (.data La)]) (.bldB 1 5 [.nilS] [(0, 1), (1, 1), (2, 1), (3, 1), (4, 1)]) [.sl 3 1 0 g.next.length, .sl 4 1 0 g.next.length, .sl (X ++ [b7]).length 1 0 La.length, .sl 6 1 0 g.next.length, .sl 7 1 0 g.next.length] = some (.sl (X.length + 2) 1 0 5, (X ++ [b7]) ++ [some (.data La)] ++ [b9]) := by
    rw [e_bldB5, hb9]; simp
  have r7' : ((X ++ [b7]) ++ [some (.data La)] ++ [b9])[X.length]? = some (some (.box [.sl 6 1 0 g.next.length, .sl 7 1 0 g.next.length, .sl 8 1 0 g.next.length])) := by rw [hb7]; simp
  have eap : evE (evF tab it 400) ((X ++ [b7]) ++ [some (.data La)] ++ [b9]) (.appB 1 24) [.sl (X.length + 2) 1 0 5, .sl 8 1 0 g.next.length] = some (.sl (X.length + 3) 1 0 (5 + g.next.length), X ++ [b7, some (.data La), none, some (.box (refs ([3, 4, X.length + 1, 6, 7] ++ List.range' 9 g.next.length) ([Lw, Lm, La, Lo, Lr] ++ R)))]) := by
    have hrf : refs ([3, 4, X.length + 1, 6, 7] ++ List.range' 9 g.next.length) ([Lw, Lm, La, Lo, Lr] ++ R) = [.sl 3 1 0 g.next.length, .sl 4 1 0 g.next.length, .sl (X.length + 1) 1 0 La.length, .sl 6 1 0 g.next.length, .sl 7 1 0 g.next.length] ++ refs (List.range' 9 g.next.length) R := by
      simp [refs, hLw, hLm, hLo, hLr]
    have hc1 : Heap.cells? ((X ++ [b7]) ++ [some (.data La)] ++ [b9]) (X.length + 2) = some [.sl 3 1 0 g.next.length, .sl 4 1 0 g.next.length, .sl (X.length + 1) 1 0 La.length, .sl 6 1 0 g.next.length, .sl 7 1 0 g.next.length] := by
      rw [hb9]; simp [Heap.cells?, HO.cells?]
    have hc2 : Heap.cells? ((X ++ [b7]) ++ [some (.data La)] ++ [b9]) 8 = some (refs (List.range' 9 g.next.length) R) := by
      refine cells?_iff.2 (.inr ?_)
      rw [List.append_assoc, List.append_assoc]; exact hin _ x8
    have e := e_appB_sl (call := evF tab it 400) (q := 24) (k := 5) (n := g.next.length) hc1 rfl hc2 (by rw [refs_length (by simp [hRl])]; exact hRl) (by omega) (by unfold most; omega)
    refine e.trans ?_
    rw [hrf]
    simp [List.set_append]
  have y1 : (X ++ [b7])[1]? = some (some (.box [zo, zr, zn])) := hin _ x1
  have h20c := fun (i : Int) (hi : 0 ≤ i ∧ i < g.next.length) H => c20 (hzn.at hi) (hzn.at hi) (show (getLL g.next i).length < 100 by have := getLL_lt ha2 (by omega) i; omega) (m := 400) (by omega) H
  simp only [decide_true] at h20c
  have fw := hW.free; have fm := hM.free
  have stW : ∀ call H, H[2]? = some (some (.box [.nilS, .nilS])) → evE call H (.st 2) [.ptr 2 0, .agg [w, mo]] = some (.undef, H.set 2 (some (.box [w, mo]))) := fun call H h => by
    simp [evE, stAt, cells_agg, oneL, hW.one, hM.one, h, putRow]
  clear h29 h33 h18
  refine f_enter rfl rfl ?_
  generalize evF tab it 400 = call at *
  repeat' first
 | (apply s_mov; (focus ((conv => lhs; whnf); done)))
 | (apply c_nil)
 | (apply s_en; (focus (repeat (first | apply opds_nil | (apply opds_cons; (first | (focus ((conv => lhs; whnf); done)) | exact rfl))))); exact ob _)
 | (apply s_en; (focus (repeat (first | apply opds_nil | (apply opds_cons; (first | (focus ((conv => lhs; whnf); done)) | exact rfl))))); exact al2 _ _)
 | (apply s_en; (focus (repeat (first | apply opds_nil | (apply opds_cons; (first | (focus ((conv => lhs; whnf); done)) | exact rfl))))); exact al3 _ _)
 | (apply s_cn; (focus (repeat (first | apply opds_nil | (apply opds_cons; (first | (focus ((conv => lhs; whnf); done)) | exact rfl))))); exact h28 _)
 | (apply s_cn; (focus (repeat (first | apply opds_nil | (apply opds_cons; (first | (focus ((conv => lhs; whnf); done)) | exact rfl))))); exact h16 _)
 | (apply s_cn; (focus (repeat (first | apply opds_nil | (apply opds_cons; (first | (focus ((conv => lhs; whnf); done)) | exact rfl))))); exact h29x)
 | (apply s_cn; (focus (repeat (first | apply opds_nil | (apply opds_cons; (first | (focus ((conv => lhs; whnf); done)) | exact rfl))))); exact h33x)
 | (apply s_cn; (focus (repeat (first | apply opds_nil | (apply opds_cons; (first | (focus ((conv => lhs; whnf); done)) | exact rfl))))); exact h18x)
 | (apply s_st; (focus (repeat (first | apply opds_nil | (apply opds_cons; (first | (focus ((conv => lhs; whnf); done)) | exact rfl))))); exact st7)
 | (apply s_st; (focus (repeat (first | apply opds_nil | (apply opds_cons; (first | (focus ((conv => lhs; whnf); done)) | exact rfl))))); exact stG _ _ _ rfl)
 | (apply s_st; (focus (repeat (first | apply opds_nil | (apply opds_cons; (first | (focus ((conv => lhs; whnf); done)) | exact rfl))))); exact stO _ _ _ _ _ rfl)
 | (apply s_pn; (focus (repeat (first | apply opds_nil | (apply opds_cons; (first | (focus ((conv => lhs; whnf); done)) | exact rfl))))); exact p_ldbox3 y1)
 | (apply s_pn; (focus (repeat (first | apply opds_nil | (apply opds_cons; (first | (focus ((conv => lhs; whnf); done)) | exact rfl))))); exact p_ldbox r5 rfl)
 | (apply s_pn; (focus (repeat (first | apply opds_nil | (apply opds_cons; (first | (focus ((conv => lhs; whnf); done)) | exact rfl))))); exact p_ldbox r7 rfl)
 | (apply s_pn; (focus (repeat (first | apply opds_nil | (apply opds_cons; (first | (focus ((conv => lhs; whnf); done)) | exact rfl))))); exact p_ldbox r7' rfl)
 | (apply s_en; (focus (repeat (first | apply opds_nil | (apply opds_cons; (first | (focus ((conv => lhs; whnf); done)) | exact rfl))))); exact eb5)
 | (apply s_en; (focus (repeat (first | apply opds_nil | (apply opds_cons; (first | (focus ((conv => lhs; whnf); done)) | exact rfl))))); exact e_bld1 rfl rfl rfl rfl)
 | (apply s_en; (focus (repeat (first | apply opds_nil | (apply opds_cons; (first | (focus ((conv => lhs; whnf); done)) | exact rfl))))); exact eap)
 | (apply s_pd; (focus ((conv => lhs; whnf); done)))
 | (apply c_seq)
 | (apply c_reg)
 | (apply c_block)
 | (with_reducible apply k_c)
  obtain ⟨R0, hR0⟩ : ∃ R0, R0 = [Lw, Lm, La, Lo, Lr] ++ R := ⟨_, rfl⟩
  have hR0l : R0.length = 5 + g.next.length := by rw [hR0]; simp [hRl]; omega
  have hR0s : ∀ l ∈ R0, l.length < 50 := by
    rw [hR0]; intro l hl
    simp only [List.mem_append, List.mem_cons, List.not_mem_nil, or_false] at hl
    rcases hl with (rfl | rfl | rfl | rfl | rfl) | hl
    · omega
    · omega
    · omega
    · omega
    · omega
    · exact hRs l hl
  rw [← hR0]
  refine c_loop ?_
  refine loop_gc (σ := Nat × List (List AV)) (fun s => [.ptr 0 0, .ptr 1 0, .int .i64 0, .int .i64 0, .int .i64 0, .sl 2 1 0 (5 + g.next.length), .int .i64 s.1]) (fun s => HH (.box [zo, zr, zn]) (5 + g.next.length) R0 s.2) (fun s => s.1 ≤ 5 + g.next.length ∧ s.2.map List.length = R0.map List.length) (fun s => 5 + g.next.length - s.1) ?_ _ (0, R0) _ _ ⟨by omega, rfl⟩ (by dsimp only; omega) ?_
  rotate_left
  · have hY := fun i (h : i < 4) => List.getElem?_append_right (l₁ := X) (l₂ := [b7, some (.data La), none, some (.box (refs ([3, 4, X.length + 1, 6, 7] ++ List.range' 9 g.next.length) R0))]) (i := X.length + i) (by omega)
    refine (gc_eq rfl rfl).trans ((gcD (p1 := 1) (p2 := 2) (b := X.length + 3) (M := 5 + g.next.length) (is := [3, 4, X.length + 1, 6, 7] ++ List.range' 9 g.next.length) (R := R0) (e1 := 0) (e2 := 0) (e3 := 0) (gs := [.int .i64 0]) go gr gn go gr gn (hin _ x1) (hin _ x2) (by rw [hY 3 (by omega)]; simp) (by simp [hR0l]; omega) ?_ ?_ (by simp; omega) rfl).trans ?_)
    · intro j i l h1 h2
      rw [hR0] at h2
      rcases Nat.lt_or_ge j 5 with hj | hj
      · rw [List.getElem?_append_left (by simpa using hj)] at h1 h2
        rcases j with _ | _ | _ | _ | _ | j
        · simp at h1 h2; subst h1; subst h2; exact hin _ x3
        · simp at h1 h2; subst h1; subst h2; exact hin _ x4
        · simp at h1 h2; subst h1; subst h2; rw [hY 1 (by omega)]; simp
        · simp at h1 h2; subst h1; subst h2; exact hin _ x6
        · simp at h1 h2; subst h1; subst h2; exact hin _ x7
        · omega
      · rw [List.getElem?_append_right (by simpa using hj)] at h1 h2
        exact hin _ (x9 _ _ _ h1 h2)
    · exact nd9 hXl
    · simp only [HH, List.length_append, List.length_range', List.length_cons, List.length_nil, Nat.zero_add, Nat.reduceAdd]
      rfl
  intro s hs K hK
  obtain ⟨i, S⟩ := s
  obtain ⟨hi, hS⟩ := hs
  dsimp only at hi hS
  repeat' first
 | (apply s_mov; (focus ((conv => lhs; whnf); done)))
 | (apply c_nil)
 | ((first | apply s_lss | apply s_leq | apply s_gtr | apply s_geq | apply s_eql | apply s_neq); exact rfl; all_goals (intro _; try (exfalso; omega)))
 | (apply s_lenSl; exact rfl)
 | (apply c_seq)
 | (apply c_reg)
 | (apply c_block)
 | (apply c_exitH)
 | (apply c_skip)
 | (apply c_condT; exact rfl)
 | (apply c_condF; exact rfl)
 | (with_reducible apply k_c)
  · have hiM : i < R0.length := by omega
    obtain ⟨c0, hc0⟩ : ∃ c0, R0[i]? = some c0 := ⟨_, List.getElem?_eq_getElem hiM⟩
    have hcl := hR0s c0 (List.mem_of_getElem? hc0)
    have href : (refs (List.range' 3 (5 + g.next.length)) R0)[((i : Nat) : Int).toNat]? = some (.sl (3 + i) 1 0 c0.length) := by
      rw [Int.toNat_natCast]
      exact refs_get (by rw [List.getElem?_range' (by omega)]; simp) hc0
    refine c_loop ?_
    refine loop_gc (σ := Nat × List (List AV)) (fun t => [.ptr 0 0, .ptr 1 0, .int .i64 0, .int .i64 0, .int .i64 0, .sl 2 1 0 (5 + g.next.length), .int .i64 (i : Nat), .int .i64 t.1]) (fun t => HH (.box [zo, zr, zn]) (5 + g.next.length) R0 t.2) (fun t => t.1 ≤ c0.length ∧ t.2.map List.length = R0.map List.length) (fun t => c0.length - t.1) ?_ _ (0, S) _ _ ⟨by omega, hS⟩ (by dsimp only; omega) ?_
    rotate_left
    · exact gcE go gr gn hR0l (by omega) hS rfl
    intro t ht K' hK'
    obtain ⟨k, S'⟩ := t
    obtain ⟨hk, hS'⟩ := ht
    dsimp only at hk hS'
    have hS'l : S'.length = R0.length := by have := congrArg List.length hS'; simpa using this
    obtain ⟨c1, hc1⟩ : ∃ c1, S'[i]? = some c1 := ⟨_, List.getElem?_eq_getElem (by omega)⟩
    have hc01 : c1.length = c0.length := by
      have := congrArg (fun l => l[i]?) hS'
      simp [hc0, hc1] at this
      exact this
    have hH2 : Heap.cells? (HH (.box [zo, zr, zn]) (5 + g.next.length) R0 S') 2 = some (refs (List.range' 3 (5 + g.next.length)) R0) := rfl
    have hH3 : (HH (.box [zo, zr, zn]) (5 + g.next.length) R0 S')[3 + i]? = some (some (.data c1)) := by
      have := rng_rows0 [some (HO.box [zo, zr, zn]), some (.box [zo, zr, zn]), some (.box (refs (List.range' 3 (5 + g.next.length)) R0))] (s := 3) (q := 5 + g.next.length) (R := S') rfl i (3 + i) c1 (by rw [List.getElem?_range' (by omega)]; simp) hc1
      exact this
    repeat' first
 | (apply s_mov; (focus ((conv => lhs; whnf); done)))
 | (apply c_nil)
 | ((first | apply s_lss | apply s_leq | apply s_gtr | apply s_geq | apply s_eql | apply s_neq); exact rfl; all_goals (intro _; try (exfalso; omega)))
 | ((first | apply s_add | apply s_sub); exact rfl; omega)
 | (apply s_pn; (focus (repeat (first | apply opds_nil | (apply opds_cons; (first | (focus ((conv => lhs; whnf); done)) | exact rfl))))); exact p_ldV hH2 href)
 | (apply s_st; (focus (repeat (first | apply opds_nil | (apply opds_cons; (first | (focus ((conv => lhs; whnf); done)) | exact rfl))))); exact e_stRow hH3 (by omega))
 | (apply s_lenSl; exact rfl)
 | (apply s_idxS; exact rfl; exact rfl; omega)
 | (apply c_seq)
 | (apply c_reg)
 | (apply c_block)
 | (apply c_exitH)
 | (apply c_skip)
 | (apply c_condT; exact rfl)
 | (apply c_condF; exact rfl)
 | (with_reducible apply k_c)
    · have hpl : (putRow c1 ((k : Nat) : Int).toNat [AV.int .i64 (-7)]).length = c1.length := putRow_length (by simp; omega)
      refine hK' (k + 1, S'.set i (putRow c1 ((k : Nat) : Int).toNat [AV.int .i64 (-7)])) _ _ ⟨by omega, by rw [set_lens hc1 hpl]; exact hS'⟩ (by dsimp only; omega) ?_
      refine (gc_eq rfl (set_rows [some (HO.box [zo, zr, zn]), some (.box [zo, zr, zn]), some (.box (refs (List.range' 3 (5 + g.next.length)) R0))] rfl)).trans ?_
      exact gcE go gr gn hR0l (by omega) (by rw [set_lens hc1 hpl]; exact hS') rfl
    · refine c_pre (gcE (gs := [.int .i64 (i : Nat)]) go gr gn hR0l (by omega) hS' rfl) ?_
      repeat' first
 | (apply s_mov; (focus ((conv => lhs; whnf); done)))
 | (apply c_nil)
 | ((first | apply s_add | apply s_sub); exact rfl; omega)
 | (apply c_reg)
      refine hK (i + 1, S') _ _ ⟨by omega, hS'⟩ (by dsimp only; omega) ?_
      exact gcE go gr gn hR0l (by omega) hS' rfl
  · refine c_pre (vs := [.ptr 0 0, .ptr 1 0, .int .i64 0, .int .i64 0, .int .i64 0]) (H' := [some (.box [zo, zr, zn]), some (.box [zo, zr, zn])]) (by simp [go_sem, HH, go, gr, gn]; done) ?_
    repeat' first
 | (apply s_mov; (focus ((conv => lhs; whnf); done)))
 | (apply s_gT; exact rfl)
 | (apply c_nil)
 | (apply s_pickF; exact rfl; (focus ((conv => lhs; whnf); done)))
 | (apply s_notT; exact rfl)
 | ((first | apply s_lss | apply s_leq | apply s_gtr | apply s_geq | apply s_eql | apply s_neq); exact rfl; all_goals (intro _; try (exfalso; omega)))
 | (apply s_en; (focus (repeat (first | apply opds_nil | (apply opds_cons; (first | (focus ((conv => lhs; whnf); done)) | exact rfl))))); exact al2 _ _)
 | (apply s_cn; (focus (repeat (first | apply opds_nil | (apply opds_cons; (first | (focus ((conv => lhs; whnf); done)) | exact rfl))))); exact h29' _)
 | (apply s_cn; (focus (repeat (first | apply opds_nil | (apply opds_cons; (first | (focus ((conv => lhs; whnf); done)) | exact rfl))))); exact h20a _)
 | (apply s_cn; (focus (repeat (first | apply opds_nil | (apply opds_cons; (first | (focus ((conv => lhs; whnf); done)) | exact rfl))))); exact h20b _)
 | (apply s_st; (focus (repeat (first | apply opds_nil | (apply opds_cons; (first | (focus ((conv => lhs; whnf); done)) | exact rfl))))); exact stW _ _ rfl)
 | (apply s_lenLL; (focus ((conv => lhs; whnf); done)); assumption)
 | (apply s_pd; (focus ((conv => lhs; whnf); done)))
 | (apply c_seq)
 | (apply c_reg)
 | (apply c_block)
 | (apply c_skip)
 | (apply c_condF; exact rfl)
 | (with_reducible apply k_c)
    refine c_loop ?_
    refine loop_gc (σ := Nat) (fun i => [.ptr 0 0, .ptr 1 0, .ptr 2 0, .int .i64 i]) (fun i => [some (.box [zo, zr, zn]), some (.box [zo, zr, zn]), some (.box [w, mo])]) (fun i => i ≤ g.next.length) (fun i => g.next.length - i) ?_ _ 0 _ _ (by omega) (by omega) (by simp [go_sem, go, gr, gn, fw, fm]; done)
    intro j hj K2 hK2
    repeat' first
 | (apply s_mov; (focus ((conv => lhs; whnf); done)))
 | (apply c_nil)
 | (apply s_notT; exact rfl)
 | ((first | apply s_lss | apply s_leq | apply s_gtr | apply s_geq | apply s_eql | apply s_neq); exact rfl; all_goals (intro _; try (exfalso; omega)))
 | ((first | apply s_add | apply s_sub); exact rfl; omega)
 | (apply s_cn; (focus (repeat (first | apply opds_nil | (apply opds_cons; (first | (focus ((conv => lhs; whnf); done)) | exact rfl))))); exact h20c _ (by omega) _)
 | (apply s_lenLL; (focus ((conv => lhs; whnf); done)); assumption)
 | (apply s_idxLL; (focus ((conv => lhs; whnf); done)); exact rfl; assumption; omega)
 | (apply s_ldLL; exact rfl; assumption; omega)
 | (apply s_pd; (focus ((conv => lhs; whnf); done)))
 | (apply c_seq)
 | (apply c_reg)
 | (apply c_block)
 | (apply c_exitH)
 | (apply c_skip)
 | (apply c_condT; exact rfl)
 | (apply c_condF; exact rfl)
 | (with_reducible apply k_c)
    · refine hK2 (j + 1) _ _ (by omega) (by omega) ?_
      exact (by simp [go_sem, go, gr, gn, fw, fm]; done)
    · refine c_pre (vs := [.ptr 0 0, .ptr 1 0]) (H' := [some (.box [zo, zr, zn]), some (.box [w, mo])]) (by simp [go_sem, go, gr, gn, fw, fm]; done) ?_
      repeat' first
 | (apply s_mov; (focus ((conv => lhs; whnf); done)))
 | (apply s_gT; exact rfl)
 | (apply c_nil)
 | (apply s_pickT; exact rfl; (focus ((conv => lhs; whnf); done)))
 | (apply s_cn; (focus (repeat (first | apply opds_nil | (apply opds_cons; (first | (focus ((conv => lhs; whnf); done)) | exact rfl))))); exact h34 _)
 | (apply s_cn; (focus (repeat (first | apply opds_nil | (apply opds_cons; (first | (focus ((conv => lhs; whnf); done)) | exact rfl))))); exact h23 _)
 | (apply s_pd; (focus ((conv => lhs; whnf); done)))
 | (apply c_seq)
 | (apply c_reg)
 | (apply c_ret)
 | (with_reducible apply k_c)
      all_goals (refine fin_t (v := .bool true) ?_ ?_ ?_ <;> exact rfl)
end Go.AM.Pa
