/- A part of the proof: E2 E3 E4 E5. -/
import Derived.Test.YtmegimhfoedcdaaU53a
import Derived.Test.YtmegimhfoedcdaaD5
import Derived.Test.YtmegimhfoedcdaaD2
import Derived.Test.YtmegimhfoedcdaaM3
set_option linter.unusedVariables false
set_option linter.unusedSimpArgs false
set_option linter.unusedSectionVars false
namespace Go.AM.Ch
set_option maxHeartbeats 4000000
theorem s_stK {call : CallF} {K : KT} {env : Env} {H : Heap} {res : R} {e : EO} {xs kp : List Opd} {r : List AI} {v : AV} {vs : List AV} {H' : Heap} (ho : opds env xs = vs) (h : evE call H e vs = some (v, H')) (hk : keptOk H H' (opds env kp) = true) (g : RR call r K env H' res) :
    RR call (⟨.inr e, xs, none, none, kp⟩ :: r) K env H res := ⟨by
  have := g.eq
  rw [← ho] at h
  simpa only [evR, evI, h, Option.bind_some, hk, if_true, putE] using this⟩
theorem refs_set : ∀ (is : List Nat) (R : List (List AV)) (i a : Nat) (r : List AV), is.length = R.length → (refs is R).set i (.sl a 1 0 r.length) = refs (is.set i a) (R.set i r)
  | [], [], i, a, r, _ => by simp [refs]
  | [], _ :: _, _, _, _, h => by simp at h
  | _ :: _, [], _, _, _, h => by simp at h
  | i0 :: is, l :: R, 0, a, r, h => by simp [refs]
  | i0 :: is, l :: R, i + 1, a, r, h => by simp [refs, refs_set is R i a r (by simpa using h)]
theorem gcQ {H : Heap} {pre gs1 gs2 : List AV} {p q M : Nat} {is : List Nat} {R : List (List AV)} {c : AV} (hp : idFreeL pre = true) (hpl : pre.length ≤ 20) (hg1 : idFreeL gs1 = true) (hg1l : gs1.length ≤ 20) (hg2 : idFreeL gs2 = true)
    (hb : H[p]? = some (some (.box (refs is R)))) (hl : is.length = R.length) (hR : ∀ (j i : Nat) (l : List AV), is[j]? = some i → R[j]? = some l → H[i]? = some (some (.data l))) (hq : H[q]? = some (some (.data [c]))) (hd : (p :: (is ++ [q])).Nodup) (hk : is.length < 100) :
    gc 0 (pre ++ .sl p 1 0 M :: (gs1 ++ .ptr q 0 :: gs2)) H = some (pre ++ .sl 0 1 0 M :: (gs1 ++ .ptr (is.length + 1) 0 :: gs2), some (.box (refs (List.range' 1 is.length) R)) :: (rowsH R ++ [some (.data [c])])) := by
  have hφ : nodupB (p :: (is ++ [q])) = true := nodupB_iff.2 hd
  have q1 : posOf (p :: (is ++ [q])) p = some 0 := posOf_of_get hφ (j := 0) rfl
  have q2 : posOf (p :: (is ++ [q])) q = some (is.length + 1) := posOf_of_get hφ (j := is.length + 1) (by simp)
  have pr : renL (posOf (p :: (is ++ [q]))) (refs is R) = some (refs (List.range' 1 is.length) R) := renL_refs hφ is R 1 hl fun j i h => by
    rw [Nat.add_comm, List.getElem?_cons_succ]
    have hj := (List.getElem?_eq_some_iff.1 h).1
    rw [List.getElem?_append_left hj]; exact h
  have hpick := pickO_refs is R hl hR
  obtain ⟨d1, d2⟩ := List.nodup_cons.1 hd
  rw [List.nodup_append] at d2
  obtain ⟨d3, -, d4⟩ := d2
  simp only [List.mem_append, List.mem_singleton, not_or] at d1
  refine gc_of (φ := p :: (is ++ [q])) ?_ hφ (vs' := pre ++ .sl 0 1 0 M :: (gs1 ++ .ptr (is.length + 1) 0 :: gs2)) ?_ (Hp := some (.box (refs is R)) :: (rowsH R ++ [some (.data [c])])) ?_ ?_
  · have b2 : boxCells H p = refs is R := by simp [boxCells, hb]
    have b3 : boxCells H q = [] := by simp [boxCells, hq]
    have e : reach H 400 (rangeL 0 []) (roots H (rangeL 0 []) ++ (pre ++ .sl p 1 0 M :: (gs1 ++ .ptr q 0 :: gs2))) = reach H (399 - pre.length) [p] (refs is R ++ (gs1 ++ .ptr q 0 :: gs2)) := by
      have h1 : rangeL 0 [] = [] := rfl
      have h2 : roots H (rangeL 0 []) = [] := rfl
      rw [h2, List.nil_append, h1, show (400 : Nat) = (400 - pre.length) + pre.length by omega, reach_pre pre hp, show 400 - pre.length = (399 - pre.length) + 1 by omega, reach_new, b2]
      simp
    rw [e, reach_refs' (by omega) hl (fun i hi => ?_) d3 (rows_box hl hR), show 399 - pre.length - is.length = (399 - pre.length - is.length - gs1.length) + gs1.length by omega, reach_pre gs1 hg1, show 399 - pre.length - is.length - gs1.length = (398 - pre.length - is.length - gs1.length) + 1 by omega, reach_newp, b3]
    · have hc : ([p] ++ is).contains q = false := by
        simp only [List.contains_eq_mem, List.singleton_append, List.mem_cons, decide_eq_false_iff_not, not_or]
        exact ⟨fun h => d1.2 h.symm, fun h => d4 q h q (by simp) rfl⟩
      rw [hc]
      simp only [Bool.false_eq_true, if_false, List.nil_append]
      rw [reach_free _ _ _ _ hg2]
      simp
    · have h3 : i ≠ p := fun e => d1.1 (e ▸ hi)
      simp [h3]
  · rw [renL_append, renL_free hp]
    simp [renL, AV.ren, q1, q2, renL_free hg2, renL_append, renL_free hg1]
  · simp [pickO, hb, pickO_append, hpick, hq]
  · simp [renH, renO, pr, renH_append, renH_rows]
structure RA (H : Heap) (is : List Nat) (rows : List (List Int)) : Prop where
  bx : H[0]? = some (some (.box (refs is (rows.map iL))))
  ln : is.length = rows.length
  rw : ∀ j i : Nat, is[j]? = some i → H[i]? = some (some (.data (iL (getLL rows (j : Int)))))
theorem RA.ld {H : Heap} {is : List Nat} {rows : List (List Int)} (h : RA H is rows) {j i : Nat} (hj : is[j]? = some i) : evP H (.ld false 1) [.ptr 0 j] = some (.sl i 1 0 (getLL rows (j : Int)).length) := by
  have hjl := (List.getElem?_eq_some_iff.1 hj).1
  have hil : j < rows.length := by rw [← h.ln]; exact hjl
  have hc : Heap.cells? H 0 = some (refs is (rows.map iL)) := cells?_iff.2 (.inr h.bx)
  have hr := refs_get hj (rows_at hil)
  rw [iL_len] at hr
  obtain ⟨h1, h2⟩ := List.getElem?_eq_some_iff.1 hr
  have h5 : j + 1 ≤ (refs is (rows.map iL)).length := by omega
  simp only [evP, ldc, getRow, hc, Option.bind_some, if_pos h5]
  rw [List.drop_eq_getElem_cons h1, h2]
  simp [wholeOf]
theorem p_ldD {H : Heap} {i k : Nat} {l : List Int} (h : H[i]? = some (some (.data (iL l)))) (hk : k < l.length) : evP H (.ld false 1) [.ptr i k] = some (.int .i64 (getI l (k : Int))) := by
  have hc : Heap.cells? H i = some (iL l) := cells?_iff.2 (.inl h)
  have hr : (iL l)[k]? = some (.int .i64 (getI l (k : Int))) := by rw [getI_nat]; simp [iL, List.getD, hk]
  obtain ⟨h1, h2⟩ := List.getElem?_eq_some_iff.1 hr
  have h5 : k + 1 ≤ (iL l).length := by omega
  simp only [evP, ldc, getRow, hc, Option.bind_some, if_pos h5]
  rw [List.drop_eq_getElem_cons h1, h2]
  simp [wholeOf]
theorem RA.get {H : Heap} {is : List Nat} {rows : List (List Int)} (h : RA H is rows) {j i k : Nat} (hj : is[j]? = some i) (hk : k < (getLL rows (j : Int)).length) : evP H (.ld false 1) [.ptr i k] = some (.int .i64 (getI (getLL rows (j : Int)) (k : Int))) :=
  p_ldD (h.rw j i hj) hk
def HC (n : Nat) (rows : List (List Int)) (c : Nat) : Heap := HB n rows ++ [some (.data (iL [(c : Int)]))]
theorem hb_length {n : Nat} {rows : List (List Int)} (h : Rows n rows) : (HB n rows).length = n + 1 := by simp [HB, rowsH, h.len]
theorem rng1 {n j : Nat} (h : j < n) : (List.range' 1 n)[j]? = some (1 + j) := by rw [List.getElem?_range' h]; simp
theorem ra_hb {n : Nat} {rows : List (List Int)} (h : Rows n rows) (X : Heap) : RA (HB n rows ++ X) (List.range' 1 n) rows := by
  have hl := hb_length h
  refine ⟨?_, by simp [h.len], fun j i hj => ?_⟩
  · rw [List.getElem?_append_left (by omega)]; rfl
  · obtain ⟨rfl, hjn⟩ := rng_get hj
    rw [List.getElem?_append_left (by omega)]
    exact hb_row h hjn
theorem hc_cell {n c : Nat} {rows : List (List Int)} (h : Rows n rows) : (HC n rows c)[n + 1]? = some (some (.data (iL [(c : Int)]))) := by
  unfold HC
  rw [List.getElem?_append_right (by rw [hb_length h]; omega), hb_length h, Nat.sub_self]
  rfl
theorem hc_c {n c : Nat} {rows : List (List Int)} (h : Rows n rows) : evP (HC n rows c) (.ld false 1) [.ptr (n + 1) 0] = some (.int .i64 (c : Int)) := by
  have := p_ldD (k := 0) (hc_cell (c := c) h) (by simp)
  rw [this]
  have e : getI [(c : Int)] ((0 : Nat) : Int) = (c : Int) := by rw [getI_nat]; rfl
  rw [e]
theorem hc_ld {n i c : Nat} {rows : List (List Int)} (h : Rows n rows) (hi : i < n) : evP (HC n rows c) (.ld false 1) [.ptr 0 i] = some (.sl (1 + i) 1 0 n) := by
  have := (ra_hb h [some (.data (iL [(c : Int)]))]).ld (rng1 hi)
  rw [h.get hi] at this
  exact this
theorem hc_get {n i k c : Nat} {rows : List (List Int)} (h : Rows n rows) (hi : i < n) (hk : k < n) : evP (HC n rows c) (.ld false 1) [.ptr (1 + i) k] = some (.int .i64 (getI (getLL rows (i : Int)) (k : Int))) :=
  (ra_hb h [some (.data (iL [(c : Int)]))]).get (rng1 hi) (by rw [h.get hi]; exact hk)
theorem hc_st {call : CallF} {n i j c : Nat} {x : Int} {rows : List (List Int)} (h : Rows n rows) (hi : i < n) (hj : j < n) : evE call (HC n rows c) (.st 1) [.ptr (1 + i) j, .int .i64 x] = some (.undef, HC n (setLL rows i j x) c) := by
  have h0 := hb_st (call := call) (x := x) h hi hj
  have h1 := hb_row h hi
  have hl : 1 + i < (HB n rows).length := by rw [hb_length h]; omega
  have hd : Heap.data? (HB n rows) (1 + i) = some (iL (getLL rows (i : Int))) := data?_iff.2 h1
  rw [e_stO (call := call) (H := HB n rows) (id := 1 + i) (l := getLL rows (i : Int)) (i := j) (v := x) hd (by rw [h.get hi]; exact hj)] at h0
  have h2 : (HC n rows c)[1 + i]? = some (some (.data (iL (getLL rows (i : Int))))) := by unfold HC; rw [List.getElem?_append_left hl]; exact h1
  rw [e_stO (call := call) (H := HC n rows c) (id := 1 + i) (l := getLL rows (i : Int)) (i := j) (v := x) (data?_iff.2 h2) (by rw [h.get hi]; exact hj)]
  injection h0 with h0
  injection h0 with _ h0
  unfold HC
  rw [← h0, List.set_append_left _ _ hl]
theorem gcHC {pre gs1 gs2 : List AV} {n M c : Nat} {rows : List (List Int)} (h : Rows n rows) (hn : n < 100) (hp : idFreeL pre = true) (hpl : pre.length ≤ 20) (hg1 : idFreeL gs1 = true) (hg1l : gs1.length ≤ 20) (hg2 : idFreeL gs2 = true) :
    gc 0 (pre ++ .sl 0 1 0 M :: (gs1 ++ .ptr (n + 1) 0 :: gs2)) (HC n rows c) = some (pre ++ .sl 0 1 0 M :: (gs1 ++ .ptr (n + 1) 0 :: gs2), HC n rows c) := by
  have ra := ra_hb h [some (.data (iL [(c : Int)]))]
  have := gcQ (H := HC n rows c) (pre := pre) (gs1 := gs1) (gs2 := gs2) (p := 0) (q := n + 1) (M := M) (is := List.range' 1 n) (R := rows.map iL) (c := .int .i64 (c : Int)) hp hpl hg1 hg1l hg2 ra.bx (by simp [h.len]) (fun j i l hj hl => by
    rw [show HC n rows c = HB n rows ++ [some (.data (iL [(c : Int)]))] from rfl, ra.rw j i hj]
    have hjr : j < rows.length := by have := (List.getElem?_eq_some_iff.1 hl).1; simpa using this
    rw [rows_at hjr] at hl
    injection hl with hl
    rw [hl]) (hc_cell h) (by
      simp only [List.nodup_cons, List.mem_append, List.mem_range'_1, List.mem_singleton, List.nodup_append, List.nodup_range', List.not_mem_nil, not_false_eq_true, true_and, and_true]
      refine ⟨by omega, List.nodup_range', by simp, fun a ha b hb => ?_⟩
      omega) (by simpa using hn)
  rw [this]
  simp [HC, HB, iL]
theorem gcHC0 {pre gs : List AV} {n M c : Nat} {rows : List (List Int)} (h : Rows n rows) (hn : n < 100) (hp : idFreeL pre = true) (hpl : pre.length ≤ 20) (hg : idFreeL gs = true) :
    gc 0 (pre ++ .sl 0 1 0 M :: gs) (HC n rows c) = some (pre ++ .sl 0 1 0 M :: gs, HB n rows) := by
  have ra := ra_hb h [some (.data (iL [(c : Int)]))]
  have := gcR (H := HC n rows c) (pre := pre) (gs := gs) (p := 0) (M := M) (is := List.range' 1 n) (R := rows.map iL) hp hpl hg ra.bx (by simp [h.len]) (fun j i l hj hl => by
    rw [show HC n rows c = HB n rows ++ [some (.data (iL [(c : Int)]))] from rfl, ra.rw j i hj]
    have hjr : j < rows.length := by have := (List.getElem?_eq_some_iff.1 hl).1; simpa using this
    rw [rows_at hjr] at hl
    injection hl with hl
    rw [hl]) (by simp [List.mem_range'_1, List.nodup_range']) (by simpa using hn)
  rw [this]
  simp [HB]
def HP (n : Nat) (rows : List (List Int)) : Heap := some (.box (refs (List.range' 1 rows.length) (rows.map iL) ++ List.replicate (n - rows.length) .nilS)) :: rowsH (rows.map iL)
theorem hp_full {n : Nat} {rows : List (List Int)} (h : Rows n rows) : HP n rows = HB n rows := by
  unfold HP HB
  rw [h.len]
  simp
structure RowsP (i n : Nat) (rows : List (List Int)) : Prop where
  len : rows.length = i
  each : ∀ r ∈ rows, r.length = n
theorem RowsP.get {k n : Nat} {rows : List (List Int)} (h : RowsP k n rows) {i : Nat} (hi : i < k) : (getLL rows (i : Int)).length = n := by
  rw [getLL_nat]
  have : i < rows.length := by rw [h.len]; exact hi
  simp only [List.getD, List.getElem?_eq_getElem this, Option.getD_some]
  exact h.each _ (List.getElem_mem this)
theorem RowsP.set {k n i j : Nat} {x : Int} {rows : List (List Int)} (h : RowsP k n rows) (hi : i < k) : RowsP k n (setLL rows i j x) := by
  refine ⟨by simp [setLL, h.len], fun r hr => ?_⟩
  unfold setLL at hr
  rcases List.mem_or_eq_of_mem_set hr with hr | hr
  · exact h.each r hr
  · rw [hr, List.length_set]; exact h.get hi
theorem RowsP.setget {k n i j p q : Nat} {x : Int} {rows : List (List Int)} (h : RowsP k n rows) (hi : i < k) (hj : j < n) : getI (getLL (setLL rows i j x) (p : Int)) (q : Int) = if p = i ∧ q = j then x else getI (getLL rows (p : Int)) (q : Int) := by
  have hil : i < rows.length := by rw [h.len]; exact hi
  have hrl := h.get hi
  have e : getLL (setLL rows i j x) (p : Int) = if p = i then (getLL rows (i : Int)).set j x else getLL rows (p : Int) := by
    unfold setLL
    rw [getLL_nat, getLL_nat rows p]
    by_cases hp : p = i
    · subst hp; simp [List.getD, hil]
    · rw [if_neg hp]; simp [List.getD, List.getElem?_set_ne (Ne.symm hp)]
  rw [e]
  by_cases hp : p = i
  · subst hp
    rw [if_pos rfl, getI_set (by omega)]
    by_cases hq : q = j
    · rw [if_pos hq, if_pos ⟨rfl, hq⟩]
    · rw [if_neg hq, if_neg (fun h => hq h.2)]
  · rw [if_neg hp, if_neg (fun h => hp h.1)]
theorem hp_row {k n i : Nat} {rows : List (List Int)} (h : RowsP k n rows) (hi : i < k) : (HP n rows)[1 + i]? = some (some (.data (iL (getLL rows (i : Int))))) := by
  have hil : i < rows.length := by rw [h.len]; exact hi
  unfold HP
  rw [Nat.add_comm, List.getElem?_cons_succ]
  exact rowsH_get (rows_at hil)
theorem hp_ld {k n i : Nat} {rows : List (List Int)} (h : RowsP k n rows) (hi : i < k) : evP (HP n rows) (.ld false 1) [.ptr 0 i] = some (.sl (1 + i) 1 0 n) := by
  have hil : i < rows.length := by rw [h.len]; exact hi
  have hc : Heap.cells? (HP n rows) 0 = some (refs (List.range' 1 rows.length) (rows.map iL) ++ List.replicate (n - rows.length) .nilS) := rfl
  have hr := refs_get (is := List.range' 1 rows.length) (ll := rows.map iL) (j := i) (i := 1 + i) (rng1 hil) (rows_at hil)
  rw [iL_len, h.get hi] at hr
  have hr2 : (refs (List.range' 1 rows.length) (rows.map iL) ++ List.replicate (n - rows.length) AV.nilS)[i]? = some (.sl (1 + i) 1 0 n) := by
    rw [List.getElem?_append_left (List.getElem?_eq_some_iff.1 hr).1]; exact hr
  generalize refs (List.range' 1 rows.length) (rows.map iL) ++ List.replicate (n - rows.length) AV.nilS = cs at *
  obtain ⟨h1, h2⟩ := List.getElem?_eq_some_iff.1 hr2
  have h5 : i + 1 ≤ cs.length := by omega
  simp only [evP, ldc, getRow, hc, Option.bind_some, if_pos h5]
  rw [List.drop_eq_getElem_cons h1, h2]
  simp [wholeOf]
theorem hp_st {call : CallF} {k n i j : Nat} {x : Int} {rows : List (List Int)} (h : RowsP k n rows) (hi : i < k) (hj : j < n) : evE call (HP n rows) (.st 1) [.ptr (1 + i) j, .int .i64 x] = some (.undef, HP n (setLL rows i j x)) := by
  have hil : i < rows.length := by rw [h.len]; exact hi
  have h1 := hp_row h hi
  rw [e_stO (call := call) (H := HP n rows) (id := 1 + i) (l := getLL rows (i : Int)) (i := j) (v := x) (data?_iff.2 h1) (by rw [h.get hi]; exact hj)]
  have e1 : (HP n rows).set (1 + i) (some (.data (iL ((getLL rows (i : Int)).set j x)))) = HP n (setLL rows i j x) := by
    unfold HP
    rw [Nat.add_comm, List.set_cons_succ]
    have e2 : (rowsH (rows.map iL)).set i (some (.data (iL ((getLL rows (i : Int)).set j x)))) = rowsH ((setLL rows i j x).map iL) := by
      simp [rowsH, setLL, List.map_set]
    have e4 : (setLL rows i j x).length = rows.length := by simp [setLL]
    have e3 : refs (List.range' 1 rows.length) (rows.map iL) = refs (List.range' 1 rows.length) ((setLL rows i j x).map iL) := refs_len _ (by
      refine List.ext_getElem (by simp [setLL]) fun q h1 h2 => ?_
      simp only [List.length_map] at h1
      have hkn : q < k := by rw [← h.len]; exact h1
      have a := h.get hkn
      have c := (h.set (x := x) (j := j) hi).get hkn
      rw [getLL_nat] at a c
      have h3 : q < (setLL rows i j x).length := by simpa [setLL] using h1
      simp only [List.getD, List.getElem?_eq_getElem h1, List.getElem?_eq_getElem h3, Option.getD_some] at a c
      simp [iL_len, a, c])
    rw [e2, e3, e4]
  rw [e1]
theorem hp_new {call : CallF} {k n : Nat} {rows : List (List Int)} (h : RowsP k n rows) (hk : k < n) : evE call (HP n rows ++ [some (.data (iL (List.replicate n 0)))]) (.st 1) [.ptr 0 k, .sl (1 + k) 1 0 n] = some (.undef, HP n (rows ++ [List.replicate n 0])) := by
  have hl := h.len
  have hlen : (refs (List.range' 1 rows.length) (rows.map iL)).length = k := by rw [refs_length (by simp)]; simp [hl]
  have h0 : (HP n rows ++ [some (.data (iL (List.replicate n 0)))])[0]? = some (some (.box (refs (List.range' 1 rows.length) (rows.map iL) ++ List.replicate (n - rows.length) .nilS))) := rfl
  have e0 : ((refs (List.range' 1 rows.length) (rows.map iL) ++ List.replicate (n - rows.length) AV.nilS)).length = n := by rw [List.length_append, hlen]; simp; omega
  have hz := iL_len (List.replicate n 0)
  rw [List.length_replicate] at hz
  have e1 : putRow (refs (List.range' 1 rows.length) (rows.map iL) ++ List.replicate (n - rows.length) AV.nilS) k [.sl (1 + k) 1 0 n] = refs (List.range' 1 (rows ++ [List.replicate n 0]).length) ((rows ++ [List.replicate n 0]).map iL) ++ List.replicate (n - (rows ++ [List.replicate n 0]).length) AV.nilS := by
    unfold putRow
    rw [List.take_append_of_le_length (by omega), List.take_of_length_le (by omega), List.drop_append, hlen, List.drop_of_length_le (by simp; omega)]
    rw [List.map_append, show (rows ++ [List.replicate n (0 : Int)]).length = rows.length + 1 by simp, show List.range' 1 (rows.length + 1) = List.range' 1 rows.length ++ [1 + rows.length] by rw [List.range'_concat]; simp, refs_append (by simp)]
    simp [refs, hz, hl]
    omega
  have hstep : stAt (HP n rows ++ [some (.data (iL (List.replicate n 0)))]) 1 (.ptr 0 k) (.sl (1 + k) 1 0 n) = some ((HP n rows ++ [some (HO.data (iL (List.replicate n 0)))]).set 0 (some (.box (putRow (refs (List.range' 1 rows.length) (rows.map iL) ++ List.replicate (n - rows.length) AV.nilS) k [.sl (1 + k) 1 0 n])))) := by
    have hb : k + 1 ≤ (refs (List.range' 1 rows.length) (rows.map iL) ++ List.replicate (n - rows.length) AV.nilS).length := by omega
    simp only [stAt, h0, cells_sl, List.length_singleton, oneL, AV.one, Bool.and_self, and_self, if_true, if_pos hb]
  simp only [evE, hstep, Option.map_some, e1]
  unfold HP
  simp [rowsH]
theorem reach_nils {H : Heap} {k : Nat} {acc : List Nat} {z : Nat} {gs : List AV} (hz : z ≤ k) : reach H k acc (List.replicate z .nilS ++ gs) = reach H (k - z) acc gs := by
  induction z generalizing k with
  | zero => rfl
  | succ z ih =>
    obtain ⟨k, rfl⟩ : ∃ j, k = j + 1 := ⟨k - 1, by omega⟩
    rw [List.replicate_succ, List.cons_append, reach_skip rfl, ih (by omega)]
    congr 1
    omega
theorem gcHP {pre gs : List AV} {i n M : Nat} {rows : List (List Int)} (h : RowsP i n rows) (hi : i ≤ n) (hn : n < 100) (hp : idFreeL pre = true) (hpl : pre.length ≤ 20) (hg : idFreeL gs = true) :
    gc 0 (pre ++ .sl 0 1 0 M :: gs) (HP n rows) = some (pre ++ .sl 0 1 0 M :: gs, HP n rows) := by
  have hl : (List.range' 1 rows.length).length = (rows.map iL).length := by simp
  have hd : (0 :: List.range' 1 rows.length).Nodup := by simp [List.mem_range'_1, List.nodup_range']
  have hR : ∀ (j i : Nat) (l : List AV), (List.range' 1 rows.length)[j]? = some i → (rows.map iL)[j]? = some l → (HP n rows)[i]? = some (some (.data l)) := rng_rows0 [some (.box (refs (List.range' 1 rows.length) (rows.map iL) ++ List.replicate (n - rows.length) AV.nilS))] (s := 1) (q := rows.length) (R := rows.map iL) rfl
  have hlr := h.len
  have hφ : nodupB (0 :: List.range' 1 rows.length) = true := nodupB_iff.2 hd
  have q1 : posOf (0 :: List.range' 1 rows.length) 0 = some 0 := posOf_of_get hφ (j := 0) rfl
  have pr : renL (posOf (0 :: List.range' 1 rows.length)) (refs (List.range' 1 rows.length) (rows.map iL)) = some (refs (List.range' 1 rows.length) (rows.map iL)) := by
    have := renL_refs hφ (List.range' 1 rows.length) (rows.map iL) 1 hl fun j i h => by rw [Nat.add_comm]; exact h
    simpa using this
  have hpick := pickO_refs (H := HP n rows) (List.range' 1 rows.length) (rows.map iL) hl hR
  obtain ⟨d1, d2⟩ := List.nodup_cons.1 hd
  have hnf : idFreeL (List.replicate (n - rows.length) AV.nilS) = true := by
    generalize n - rows.length = z
    induction z with
    | zero => rfl
    | succ z ih => rw [List.replicate_succ]; simp only [idFreeL, AV.idFree, Bool.true_and]; exact ih
  refine gc_of (φ := 0 :: List.range' 1 rows.length) ?_ hφ (vs' := pre ++ .sl 0 1 0 M :: gs) ?_ (Hp := HP n rows) ?_ ?_
  · have b2 : boxCells (HP n rows) 0 = refs (List.range' 1 rows.length) (rows.map iL) ++ List.replicate (n - rows.length) .nilS := rfl
    have e : reach (HP n rows) 400 (rangeL 0 []) (roots (HP n rows) (rangeL 0 []) ++ (pre ++ .sl 0 1 0 M :: gs)) = reach (HP n rows) (399 - pre.length) [0] (refs (List.range' 1 rows.length) (rows.map iL) ++ (List.replicate (n - rows.length) .nilS ++ gs)) := by
      have h1 : rangeL 0 [] = [] := rfl
      have h2 : roots (HP n rows) (rangeL 0 []) = [] := rfl
      rw [h2, List.nil_append, h1, show (400 : Nat) = (400 - pre.length) + pre.length by omega, reach_pre pre hp, show 400 - pre.length = (399 - pre.length) + 1 by omega, reach_new, b2]
      simp
    rw [e, reach_refs' (is := List.range' 1 rows.length) (ll := rows.map iL) (by simp; omega) hl (fun i hi => ?_) d2 (rows_box hl hR), reach_nils (by simp; omega), reach_free _ _ _ _ hg]
    · rfl
    · have h3 : i ≠ 0 := fun e => d1 (e ▸ hi)
      simp [h3]
  · rw [renL_append, renL_free hp]
    simp [renL, AV.ren, q1, renL_free hg]
  · show pickO _ (0 :: List.range' 1 rows.length) = _
    have h0 : (HP n rows)[0]? = some (some (.box (refs (List.range' 1 rows.length) (rows.map iL) ++ List.replicate (n - rows.length) .nilS))) := rfl
    simp only [pickO, h0, Option.bind_some, hpick, Option.map_some]
    rfl
  · show renH _ (some (.box (refs (List.range' 1 rows.length) (rows.map iL) ++ List.replicate (n - rows.length) .nilS)) :: rowsH (rows.map iL)) = _
    simp only [renH, renO, renL_append, pr, renL_free hnf, Option.bind_some, Option.map_some, renH_rows]
    rfl
set_option maxHeartbeats 4000000
theorem f86 {x : AV} {l : List Int} {c : Nat} (hx : IsL x l) (hc : c < l.length) {m : Nat} (hm : 2 ≤ m) : evF tab it m 86 [x, .rp [.int .i64 (c : Int)]] [] = some (.bool (decide (getI l (c : Int) ≠ 0)), []) := by
  obtain ⟨m, rfl⟩ : ∃ j, m = j + 1 := ⟨m - 1, by omega⟩
  have ldc : ∀ H, evP H (.ld false 1) [.rp [.int .i64 (c : Int)]] = some (.int .i64 (c : Int)) := fun H => by simp [evP, ldc, getRow, wholeOf]
  refine f_enter rfl rfl ?_
  generalize evF tab it m = call at *
  repeat' first
 | (apply s_mov; exact aW)
 | (apply c_nil)
 | (apply s_neq; exact rfl; all_goals (intro _; try (exfalso; omega)))
 | (apply s_pn; exact aO; exact ldc _)
 | (apply s_idx; exact aW; exact rfl; exact aI; omega)
 | (apply s_ldI; exact rfl; omega)
 | (apply c_seq)
 | (apply c_reg)
 | (apply c_ret)
 | (with_reducible apply k_c)
  · exact fin_t (by (conv => lhs; whnf)) (by rfl) (by rename_i h; simp [h])
  · exact fin_t (by (conv => lhs; whnf)) (by rfl) (by rename_i h; simp [h])
def fiR (c : Nat) : List (List Int) → Nat → Int
  | [], _ => -1
  | r :: L, k => if getI r (c : Int) ≠ 0 then k else fiR c L (k + 1)
theorem dropLL {L : List (List Int)} {i : Nat} (h : i < L.length) : L.drop i = getLL L (i : Int) :: L.drop (i + 1) := by
  rw [getLL_nat]
  simp [List.getD, h]
theorem f85 {x : AV} {L : List (List Int)} {c n : Nat} (hx : IsLL x L) (hl : L.length ≤ 20) (hr : ∀ i, i < L.length → (getLL L (i : Int)).length = n) (hc : c < n) {m : Nat} (hm : 60 ≤ m) :
    evF tab it m 85 [x, .fn 86 [.rp [.int .i64 (c : Int)]]] [] = some (.int .i64 (fiR c L 0), []) := by
  obtain ⟨m, rfl⟩ : ∃ j, m = j + 1 := ⟨m - 1, by omega⟩
  have fx := hx.free
  have e86 := fun (i : Nat) (hi : i < L.length) => f86 (c := c) (hx.at (i := (i : Int)) ⟨by omega, by omega⟩) (by rw [hr i hi]; exact hc) (m := m) (by omega)
  have hp := fun (i : Nat) (hi : i < L.length) H => callPure_free (H := H) (call := evF tab it m) (f := 86) (args := [llAt x (i : Int), .rp [.int .i64 (c : Int)]]) (by simp [idFreeL, AV.idFree, (hx.at (i := (i : Int)) ⟨by omega, by omega⟩).free]) (by simp) (e86 i hi) rfl
  generalize hR : fiR c L 0 = R
  refine f_enter rfl rfl ?_
  generalize evF tab it m = call at *
  repeat' first
 | (apply s_mov; exact aW)
 | (apply c_nil)
 | (apply s_lenLL; exact aW; assumption)
 | (apply c_seq)
 | (apply c_reg)
 | (apply c_block)
 | (with_reducible apply k_c)
  refine c_loop ?_
  refine loop_gc (σ := Nat) (fun i => [x, .fn 86 [.rp [.int .i64 (c : Int)]], .int .i64 (L.length : Int), .int .i64 (i : Int)]) (fun _ => []) (fun i => i ≤ L.length ∧ fiR c (L.drop i) i = R) (fun i => L.length - i) ?_ _ 0 _ _ ⟨by omega, hR⟩ (by omega) (gc_to rfl (by simp [idFreeL, AV.idFree, fx]))
  intro i ⟨hi, hr⟩ K hK
  by_cases hiF : i < L.length
  · have ecv : evE call [] (.callv true true) [.fn 86 [.rp [.int .i64 (c : Int)]], llAt x (i : Int)] = some (.bool (decide (getI (getLL L (i : Int)) (c : Int) ≠ 0)), []) := by
      simpa [evE] using hp i hiF []
    rw [dropLL hiF] at hr
    simp only [fiR] at hr
    by_cases hq : getI (getLL L (i : Int)) (c : Int) ≠ 0
    · rw [decide_eq_true hq] at ecv
      rw [if_pos hq] at hr
      repeat' first
 | (apply s_mov; exact aW)
 | (apply c_nil)
 | (apply s_lss; exact rfl; all_goals (intro _; try (exfalso; omega)))
 | (apply s_en; exact aO; exact ecv)
 | (apply s_idxLL; exact aW; exact rfl; assumption; omega)
 | (apply s_ldLL; exact rfl; assumption; omega)
 | (apply c_seq)
 | (apply c_reg)
 | (apply c_block)
 | (apply c_skip)
 | (apply c_ret)
 | (apply c_condT; exact rfl)
 | (with_reducible apply k_c)
      all_goals exact fin_t (by (conv => lhs; whnf)) (by rfl) (by rw [hr])
    · rw [decide_eq_false hq] at ecv
      rw [if_neg hq] at hr
      repeat' first
 | (apply s_mov; exact aW)
 | (apply c_nil)
 | (apply s_lss; exact rfl; all_goals (intro _; try (exfalso; omega)))
 | (apply s_add; exact rfl; omega)
 | (apply s_en; exact aO; exact ecv)
 | (apply s_idxLL; exact aW; exact rfl; assumption; omega)
 | (apply s_ldLL; exact rfl; assumption; omega)
 | (apply c_seq)
 | (apply c_reg)
 | (apply c_block)
 | (apply c_skip)
 | (apply c_condT; exact rfl)
 | (apply c_condF; exact rfl)
 | (with_reducible apply k_c)
      all_goals exact hK (i + 1) _ _ ⟨by omega, hr⟩ (by omega) (gc_to rfl (by simp [idFreeL, AV.idFree, fx]))
  · obtain rfl : L.length = i := by omega
    rw [List.drop_length] at hr
    simp only [fiR] at hr
    repeat' first
 | (apply s_mov; exact aW)
 | (apply c_nil)
 | (apply s_lss; exact rfl; all_goals (intro _; try (exfalso; omega)))
 | (apply c_seq)
 | (apply c_reg)
 | (apply c_exitH)
 | (apply c_ret)
 | (apply c_condF; exact rfl)
 | (apply c_preF; exact aK; exact aF)
 | (with_reducible apply k_c)
    exact fin_t (by (conv => lhs; whnf)) (by rfl) (by rw [← hr])
theorem fiR_neg {c : Nat} : ∀ (L : List (List Int)) (k : Nat), fiR c L k < 0 → ∀ i : Nat, i < L.length → getI (getLL L (i : Int)) (c : Int) = 0
  | [], k, _, i, hi => by simp at hi
  | r :: L, k, h, i, hi => by
    simp only [fiR] at h
    split at h
    · omega
    · rename_i h0
      cases i with
      | zero =>
        have e : getLL (r :: L) ((0 : Nat) : Int) = r := by rw [getLL_nat]; rfl
        rw [e]; omega
      | succ i =>
        have e : getLL (r :: L) ((i + 1 : Nat) : Int) = getLL L (i : Int) := by rw [getLL_nat, getLL_nat]; rfl
        rw [e]
        exact fiR_neg L (k + 1) h i (by simpa using hi)
theorem fiR_pos {c : Nat} : ∀ (L : List (List Int)) (k : Nat), 0 ≤ fiR c L k → ∃ i : Nat, i < L.length ∧ fiR c L k = ((k + i : Nat) : Int) ∧ getI (getLL L (i : Int)) (c : Int) ≠ 0
  | [], k, h => by simp [fiR] at h
  | r :: L, k, h => by
    simp only [fiR] at h ⊢
    by_cases h0 : getI r (c : Int) ≠ 0
    · rw [if_pos h0]
      refine ⟨0, by simp, by simp, ?_⟩
      have e : getLL (r :: L) ((0 : Nat) : Int) = r := by rw [getLL_nat]; rfl
      rw [e]; exact h0
    · rw [if_neg h0] at h ⊢
      obtain ⟨i, a, b, d⟩ := fiR_pos L (k + 1) h
      refine ⟨i + 1, by simpa using a, by rw [b]; congr 1; omega, ?_⟩
      have e : getLL (r :: L) ((i + 1 : Nat) : Int) = getLL L (i : Int) := by rw [getLL_nat, getLL_nat]; rfl
      rw [e]; exact d
theorem hc_frz {n c : Nat} {rows : List (List Int)} (h : Rows n rows) (hc : c < n) (hn2 : n ≤ 12) : frzL (HC n rows c) 40 [.sl 0 1 c (n - c), .fn 86 [.ptr (n + 1) 0]] = some [fzLL (rows.drop c), .fn 86 [.rp [.int .i64 (c : Int)]]] := by
  have ra := ra_hb h [some (.data (iL [(c : Int)]))]
  have hl : (List.range' 1 n).length = (rows.map iL).length := by simp [h.len]
  have hR : ∀ (j i : Nat) (l : List AV), (List.range' 1 n)[j]? = some i → (rows.map iL)[j]? = some l → (HC n rows c)[i]? = some (some (.data l)) := fun j i l hj hl => by
    rw [show HC n rows c = HB n rows ++ [some (.data (iL [(c : Int)]))] from rfl, ra.rw j i hj]
    have hjr : j < rows.length := by have := (List.getElem?_eq_some_iff.1 hl).1; simpa using this
    rw [rows_at hjr] at hl
    injection hl with hl
    rw [hl]
  have hz := frzL_refs (H := HC n rows c) (List.range' 1 n) (rows.map iL) 37 hl (by simp; omega) hR
  have hm : ((rows.map iL).map fun l => AV.rd 1 l.length l) = rows.map fzL := by
    rw [List.map_map]
    refine List.map_congr_left fun r hr => ?_
    have := h.each r hr
    rw [fzL_ne this (by omega)]
    simp [iL_len, this]
  rw [hm] at hz
  have hbx : Heap.box? (HC n rows c) 0 = some (refs (List.range' 1 n) (rows.map iL)) := rfl
  have hda : Heap.data? (HC n rows c) 0 = none := rfl
  have e1 : frzV (HC n rows c) 39 (.sl 0 1 c (n - c)) = some (fzLL (rows.drop c)) := by
    rw [frzV_sl, hda, hbx]
    simp only [Option.none_or, Option.bind_some, hz]
    have hlr := h.len
    rw [if_pos (by rw [List.length_map]; omega)]
    have hd : (rows.drop c).length = n - c := by rw [List.length_drop]; omega
    have ht : ((rows.map fzL).drop c).take ((n - c) * 1) = (rows.drop c).map fzL := by
      rw [← List.map_drop]
      exact List.take_of_length_le (by rw [List.length_map]; omega)
    rw [ht]
    cases hq : rows.drop c with
    | nil => rw [hq] at hd; simp at hd; omega
    | cons r rs => rw [hq] at hd; simp only [List.length_cons] at hd; simp only [fzLL, hd]
  have hcell := hc_cell (c := c) h
  have e2 : frzV (HC n rows c) 38 (.fn 86 [.ptr (n + 1) 0]) = some (.fn 86 [.rp [.int .i64 (c : Int)]]) := by
    simp [frzV, idFreeL, AV.idFree, frzL, hcell, iL]
  exact frzL_cons e1 (frzL_cons e2 frzL_nil)
theorem c85 {n c : Nat} {rows : List (List Int)} (h : Rows n rows) (hc : c < n) (hn2 : n ≤ 12) {m : Nat} (hm : 60 ≤ m) : callPure (evF tab it m) true 85 [.sl 0 1 c (n - c), .fn 86 [.ptr (n + 1) 0]] (HC n rows c) = some (.int .i64 (fiR c (rows.drop c) 0), HC n rows c) := by
  have hd : (rows.drop c).length = n - c := by rw [List.length_drop, h.len]
  have f := f85 (c := c) (n := n) (isLL_fz (rows.drop c)) (by omega) (fun i hi => by
    have e : getLL (rows.drop c) (i : Int) = getLL rows ((c + i : Nat) : Int) := by rw [getLL_nat, getLL_nat]; simp [List.getD]
    rw [e]
    exact h.get (by omega)) hc hm
  simp only [callPure, hc_frz h hc hn2, Option.bind_some, f]
  simp [AV.hasRd, frzV_int]
set_option maxHeartbeats 4000000
def swL (c d : Nat) (rows : List (List Int)) : List (List Int) := (rows.set c (getLL rows (d : Int))).set d (getLL rows (c : Int))
theorem swL_get {n c d : Nat} {rows : List (List Int)} (h : Rows n rows) (hc : c < n) (hd : d < n) (u : Nat) : getLL (swL c d rows) (u : Int) = if u = d then getLL rows (c : Int) else if u = c then getLL rows (d : Int) else getLL rows (u : Int) := by
  have hl := h.len
  rw [getLL_nat (swL c d rows)]
  unfold swL
  by_cases e : u = d
  · subst e; rw [if_pos rfl]; simp [List.getD, hl, hd]
  · rw [if_neg e]
    by_cases e2 : u = c
    · subst e2; rw [if_pos rfl]; unfold List.getD; rw [List.getElem?_set_ne (Ne.symm e), List.getElem?_set_self (by omega)]; rfl
    · rw [if_neg e2, getLL_nat rows u]; simp [List.getD, List.getElem?_set_ne (Ne.symm e), List.getElem?_set_ne (Ne.symm e2)]
theorem swL_rows {n c d : Nat} {rows : List (List Int)} (h : Rows n rows) (hc : c < n) (hd : d < n) : Rows n (swL c d rows) := by
  refine ⟨by simp [swL, h.len], fun r hr => ?_⟩
  unfold swL at hr
  rcases List.mem_or_eq_of_mem_set hr with hr | hr
  · rcases List.mem_or_eq_of_mem_set hr with hr | hr
    · exact h.each r hr
    · rw [hr]; exact h.get hd
  · rw [hr]; exact h.get hc
theorem e_stB {call : CallF} {H : Heap} {id k : Nat} {cs : List AV} {v : AV} (h : H[id]? = some (some (.box cs))) (hk : k < cs.length) (h1 : v.cells = [v]) (h2 : v.one = true) : evE call H (.st 1) [.ptr id k, v] = some (.undef, H.set id (some (.box (cs.set k v)))) := by
  have hb : k + 1 ≤ cs.length := by omega
  have hstep : stAt H 1 (.ptr id k) v = some (H.set id (some (.box (putRow cs k [v])))) := by
    simp only [stAt, h, h1, List.length_singleton, oneL, h2, Bool.and_self, and_self, if_true, if_pos hb]
  have e : putRow cs k [v] = cs.set k v := by
    unfold putRow
    rw [List.set_eq_take_append_cons_drop, if_pos hk]
    simp
  simp only [evE, hstep, Option.map_some, e]
structure Sw (n c d : Nat) (rows : List (List Int)) (H1 H2 : Heap) (is : List Nat) : Prop where
  st1 : ∀ call, evE call (HC n rows c) (.st 1) [.ptr 0 c, .sl (1 + d) 1 0 n] = some (.undef, H1)
  kept : keptOk (HC n rows c) H1 [.ptr (n + 1) 0] = true
  c1 : evP H1 (.ld false 1) [.ptr (n + 1) 0] = some (.int .i64 (c : Int))
  st2 : ∀ call, evE call H1 (.st 1) [.ptr 0 d, .sl (1 + c) 1 0 n] = some (.undef, H2)
  c2 : evP H2 (.ld false 1) [.ptr (n + 1) 0] = some (.int .i64 (c : Int))
  ra : RA H2 is (swL c d rows)
  at_ : is[c]? = some (1 + d)
  ln : is.length = n
  cell : H2[n + 1]? = some (some (.data [.int .i64 (c : Int)]))
  nd : (0 :: (is ++ [n + 1])).Nodup
theorem sw_of {n c d : Nat} {rows : List (List Int)} (h : Rows n rows) (hc : c < n) (hd : d < n) (hcd : c ≠ d) : ∃ H1 H2 is, Sw n c d rows H1 H2 is := by
  have ra := ra_hb h [some (.data (iL [(c : Int)]))]
  have hl := h.len
  have hcell := hc_cell (c := c) h
  have hrl : (refs (List.range' 1 n) (rows.map iL)).length = n := by rw [refs_length (by simp [hl])]; simp [hl]
  have hlen : (HC n rows c).length = n + 2 := by simp [HC, hb_length h]
  have lc := h.get hc
  have ld := h.get hd
  have h0 : (HC n rows c)[0]? = some (some (.box (refs (List.range' 1 n) (rows.map iL)))) := ra.bx
  have b1 : ((HC n rows c).set 0 (some (.box ((refs (List.range' 1 n) (rows.map iL)).set c (.sl (1 + d) 1 0 n)))))[0]? = some (some (.box ((refs (List.range' 1 n) (rows.map iL)).set c (.sl (1 + d) 1 0 n)))) := by
    rw [List.getElem?_set_self (by omega)]
  have g1 : ∀ i, i ≠ 0 → ((HC n rows c).set 0 (some (.box ((refs (List.range' 1 n) (rows.map iL)).set c (.sl (1 + d) 1 0 n)))))[i]? = (HC n rows c)[i]? := fun i hi => by rw [List.getElem?_set_ne (Ne.symm hi)]
  have eH2 : (((HC n rows c).set 0 (some (HO.box ((refs (List.range' 1 n) (rows.map iL)).set c (.sl (1 + d) 1 0 n))))).set 0 (some (.box (((refs (List.range' 1 n) (rows.map iL)).set c (.sl (1 + d) 1 0 n)).set d (.sl (1 + c) 1 0 n))))) = (HC n rows c).set 0 (some (.box (((refs (List.range' 1 n) (rows.map iL)).set c (.sl (1 + d) 1 0 n)).set d (.sl (1 + c) 1 0 n)))) := List.set_set ..
  have g2 : ∀ i, i ≠ 0 → ((HC n rows c).set 0 (some (HO.box (((refs (List.range' 1 n) (rows.map iL)).set c (.sl (1 + d) 1 0 n)).set d (.sl (1 + c) 1 0 n)))))[i]? = (HC n rows c)[i]? := fun i hi => by rw [List.getElem?_set_ne (Ne.symm hi)]
  have key : ∀ j : Nat, j < n → (((List.range' 1 n).set c (1 + d)).set d (1 + c))[j]? = some (if j = d then 1 + c else if j = c then 1 + d else 1 + j) := fun j hj => by
    by_cases e : j = d
    · subst e; rw [List.getElem?_set_self (by simp; omega), if_pos rfl]
    · rw [if_neg e, List.getElem?_set_ne (Ne.symm e)]
      by_cases e2 : j = c
      · subst e2; rw [List.getElem?_set_self (by simp; omega), if_pos rfl]
      · rw [if_neg e2, List.getElem?_set_ne (Ne.symm e2)]; exact rng1 hj
  have hisl : (((List.range' 1 n).set c (1 + d)).set d (1 + c)).length = n := by simp
  refine ⟨(HC n rows c).set 0 (some (.box ((refs (List.range' 1 n) (rows.map iL)).set c (.sl (1 + d) 1 0 n)))), (HC n rows c).set 0 (some (.box (((refs (List.range' 1 n) (rows.map iL)).set c (.sl (1 + d) 1 0 n)).set d (.sl (1 + c) 1 0 n)))), ((List.range' 1 n).set c (1 + d)).set d (1 + c), ?_, ?_, ?_, ?_, ?_, ?_, ?_, ?_, ?_, ?_⟩
  · intro call
    exact e_stB h0 (by omega) rfl rfl
  · have k1 : Heap.cells? (HC n rows c) (n + 1) = some [.int .i64 (c : Int)] := cells?_iff.2 (.inl hcell)
    have k2 : Heap.cells? ((HC n rows c).set 0 (some (.box ((refs (List.range' 1 n) (rows.map iL)).set c (.sl (1 + d) 1 0 n))))) (n + 1) = some [.int .i64 (c : Int)] := cells?_iff.2 (.inl (by rw [g1 _ (by omega)]; exact hcell))
    simp only [keptOk, keptV, k1, k2, flatSame, Bool.and_true]
    simp
  · have := p_ldD (k := 0) (l := [(c : Int)]) (H := (HC n rows c).set 0 (some (.box ((refs (List.range' 1 n) (rows.map iL)).set c (.sl (1 + d) 1 0 n))))) (i := n + 1) (by rw [g1 _ (by omega)]; exact hcell) (by simp)
    rw [this, show getI [(c : Int)] ((0 : Nat) : Int) = (c : Int) by rw [getI_nat]; rfl]
  · intro call
    rw [e_stB (call := call) b1 (by rw [List.length_set]; omega) rfl rfl, eH2]
  · have := p_ldD (k := 0) (l := [(c : Int)]) (H := (HC n rows c).set 0 (some (.box (((refs (List.range' 1 n) (rows.map iL)).set c (.sl (1 + d) 1 0 n)).set d (.sl (1 + c) 1 0 n))))) (i := n + 1) (by rw [g2 _ (by omega)]; exact hcell) (by simp)
    rw [this, show getI [(c : Int)] ((0 : Nat) : Int) = (c : Int) by rw [getI_nat]; rfl]
  · refine ⟨?_, by rw [hisl]; simp [swL, hl], fun j i hj => ?_⟩
    · rw [List.getElem?_set_self (by omega)]
      have e1 := refs_set (List.range' 1 n) (rows.map iL) c (1 + d) (iL (getLL rows (d : Int))) (by simp [hl])
      rw [iL_len, ld] at e1
      have e2 := refs_set ((List.range' 1 n).set c (1 + d)) ((rows.map iL).set c (iL (getLL rows (d : Int)))) d (1 + c) (iL (getLL rows (c : Int))) (by simp [hl])
      rw [iL_len, lc] at e2
      rw [e1, e2]
      unfold swL
      rw [List.map_set, List.map_set]
    · have hj2 := (List.getElem?_eq_some_iff.1 hj).1
      rw [hisl] at hj2
      rw [key j hj2] at hj
      injection hj with hj
      rw [g2 i (by subst hj; split <;> (try split) <;> omega), swL_get h hc hd]
      subst hj
      by_cases e : j = d
      · rw [if_pos e, if_pos e]; exact ra.rw c (1 + c) (rng1 hc)
      · rw [if_neg e, if_neg e]
        by_cases e2 : j = c
        · rw [if_pos e2, if_pos e2]; exact ra.rw d (1 + d) (rng1 hd)
        · rw [if_neg e2, if_neg e2]; exact ra.rw j (1 + j) (rng1 hj2)
  · rw [key c hc, if_neg hcd, if_pos rfl]
  · exact hisl
  · rw [g2 _ (by omega)]; exact hcell
  · have hmem : ∀ a ∈ ((List.range' 1 n).set c (1 + d)).set d (1 + c), 1 ≤ a ∧ a ≤ n := fun a ha => by
      rcases List.mem_or_eq_of_mem_set ha with ha | ha
      · rcases List.mem_or_eq_of_mem_set ha with ha | ha
        · have := List.mem_range'_1.1 ha; omega
        · omega
      · omega
    have hnd : (((List.range' 1 n).set c (1 + d)).set d (1 + c)).Nodup := by
      rw [List.nodup_iff_pairwise_ne, List.pairwise_iff_getElem]
      intro i j hi hj hij e
      rw [hisl] at hi hj
      have a1 := key i hi
      have a2 := key j hj
      rw [List.getElem?_eq_getElem (by omega)] at a1 a2
      injection a1 with a1
      injection a2 with a2
      rw [a1, a2] at e
      revert e
      split <;> split <;> (try split) <;> (try split) <;> omega
    simp only [List.nodup_cons, List.mem_append, List.mem_singleton, List.nodup_append, List.not_mem_nil, not_false_eq_true, and_true]
    refine ⟨fun h => ?_, hnd, by simp, fun a ha b hb => ?_⟩
    · rcases h with h | h
      · have := hmem 0 h; omega
      · omega
    · have := hmem a ha; omega
theorem gcSw {pre gs1 gs2 : List AV} {n M c d : Nat} {rows : List (List Int)} {H1 H2 : Heap} {is : List Nat} (hr : Rows n rows) (hc : c < n) (hd : d < n) (s : Sw n c d rows H1 H2 is) (hn : n < 100) (hp : idFreeL pre = true) (hpl : pre.length ≤ 20) (hg1 : idFreeL gs1 = true) (hg1l : gs1.length ≤ 20) (hg2 : idFreeL gs2 = true) :
    gc 0 (pre ++ .sl 0 1 0 M :: (gs1 ++ .ptr (n + 1) 0 :: gs2)) H2 = some (pre ++ .sl 0 1 0 M :: (gs1 ++ .ptr (n + 1) 0 :: gs2), HC n (swL c d rows) c) := by
  have hl : is.length = ((swL c d rows).map iL).length := by rw [List.length_map, s.ra.ln]
  have := gcQ (H := H2) (pre := pre) (gs1 := gs1) (gs2 := gs2) (p := 0) (q := n + 1) (M := M) (is := is) (R := (swL c d rows).map iL) (c := .int .i64 (c : Int)) hp hpl hg1 hg1l hg2 s.ra.bx hl (fun j i l hj hl => by
    rw [s.ra.rw j i hj]
    have hjr : j < (swL c d rows).length := by have := (List.getElem?_eq_some_iff.1 hl).1; simpa using this
    rw [rows_at hjr] at hl
    injection hl with hl
    rw [hl]) s.cell s.nd (by rw [s.ln]; exact hn)
  rw [this, s.ln]
  simp [HC, HB, iL]
set_option maxHeartbeats 8000000
theorem tmod_in {x p : Int} (hp : 2 ≤ p) (h : 0 ≤ x) : 0 ≤ x.tmod p ∧ x.tmod p < p ∧ p ∣ x - x.tmod p := by
  have e : x.tmod p = x % p := Int.tmod_eq_emod_of_nonneg h
  rw [e]
  exact ⟨Int.emod_nonneg _ (by omega), Int.emod_lt_of_pos _ (by omega), Int.dvd_self_sub_emod⟩
theorem mul_in {a c p : Int} (hp : 2 ≤ p ∧ p ≤ 2147483647) (h1 : 0 ≤ a ∧ a ≤ p) (h2 : 0 ≤ c ∧ c < p) : 0 ≤ a * c ∧ a * c ≤ 4611686014132420609 := by
  refine ⟨Int.mul_nonneg h1.1 h2.1, ?_⟩
  have h3 : a * c ≤ 2147483647 * c := Int.mul_le_mul_of_nonneg_right (by omega) h2.1
  omega
def rS (p t : Int) (c i j : Nat) (rows0 : List (List Int)) (u v : Nat) : Int := if u = i ∧ c ≤ v ∧ v < j then (getI (getLL rows0 (u : Int)) (v : Int) + (p - t) * getI (getLL rows0 (c : Int)) (v : Int)).tmod p else getI (getLL rows0 (u : Int)) (v : Int)
theorem L15 {call : CallF} {N : Nat} {K0 : KT} {X : Nat → KT} {Rt : KT} {res : R} {env : Env} {H : Heap} {n c i : Nat} {p out lead t : Int} {rows0 : List (List Int)}
    (hN : 100 ≤ N) (hn : n ≤ 12) (hr0 : Rows n rows0) (hci : c < i) (hin : i < n) (hp : 2 ≤ p ∧ p ≤ 2147483647) (ht : 0 ≤ t ∧ t < p) (hb : ∀ u v : Nat, u < n → v < n → 0 ≤ getI (getLL rows0 (u : Int)) (v : Int) ∧ getI (getLL rows0 (u : Int)) (v : Int) < p)
    (h0 : gc 0 (looks env [1, 5, 6, 9, 10, 12, 14, 15, 16, 71, 72]) H = some ([.int .i64 p, .int .i64 (n : Int), .sl 0 1 0 n, .int .i64 out, .ptr (n + 1) 0, .int .i64 lead, .int .i64 (i : Int), .int .i64 t, .int .i64 (c : Int), .int .i64 (n : Int), .int .i64 (c : Int)], HC n rows0 c))
    (hK : ∀ rows, Rows n rows → (∀ u v : Nat, u < n → v < n → getI (getLL rows (u : Int)) (v : Int) = rS p t c i n rows0 u v) → ∀ env' H', gc 0 (looks env' [1, 5, 6, 9, 10, 12, 14, 71, 72]) H' = some ([.int .i64 p, .int .i64 (n : Int), .sl 0 1 0 n, .int .i64 out, .ptr (n + 1) 0, .int .i64 lead, .int .i64 (i : Int), .int .i64 (n : Int), .int .i64 (c : Int)], HC n rows c) → K0 env' H' = res) :
    loopIt N (fun K => evC call it N lb61_15 0 K (blkX 8 K0 X) Rt) env H = res := by
  refine loop_gc (σ := Nat × List (List Int)) (fun s => [.int .i64 p, .int .i64 (n : Int), .sl 0 1 0 n, .int .i64 out, .ptr (n + 1) 0, .int .i64 lead, .int .i64 (i : Int), .int .i64 t, .int .i64 (s.1 : Int), .int .i64 (n : Int), .int .i64 (c : Int)]) (fun s => HC n s.2 c) (fun s => c ≤ s.1 ∧ s.1 ≤ n ∧ Rows n s.2 ∧ ∀ u v : Nat, u < n → v < n → getI (getLL s.2 (u : Int)) (v : Int) = rS p t c i s.1 rows0 u v) (fun s => n - s.1) ?_ _ (c, rows0) _ _ ⟨by dsimp only; omega, by dsimp only; omega, hr0, fun u v hu hv => by dsimp only; unfold rS; rw [if_neg (by omega)]⟩ (by show n - c < _; omega) h0
  clear h0
  intro ⟨j, rows⟩ ⟨hj1, hj2, hr, hv⟩ K hKl
  dsimp only at hj1 hj2 hr hv hKl ⊢
  have hg := fun (j : Nat) (rows : List (List Int)) (h : Rows n rows) => gcHC (pre := [.int .i64 p, .int .i64 (n : Int)]) (gs1 := [.int .i64 out]) (gs2 := [.int .i64 lead, .int .i64 (i : Int), .int .i64 t, .int .i64 (j : Int), .int .i64 (n : Int), .int .i64 (c : Int)]) (M := n) (c := c) h (by omega) rfl (by simp) rfl (by simp) rfl
  by_cases hjn : j < n
  · have e1 := hv i j hin hjn
    have e2 := hv c j (by omega) hjn
    unfold rS at e1 e2
    rw [if_neg (by omega)] at e1 e2
    have b1 := hb i j hin hjn
    have b2 := hb c j (by omega) hjn
    have l1 := hc_c (c := c) hr
    have l2 := hc_ld (c := c) hr hin
    have l3 := hc_ld (c := c) hr (i := c) (by omega)
    have l4 := hc_get (c := c) hr hin hjn
    have l5 := hc_get (c := c) hr (i := c) (by omega) hjn
    have st := fun (x : Int) call => hc_st (call := call) (c := c) (x := x) hr hin hjn
    rw [e1] at l4
    rw [e2] at l5
    have hnext : ∀ u v : Nat, u < n → v < n → getI (getLL (setLL rows i j ((getI (getLL rows0 (i : Int)) (j : Int) + (p - t) * getI (getLL rows0 (c : Int)) (j : Int)).tmod p)) (u : Int)) (v : Int) = rS p t c i (j + 1) rows0 u v := fun u v hu hv' => by
      rw [setLL_get hr hin hjn, hv u v hu hv']
      unfold rS
      by_cases c1 : u = i ∧ v = j
      · rw [if_pos c1, if_pos (by omega), c1.1, c1.2]
      · rw [if_neg c1]
        by_cases c2 : u = i ∧ c ≤ v ∧ v < j
        · rw [if_pos c2, if_pos (by omega)]
        · rw [if_neg c2, if_neg (by omega)]
    have hr' := setLL_rows (j := j) (x := (getI (getLL rows0 (i : Int)) (j : Int) + (p - t) * getI (getLL rows0 (c : Int)) (j : Int)).tmod p) hr hin
    have hprod := mul_in (a := p - t) hp (by omega) b2
    have hmul : -9223372036854775808 ≤ (p - t) * getI (getLL rows0 (c : Int)) (j : Int) ∧ (p - t) * getI (getLL rows0 (c : Int)) (j : Int) < 9223372036854775808 := by omega
    have hK1 := hKl (j + 1, setLL rows i j ((getI (getLL rows0 (i : Int)) (j : Int) + (p - t) * getI (getLL rows0 (c : Int)) (j : Int)).tmod p))
    dsimp only at hK1
    clear hv hb hKl hK e1 e2
    generalize getI (getLL rows0 (i : Int)) (j : Int) = A at *
    generalize getI (getLL rows0 (c : Int)) (j : Int) = B at *
    have hcn : c < n := by omega
    repeat' first
 | (apply s_mov; exact aW)
 | (apply c_nil)
 | (apply s_lss; exact rfl; all_goals (intro _; try (exfalso; omega)))
 | (apply s_add; exact rfl; omega)
 | (apply s_sub; exact rfl; omega)
 | (apply s_pn; exact aO; exact p_ixO hin)
 | (apply s_pn; exact aO; exact p_ixO hjn)
 | (apply s_pn; exact aO; exact p_ixO hcn)
 | (apply s_pn; exact aO; exact l1)
 | (apply s_pn; exact aO; exact l2)
 | (apply s_pn; exact aO; exact l3)
 | (apply s_pn; exact aO; exact l4)
 | (apply s_pn; exact aO; exact l5)
 | (apply s_mul; exact rfl; exact hmul)
 | (apply s_rem; exact rfl; omega)
 | (apply s_st; exact aO; exact (st _ _))
 | (apply c_seq)
 | (apply c_reg)
 | (apply c_block)
 | (apply c_skip)
 | (apply c_condT; exact rfl)
 | (with_reducible apply k_c)
    refine hK1 _ _ ⟨by omega, by omega, hr', hnext⟩ (by omega) ?_
    exact hg (j + 1) _ hr'
  · obtain rfl : j = n := by omega
    clear hKl
    repeat' first
 | (apply s_mov; exact aW)
 | (apply c_nil)
 | (apply s_lss; exact rfl; all_goals (intro _; try (exfalso; omega)))
 | (apply c_seq)
 | (apply c_reg)
 | (apply c_exitH)
 | (apply c_condF; exact rfl)
 | (with_reducible apply k_c)
    refine hK rows hr hv _ _ ?_
    exact gcHC (pre := [.int .i64 p, .int .i64 (j : Int)]) (gs1 := [.int .i64 out]) (gs2 := [.int .i64 lead, .int .i64 (i : Int), .int .i64 (j : Int), .int .i64 (c : Int)]) (M := j) (c := c) hr (by omega) rfl (by simp) rfl (by simp) rfl
def rT (p lead : Int) (c i : Nat) (rows0 : List (List Int)) (u v : Nat) : Int := if c < u ∧ u < i ∧ c ≤ v then (getI (getLL rows0 (u : Int)) (v : Int) + (p - (getI (getLL rows0 (u : Int)) (c : Int) * lead).tmod p) * getI (getLL rows0 (c : Int)) (v : Int)).tmod p else getI (getLL rows0 (u : Int)) (v : Int)
theorem L20 {call : CallF} {N : Nat} {K0 : KT} {X : Nat → KT} {Rt : KT} {res : R} {env : Env} {H : Heap} {n c : Nat} {p out lead : Int} {rows0 : List (List Int)}
    (hN : 100 ≤ N) (hn : n ≤ 12) (hr0 : Rows n rows0) (hcn : c < n) (hp : 2 ≤ p ∧ p ≤ 2147483647) (hlead : 0 ≤ lead ∧ lead < p) (hb : ∀ u v : Nat, u < n → v < n → 0 ≤ getI (getLL rows0 (u : Int)) (v : Int) ∧ getI (getLL rows0 (u : Int)) (v : Int) < p)
    (h0 : gc 0 (looks env [1, 5, 6, 9, 10, 12, 14, 71, 72]) H = some ([.int .i64 p, .int .i64 (n : Int), .sl 0 1 0 n, .int .i64 out, .ptr (n + 1) 0, .int .i64 lead, .int .i64 ((c + 1 : Nat) : Int), .int .i64 (n : Int), .int .i64 (c : Int)], HC n rows0 c))
    (hK : ∀ rows, Rows n rows → (∀ u v : Nat, u < n → v < n → getI (getLL rows (u : Int)) (v : Int) = rT p lead c n rows0 u v) → ∀ env' H', gc 0 (looks env' [1, 5, 6, 9, 71, 72]) H' = some ([.int .i64 p, .int .i64 (n : Int), .sl 0 1 0 n, .int .i64 out, .int .i64 (n : Int), .int .i64 (c : Int)], HB n rows) → K0 env' H' = res) :
    loopIt N (fun K => evC call it N lb61_20 0 K (blkX 6 K0 X) Rt) env H = res := by
  refine loop_gc (σ := Nat × List (List Int)) (fun s => [.int .i64 p, .int .i64 (n : Int), .sl 0 1 0 n, .int .i64 out, .ptr (n + 1) 0, .int .i64 lead, .int .i64 (s.1 : Int), .int .i64 (n : Int), .int .i64 (c : Int)]) (fun s => HC n s.2 c) (fun s => c + 1 ≤ s.1 ∧ s.1 ≤ n ∧ Rows n s.2 ∧ ∀ u v : Nat, u < n → v < n → getI (getLL s.2 (u : Int)) (v : Int) = rT p lead c s.1 rows0 u v) (fun s => n - s.1) ?_ _ (c + 1, rows0) _ _ ⟨by dsimp only; omega, by dsimp only; omega, hr0, fun u v hu hv => by dsimp only; unfold rT; rw [if_neg (by omega)]⟩ (by show n - (c + 1) < _; omega) h0
  clear h0
  intro ⟨i, rows⟩ ⟨hi1, hi2, hr, hv⟩ K hKl
  dsimp only at hi1 hi2 hr hv hKl ⊢
  have hbT : ∀ i u v : Nat, u < n → v < n → 0 ≤ rT p lead c i rows0 u v ∧ rT p lead c i rows0 u v < p := fun i u v hu hv => by
    unfold rT
    split
    · have b1 := hb u v hu hv
      have b2 := hb c v hcn hv
      have b3 := hb u c hu hcn
      have q1 := mul_in (a := getI (getLL rows0 (u : Int)) (c : Int)) (c := lead) hp (by omega) hlead
      have q2 := tmod_in (p := p) hp.1 q1.1
      have q3 := mul_in (a := p - (getI (getLL rows0 (u : Int)) (c : Int) * lead).tmod p) (c := getI (getLL rows0 (c : Int)) (v : Int)) hp (by omega) b2
      have q4 := tmod_in (p := p) (x := getI (getLL rows0 (u : Int)) (v : Int) + (p - (getI (getLL rows0 (u : Int)) (c : Int) * lead).tmod p) * getI (getLL rows0 (c : Int)) (v : Int)) hp.1 (by omega)
      exact ⟨q4.1, q4.2.1⟩
    · exact hb u v hu hv
  have hbr : ∀ u v : Nat, u < n → v < n → 0 ≤ getI (getLL rows (u : Int)) (v : Int) ∧ getI (getLL rows (u : Int)) (v : Int) < p := fun u v hu hv' => by
    rw [hv u v hu hv']; exact hbT i u v hu hv'
  by_cases hin : i < n
  · have l1 := hc_c (c := c) hr
    have l2 := hc_ld (c := c) hr hin
    have l4 := hc_get (c := c) hr hin hcn
    have b1 := hbr i c hin hcn
    have hprod := mul_in (a := getI (getLL rows (i : Int)) (c : Int)) (c := lead) hp (by omega) hlead
    have hmul : -9223372036854775808 ≤ getI (getLL rows (i : Int)) (c : Int) * lead ∧ getI (getLL rows (i : Int)) (c : Int) * lead < 9223372036854775808 := by omega
    have ht := tmod_in (p := p) hp.1 hprod.1
    have eT : (getI (getLL rows (i : Int)) (c : Int) * lead).tmod p = (getI (getLL rows0 (i : Int)) (c : Int) * lead).tmod p := by
      rw [hv i c hin hcn]
      unfold rT
      rw [if_neg (by omega)]
    have hg0 := gcHC (pre := [.int .i64 p, .int .i64 (n : Int)]) (gs1 := [.int .i64 out]) (gs2 := [.int .i64 lead, .int .i64 (i : Int), .int .i64 ((getI (getLL rows (i : Int)) (c : Int) * lead).tmod p), .int .i64 (c : Int), .int .i64 (n : Int), .int .i64 (c : Int)]) (M := n) (c := c) hr (by omega) rfl (by simp) rfl (by simp) rfl
    have hK1 := fun rows => hKl (i + 1, rows)
    dsimp only at hK1
    have hL := fun (K0 : KT) (X : Nat → KT) (env : Env) => L15 (call := call) (N := N) (K0 := K0) (X := X) (Rt := Rt) (res := res) (env := env) (out := out) (lead := lead) (t := (getI (getLL rows (i : Int)) (c : Int) * lead).tmod p) (H := HC n rows c) hN hn hr (by omega : c < i) hin hp ⟨ht.1, ht.2.1⟩ hbr
    have hnext : ∀ rows', (∀ u v : Nat, u < n → v < n → getI (getLL rows' (u : Int)) (v : Int) = rS p ((getI (getLL rows (i : Int)) (c : Int) * lead).tmod p) c i n rows u v) → ∀ u v : Nat, u < n → v < n → getI (getLL rows' (u : Int)) (v : Int) = rT p lead c (i + 1) rows0 u v := fun rows' h u v hu hv' => by
      rw [h u v hu hv', eT]
      unfold rS
      rw [hv u v hu hv', hv c v hcn hv']
      unfold rT
      by_cases c1 : u = i ∧ c ≤ v ∧ v < n
      · rw [if_pos c1, if_neg (by omega), if_neg (by omega), if_pos (by omega), c1.1]
      · rw [if_neg c1]
        by_cases c2 : c < u ∧ u < i ∧ c ≤ v
        · rw [if_pos c2, if_pos (by omega)]
        · rw [if_neg c2, if_neg (by omega)]
    clear hv hb hKl hK hbT hbr eT
    generalize (getI (getLL rows (i : Int)) (c : Int)) = A at *
    repeat' first
 | (apply s_mov; exact aW)
 | (apply c_nil)
 | (apply s_lss; exact rfl; all_goals (intro _; try (exfalso; omega)))
 | (apply s_pn; exact aO; exact p_ixO hin)
 | (apply s_pn; exact aO; exact p_ixO hcn)
 | (apply s_pn; exact aO; exact l1)
 | (apply s_pn; exact aO; exact l2)
 | (apply s_pn; exact aO; exact l4)
 | (apply s_mul; exact rfl; exact hmul)
 | (apply s_rem; exact rfl; omega)
 | (apply c_seq)
 | (apply c_reg)
 | (apply c_block)
 | (apply c_skip)
 | (apply c_condT; exact rfl)
 | (with_reducible apply k_c)
    refine c_loop ?_
    refine hL _ _ _ ?_ ?_
    · exact hg0
    · intro rows' hr' hv' env' H' hgc
      refine k_c (c_pre hgc ?_)
      repeat' first
 | (apply s_mov; exact aW)
 | (apply c_nil)
 | (apply s_add; exact rfl; omega)
 | (apply c_reg)
      refine hK1 rows' _ _ ⟨by omega, by omega, hr', hnext rows' hv'⟩ (by omega) ?_
      exact gcHC (pre := [.int .i64 p, .int .i64 (n : Int)]) (gs1 := [.int .i64 out]) (gs2 := [.int .i64 lead, .int .i64 ((i + 1 : Nat) : Int), .int .i64 (n : Int), .int .i64 (c : Int)]) (M := n) (c := c) hr' (by omega) rfl (by simp) rfl (by simp) rfl
  · obtain rfl : i = n := by omega
    clear hKl hbT hbr hb
    repeat' first
 | (apply s_mov; exact aW)
 | (apply c_nil)
 | (apply s_lss; exact rfl; all_goals (intro _; try (exfalso; omega)))
 | (apply c_seq)
 | (apply c_reg)
 | (apply c_exitH)
 | (apply c_condF; exact rfl)
 | (with_reducible apply k_c)
    refine hK rows hr hv _ _ ?_
    exact gcHC0 (pre := [.int .i64 p, .int .i64 (i : Int)]) (gs := [.int .i64 out, .int .i64 (i : Int), .int .i64 (c : Int)]) (M := i) (c := c) hr (by omega) rfl (by simp) rfl
end Go.AM.Ch
