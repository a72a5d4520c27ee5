/- A part of the proof: U18 U19 U36 U37 U38 U39. -/
import Derived.Test.YtmegimhfoedcdaaU17
import Derived.Test.YtmegimhfoedcdaaM3
set_option linter.unusedVariables false
set_option linter.unusedSimpArgs false
set_option linter.unusedSectionVars false
namespace Go.AM.Ch
theorem T23 : T 23 = some ⟨.slice 3, 1, 24, [.nilS]⟩ := rfl
theorem T3 : T 3 = some ⟨.int .i64, 1, 8, [.int .i64 0]⟩ := rfl
theorem T22 : T 22 = some ⟨.slice 23, 1, 24, [.nilS]⟩ := rfl
theorem take1 {l : List AV} {i : Nat} (h : i < l.length) : (l.drop i).take 1 = [l.getD i .undef] := by
  rw [List.drop_eq_getElem_cons h]
  simp only [List.take_succ_cons, List.take_zero, List.getD, List.getElem?_eq_getElem h, Option.getD_some]
theorem ints_of : ∀ (cs : List AV), (∀ i, i < cs.length → ∃ n : Int, cs.getD i .undef = .int .i64 n) → ∃ l, cs = iL l
  | [], _ => ⟨[], rfl⟩
  | c :: cs, h => by
    obtain ⟨n, hn⟩ := h 0 (by simp)
    obtain ⟨l, rfl⟩ := ints_of cs fun i hi => by simpa using h (i + 1) (by simpa using hi)
    simp at hn
    exact ⟨n :: l, by simp [iL, hn]⟩
theorem ty_int {k : Nat} {cs : List AV} (h : TyAV T k 3 cs) : ∃ n : Int, cs = [.int .i64 n] ∧ (Lit.int .i64 n).wf = true := by
  cases k with
  | zero => exact h.elim
  | succ k =>
    obtain ⟨s, hs, hm⟩ := h
    rw [T3] at hs; cases hs
    exact hm
theorem ty_intsB {k : Nat} {cs : List AV} (h : TyAV T k 23 cs) : ∃ x l, cs = [x] ∧ IsL x l ∧ l.length < 2 ^ 63 := by
  cases k with
  | zero => exact h.elim
  | succ k =>
    obtain ⟨s, hs, hm⟩ := h
    rw [T23] at hs; cases hs
    rcases hm with rfl | ⟨len, cells, se, h1, rfl, h3, h5, h4⟩
    · exact ⟨_, [], rfl, .nil, by simp⟩
    · rw [T3] at h1; cases h1
      simp only [Nat.mul_one] at h3 h4
      obtain ⟨l, rfl⟩ := ints_of cells fun i hi => by
        obtain ⟨n, hn, -⟩ := ty_int (h4 i (by omega))
        rw [take1 hi] at hn
        exact ⟨n, by simpa using hn⟩
      rw [iL_len] at h3
      subst h3
      exact ⟨_, l, rfl, .rd l, h5⟩
theorem ty_ints {k : Nat} {cs : List AV} (h : TyAV T k 23 cs) : ∃ x l, cs = [x] ∧ IsL x l := by
  obtain ⟨x, l, h1, h2, -⟩ := ty_intsB h
  exact ⟨x, l, h1, h2⟩
theorem arg_ints {k : Nat} {x : AV} (h : TyArg T k 23 x) : ∃ l, IsL x l := by
  rcases h with ⟨s, xs, hs, ha, _⟩ | ⟨s, hs, ha, h⟩
  · rw [T23] at hs; cases hs; cases ha
  · obtain ⟨y, l, hy, hl⟩ := ty_ints h
    simp only [List.cons.injEq, and_true] at hy
    exact ⟨l, by rw [hy]; exact hl⟩
set_option maxHeartbeats 1000000
theorem sumTo_set {S S' : Nat → Bool} {f : Nat → Int} {i : Nat} (h : S i = false) (h' : ∀ j, S' j = (j == i || S j)) : ∀ {n : Nat}, i < n → sumTo (fun j => if S' j = true then f j else 0) n = sumTo (fun j => if S j = true then f j else 0) n + f i
  | n + 1, hi => by
    simp only [sumTo]
    rcases (by omega : i < n ∨ i = n) with h1 | rfl
    · rw [sumTo_set h h' h1, h' n]
      have : (n == i) = false := by simp; omega
      rw [this, Bool.false_or]
      omega
    · have e : sumTo (fun j => if S' j = true then f j else 0) i = sumTo (fun j => if S j = true then f j else 0) i := sumTo_congr fun j hj => by
        rw [h' j]
        have : (j == i) = false := by simp; omega
        rw [this, Bool.false_or]
      rw [e, h' i, h]
      simp
def preS (O : List Int) (k : Nat) : Nat → Bool := fun j => decide ((j : Int) ∈ O.take k)
theorem preS_zero (O : List Int) (j : Nat) : preS O 0 j = false := by simp [preS]
theorem mem_take {O : List Int} {k : Nat} {v : Int} (hk : k ≤ O.length) : v ∈ O.take k ↔ ∃ j : Nat, j < k ∧ getI O (j : Int) = v := by
  constructor
  · intro h
    obtain ⟨j, hj, e⟩ := List.getElem_of_mem h
    rw [List.length_take] at hj
    refine ⟨j, by omega, ?_⟩
    rw [getI_nat]
    simp only [List.getElem_take] at e
    simp [List.getD, show j < O.length by omega, e]
  · rintro ⟨j, hj, e⟩
    rw [getI_nat] at e
    have hjl : j < O.length := by omega
    simp only [List.getD, List.getElem?_eq_getElem hjl, Option.getD_some] at e
    rw [← e, List.mem_iff_getElem]
    exact ⟨j, by rw [List.length_take]; omega, by simp⟩
theorem preS_succ {O : List Int} {k i : Nat} (hk : k < O.length) (hi : getI O (k : Int) = (i : Int)) (j : Nat) : preS O (k + 1) j = (j == i || preS O k j) := by
  have e : preS O (k + 1) j = decide ((j : Int) ∈ O.take (k + 1)) := rfl
  rw [e, Bool.eq_iff_iff]
  simp only [preS, decide_eq_true_eq, Bool.or_eq_true, beq_iff_eq, mem_take (show k + 1 ≤ O.length by omega), mem_take (show k ≤ O.length by omega)]
  constructor
  · rintro ⟨t, ht, e⟩
    rcases (by omega : t < k ∨ t = k) with h | rfl
    · exact .inr ⟨t, h, e⟩
    · left; omega
  · rintro (rfl | ⟨t, ht, e⟩)
    · exact ⟨k, by omega, hi⟩
    · exact ⟨t, by omega, e⟩
theorem preS_sum {O : List Int} {n : Nat} (f : Int → Int) : ∀ {k : Nat}, k ≤ O.length → (∀ j : Nat, j < k → (0 ≤ getI O (j : Int) ∧ getI O (j : Int) < n) ∧ (∀ t : Nat, t < j → getI O (t : Int) ≠ getI O (j : Int))) →
    sumTo (fun j => if preS O k j = true then f (j : Int) else 0) n = sumTo (fun j => f (getI O (j : Int))) k
  | 0, _, _ => by
    simp only [preS_zero]
    have : ∀ n : Nat, sumTo (fun j => if false = true then f (j : Int) else 0) n = 0 := fun n => by
      induction n with
      | zero => rfl
      | succ n ih => simp only [sumTo, ih]; simp
    simpa [sumTo] using this n
  | k + 1, hk, h => by
    obtain ⟨⟨h1, h2⟩, h3⟩ := h k (by omega)
    obtain ⟨i, hi⟩ : ∃ i : Nat, getI O (k : Int) = (i : Int) := ⟨(getI O (k : Int)).toNat, by omega⟩
    have hS : preS O k i = false := by
      simp only [preS, decide_eq_false_iff_not, mem_take (show k ≤ O.length by omega)]
      rintro ⟨t, ht, e⟩
      exact h3 t ht (by omega)
    rw [sumTo_set (f := fun j => f (j : Int)) hS (preS_succ (by omega) hi) (by omega), preS_sum f (by omega) fun j hj => h j (by omega)]
    simp only [sumTo, hi]
set_option maxHeartbeats 4000000
def brn (b : List (List Int)) (ord : List Nat) (v : Nat) : Int := sumTo (fun j => getI (getLL b (v : Int)) (getI (nI ord) (j : Int))) ord.length
def bP (b : List (List Int)) (l : List Int) (ord : List Nat) (v : Nat) : Bool := !ord.contains v && decide (getI l (v : Int) < brn b ord v)
def burnF (b : List (List Int)) (l : List Int) : Nat → List Nat → List Nat
  | 0, ord => ord
  | f + 1, ord => match (List.range b.length).find? (bP b l ord) with
    | none => ord
    | some v => burnF b l f (ord ++ [v])
def burnL (b : List (List Int)) (l : List Int) (q : Nat) : List Nat := burnF b l b.length [q]
theorem nI_get {ord : List Nat} {j : Nat} (h : j < ord.length) : getI (nI ord) (j : Int) = (ord[j] : Nat) := by
  rw [getI_nat]
  simp [nI, List.getD, h]
structure BrnOk (b : List (List Int)) (l : List Int) (q : Nat) (ord : List Nat) : Prop where
  nd : ord.Nodup
  lt : ∀ v ∈ ord, v < b.length
  hd : ord[0]? = some q
  low : ∀ k : Nat, 0 < k → (h : k < ord.length) → getI l ((ord[k] : Nat) : Int) < brn b (ord.take k) ord[k]
theorem BrnOk.init {b : List (List Int)} {l : List Int} {q : Nat} (hq : q < b.length) : BrnOk b l q [q] :=
  ⟨by simp, by simpa using hq, rfl, fun k h1 h2 => by simp at h2; omega⟩
theorem BrnOk.step {b : List (List Int)} {l : List Int} {q : Nat} {ord : List Nat} (h : BrnOk b l q ord) {v : Nat} (hv : v < b.length) (hp : bP b l ord v = true) : BrnOk b l q (ord ++ [v]) := by
  simp only [bP, Bool.and_eq_true, Bool.not_eq_true', decide_eq_true_eq] at hp
  obtain ⟨h1, h2⟩ := hp
  have hm : v ∉ ord := by simpa using h1
  have h0 := h.hd
  obtain ⟨h3, -⟩ := List.getElem?_eq_some_iff.1 h0
  refine ⟨?_, fun w hw => ?_, by rw [List.getElem?_append_left h3]; exact h0, fun k k1 k2 => ?_⟩
  · rw [List.nodup_append]
    exact ⟨h.nd, by simp, fun a ha c hc e => by simp at hc; subst hc; subst e; exact hm ha⟩
  · rcases List.mem_append.1 hw with hw | hw
    · exact h.lt w hw
    · simp at hw; subst hw; exact hv
  · simp only [List.length_append, List.length_cons, List.length_nil] at k2
    by_cases e : k < ord.length
    · rw [List.getElem_append_left e, List.take_append_of_le_length (by omega)]
      exact h.low k k1 e
    · obtain rfl : k = ord.length := by omega
      rw [List.getElem_append_right (by omega)]
      simpa using h2
theorem BrnOk.len {b : List (List Int)} {l : List Int} {q : Nat} {ord : List Nat} (h : BrnOk b l q ord) : 1 ≤ ord.length ∧ ord.length ≤ b.length := by
  obtain ⟨h3, -⟩ := List.getElem?_eq_some_iff.1 h.hd
  have := nodup_len h.nd fun w hw => List.mem_range.2 (h.lt w hw)
  rw [List.length_range] at this
  omega
theorem burnF_ok {b : List (List Int)} {l : List Int} {q : Nat} : ∀ (f : Nat) (ord : List Nat), BrnOk b l q ord → b.length ≤ f + ord.length → BrnOk b l q (burnF b l f ord) ∧ ∀ v, v < b.length → bP b l (burnF b l f ord) v = false
  | 0, ord, h, hf => ⟨h, fun v hv => by
      have hl := h.len
      have hm : v ∈ ord := by
        apply Classical.byContradiction
        intro hn
        have hnd : (v :: ord).Nodup := List.nodup_cons.2 ⟨hn, h.nd⟩
        have := nodup_len hnd (l2 := List.range b.length) fun w hw => by
          rcases List.mem_cons.1 hw with rfl | hw
          · exact List.mem_range.2 hv
          · exact List.mem_range.2 (h.lt w hw)
        rw [List.length_range] at this
        simp at this
        omega
      unfold bP burnF
      simp [hm]⟩
  | f + 1, ord, h, hf => by
    simp only [burnF]
    split
    · rename_i hn
      refine ⟨h, fun v hv => ?_⟩
      have := List.find?_eq_none.1 hn v (List.mem_range.2 hv)
      simpa using this
    · rename_i v hn
      have hp := List.find?_some hn
      have hv := List.mem_range.1 (List.mem_of_find?_eq_some hn)
      exact burnF_ok f _ (h.step hv hp) (by simp; omega)
theorem burnL_ok {b : List (List Int)} {l : List Int} {q : Nat} (hq : q < b.length) : BrnOk b l q (burnL b l q) ∧ ∀ v, v < b.length → bP b l (burnL b l q) v = false :=
  burnF_ok _ _ (BrnOk.init hq) (by omega)
theorem brn_out {b : List (List Int)} {ord : List Nat} (hnd : ord.Nodup) (hlt : ∀ v ∈ ord, v < b.length) (v : Nat) : brn b ord v = outE b.length (ed b) (fun u => !ord.contains u) v := by
  have h := preS_sum (O := nI ord) (n := b.length) (fun u => getI (getLL b (v : Int)) u) (k := ord.length) (by rw [nI_len]; omega) fun j hj => by
    rw [nI_get hj]
    have := hlt _ (List.getElem_mem hj)
    refine ⟨by omega, fun t ht => ?_⟩
    rw [nI_get (by omega)]
    intro e
    have e2 : ord[t] = ord[j] := by omega
    exact (List.pairwise_iff_getElem.1 hnd) t j (by omega) hj ht e2
  unfold brn
  rw [← h]
  unfold outE
  refine sumTo_congr fun u hu => ?_
  have e : preS (nI ord) ord.length u = ord.contains u := by
    rw [Bool.eq_iff_iff]
    simp only [preS, decide_eq_true_eq, List.contains_iff_mem]
    rw [List.take_of_length_le (by rw [nI_len]; omega)]
    simp only [nI, List.mem_map]
    constructor
    · rintro ⟨a, ha, e⟩
      have : a = u := by omega
      exact this ▸ ha
    · intro h; exact ⟨u, h, rfl⟩
  rw [e]
  show _ = if (!ord.contains u) = true then 0 else ed b v u
  cases ord.contains u <;> rfl
theorem burn_leg {b : List (List Int)} {l : List Int} {q : Nat} (hq : q < b.length) : Leg b.length (ed b) (gf l) (fun u => !(burnL b l q).contains u) := fun v hv hs => by
  obtain ⟨h1, h2⟩ := burnL_ok (b := b) (l := l) hq
  have h3 := h2 v hv
  rw [← brn_out h1.nd h1.lt v]
  simp only [bP, hs, Bool.true_and, decide_eq_false_iff_not] at h3
  unfold gf
  omega
theorem burn_red {b : List (List Int)} (hB : IsB b) {l : List Int} {q : Nat} (hq : q < b.length) (hl : ∀ v, v < b.length → v ≠ q → 0 ≤ gf l v) (hn : (burnL b l q).length = b.length) : Red b.length (ed b) q (gf l) := by
  obtain ⟨h1, h2⟩ := burnL_ok (b := b) (l := l) hq
  have g := gr_of hB
  generalize burnL b l q = ord at *
  refine ⟨hl, fun S hS ⟨w, hw, hsw⟩ => ?_⟩
  have hall : ∀ v, v < b.length → v ∈ ord := fun v hv => by
    apply Classical.byContradiction
    intro hn'
    have hnd : (v :: ord).Nodup := List.nodup_cons.2 ⟨hn', h1.nd⟩
    have := nodup_len hnd (l2 := List.range b.length) fun w hw => by
      rcases List.mem_cons.1 hw with rfl | hw
      · exact List.mem_range.2 hv
      · exact List.mem_range.2 (h1.lt w hw)
    rw [List.length_range] at this
    simp at this
    omega
  have key : ∀ k : Nat, (∃ j : Nat, j < k ∧ ∃ h : j < ord.length, S ord[j] = true) → ∃ j : Nat, ∃ h : j < ord.length, S ord[j] = true ∧ ∀ t : Nat, t < j → (ht : t < ord.length) → S ord[t] = false := by
    intro k
    induction k with
    | zero => rintro ⟨j, hj, _⟩; omega
    | succ k ih =>
      rintro ⟨j, hj, hjl, hs⟩
      by_cases hex : ∃ j : Nat, j < k ∧ ∃ h : j < ord.length, S ord[j] = true
      · exact ih hex
      · refine ⟨j, hjl, hs, fun t ht htl => ?_⟩
        cases hc : S ord[t] with
        | false => rfl
        | true => exact absurd ⟨t, by omega, htl, hc⟩ hex
  obtain ⟨j0, hj0, e0⟩ := List.getElem_of_mem (hall w hw)
  obtain ⟨j, hj, hs, hfirst⟩ := key ord.length ⟨j0, hj0, hj0, by rw [e0]; exact hsw⟩
  have hj1 : 0 < j := by
    rcases Nat.eq_zero_or_pos j with e | e
    · subst e
      have := h1.hd
      rw [List.getElem?_eq_getElem hj] at this
      simp only [Option.some.injEq] at this
      rw [this, hS] at hs
      cases hs
    · exact e
  have hv : ord[j] < b.length := h1.lt _ (List.getElem_mem hj)
  refine ⟨ord[j], hv, hs, ?_⟩
  have hlow := h1.low j hj1 hj
  have hnd : (ord.take j).Nodup := List.Nodup.sublist (List.take_sublist _ _) h1.nd
  rw [brn_out hnd (fun v hv => h1.lt v (List.mem_of_mem_take hv))] at hlow
  have hle : outE b.length (ed b) (fun u => !(ord.take j).contains u) ord[j] ≤ outE b.length (ed b) S ord[j] := by
    refine sumTo_mono fun u hu => ?_
    have hn0 := g.nn ord[j] u hv hu
    by_cases hm : u ∈ ord.take j
    · have hc : (ord.take j).contains u = true := by simpa using hm
      obtain ⟨t, ht, e⟩ := List.getElem_of_mem hm
      rw [List.length_take] at ht
      simp only [List.getElem_take] at e
      have hSu := hfirst t (by omega) (by omega)
      rw [e] at hSu
      simp only [hc, hSu, Bool.not_true, Bool.false_eq_true, if_false]
      exact Int.le_refl _
    · have hc : (ord.take j).contains u = false := by simpa using hm
      simp only [hc, Bool.not_false, if_true]
      split <;> omega
  unfold gf
  omega
attribute [local go_sem] gc subHeap reach_skip ren_free reach_new reach_newp reach_end rangeL roots boxCells nodupB posOf renL AV.ren pickO renH renO looks look bindEnv envOf reach_int reach_bool reach_nilS reach_rd putRow cells_sl cells_int cells_bool cells_nilS cells_rd cells_agg reach_agg reach_tup idFreeL idf_sl idf_ptr idf_int idf_bool idf_nilS idf_rd reach_fn reach_mp cells_fn cells_ptr cells_mp idf_mp idf_fn idf_agg idf_tup
set_option maxHeartbeats 8000000
theorem e_stBo {call : CallF} {H : Heap} {id : Nat} {l : List Bool} {i : Nat} {v : Bool} (h : H.data? id = some (bL l)) (hi : i < l.length) : evE call H (.st 1) [.ptr id i, .bool v] = some (.undef, H.set id (some (.data (bL (l.set i v))))) := by
  have := e_stB (call := call) (v := v) (i := (i : Int)) h (by simpa using hi)
  simpa using this
theorem p_ldBo {H : Heap} {id : Nat} {l : List Bool} {i : Nat} (h : H.data? id = some (bL l)) (hi : i < l.length) : evP H (.ld false 1) [.ptr id i] = some (.bool (getB l (i : Int))) := by
  have := p_ldB (i := (i : Int)) (cells_of_data h) (by simpa using hi)
  simpa using this
def leftB (n : Nat) (ord : List Nat) : List Bool := (List.range n).map fun v => !ord.contains v
theorem leftB_len (n : Nat) (ord : List Nat) : (leftB n ord).length = n := by simp [leftB]
theorem leftB_get {n : Nat} {ord : List Nat} {v : Nat} (h : v < n) : getB (leftB n ord) (v : Int) = !ord.contains v := by
  rw [getB_nat]
  simp [leftB, List.getD, h]
theorem extB {a c : List Bool} (h : a.length = c.length) (h2 : ∀ i : Nat, i < a.length → getB a (i : Int) = getB c (i : Int)) : a = c := by
  refine List.ext_getElem h fun j h1 h3 => ?_
  have := h2 j h1
  rw [getB_nat, getB_nat] at this
  simpa [List.getD, h1, h3] using this
theorem getB_set {l : List Bool} {i j : Nat} {v : Bool} (hi : i < l.length) : getB (l.set i v) (j : Int) = if j = i then v else getB l (j : Int) := by
  rw [getB_nat, getB_nat]
  by_cases h : j = i
  · subst h; simp [List.getD, hi]
  · rw [if_neg h]; simp [List.getD, List.getElem?_set_ne (Ne.symm h)]
theorem leftB_set {n : Nat} {ord : List Nat} {v : Nat} (hv : v < n) : (leftB n ord).set v false = leftB n (ord ++ [v]) := by
  refine extB (by simp [leftB_len]) fun i hi => ?_
  rw [List.length_set, leftB_len] at hi
  rw [getB_set (by rw [leftB_len]; exact hv), leftB_get hi, leftB_get hi]
  by_cases e : i = v
  · subst e; simp
  · simp [e]
theorem f99 {x y : AV} {b : List (List Int)} {l : List Int} {q : Nat} (hx : IsLL x b) (hy : IsL y l) (hB : IsB b) (hq : q < b.length) (hln : l.length = b.length) {m : Nat} (hm : 300 ≤ m) :
    evF tab it m 99 [x, y, .int .i64 (q : Int)] [] = some (.tup [.sl 0 1 0 b.length, .sl 1 1 0 (burnL b l q).length], [some (.data (bL (leftB b.length (burnL b l q)))), some (.data (iL (nI (burnL b l q))))]) := by
  obtain ⟨m, rfl⟩ : ∃ j, m = j + 1 := ⟨m - 1, by omega⟩
  have fx := hx.free; have fy := hy.free
  have hn1 := hB.n1; have hn2 := hB.n2
  have hbd := hB.bd
  have lx : ∀ H, evP H .len [x] = some (.int .i64 ((b.length : Nat) : Int)) := fun H => by cases hx <;> rfl
  have mk := fun call H => @e_mkB call H b.length (by unfold most; omega)
  have bld : ∀ call H (a : Int), evE call H (.bldS true false 1 1 [.int .i64 0] [(0, 1)]) [.int .i64 a] = some (.sl H.length 1 0 1, H ++ [some (.data [.int .i64 a])]) := fun call H a => rfl
  generalize hR : burnL b l q = R
  refine f_enter rfl rfl ?_
  generalize evF tab it m = call at *
  have gcO : ∀ (v : Nat) (C : List AV), gc 0 [x, y, .int .i64 (q : Int), .sl 0 1 0 b.length, .int .i64 ((b.length : Nat) : Int), .int .i64 (v : Int)] [some (.data C)] = some ([x, y, .int .i64 (q : Int), .sl 0 1 0 b.length, .int .i64 ((b.length : Nat) : Int), .int .i64 (v : Int)], [some (.data C)]) := fun v C => by simp [go_sem, fx, fy]
  have gcF : ∀ (k : Nat) (C D : List AV), gc 0 [x, y, .sl 0 1 0 b.length, .sl 1 1 0 k] [some (.data C), some (.data D)] = some ([x, y, .sl 0 1 0 b.length, .sl 1 1 0 k], [some (.data C), some (.data D)]) := fun k C D => by simp [go_sem, fx, fy]
  have gcF2 : ∀ (k : Nat) (C D : List AV), gc 0 [x, y, .sl 0 1 0 b.length, .sl 2 1 0 k] [some (.data C), none, some (.data D)] = some ([x, y, .sl 0 1 0 b.length, .sl 1 1 0 k], [some (.data C), some (.data D)]) := fun k C D => by simp [go_sem, fx, fy]
  have gcV : ∀ (k v : Nat) (C D : List AV), gc 0 [x, y, .sl 0 1 0 b.length, .sl 1 1 0 k, .sl 0 1 0 b.length, .int .i64 ((b.length : Nat) : Int), .int .i64 (v : Int)] [some (.data C), some (.data D)] = some ([x, y, .sl 0 1 0 b.length, .sl 1 1 0 k, .sl 0 1 0 b.length, .int .i64 ((b.length : Nat) : Int), .int .i64 (v : Int)], [some (.data C), some (.data D)]) := fun k v C D => by simp [go_sem, fx, fy]
  have gcE : ∀ (k v j : Nat) (e : Int) (C D : List AV), gc 0 [x, y, .sl 0 1 0 b.length, .sl 1 1 0 k, .int .i64 (v : Int), .int .i64 e, .sl 0 1 0 b.length, .int .i64 ((b.length : Nat) : Int), .int .i64 (v : Int), .sl 1 1 0 k, .int .i64 (k : Int), .int .i64 (j : Int)] [some (.data C), some (.data D)] = some ([x, y, .sl 0 1 0 b.length, .sl 1 1 0 k, .int .i64 (v : Int), .int .i64 e, .sl 0 1 0 b.length, .int .i64 ((b.length : Nat) : Int), .int .i64 (v : Int), .sl 1 1 0 k, .int .i64 (k : Int), .int .i64 (j : Int)], [some (.data C), some (.data D)]) := fun k v j e C D => by simp [go_sem, fx, fy]
  skip
  repeat' first
 | (apply s_mov; exact aW)
 | (apply c_nil)
 | (apply s_pn; exact aO; exact lx _)
 | (apply s_en; exact aO; exact mk _ _)
 | (apply s_lenSl; exact rfl)
 | (apply c_seq)
 | (apply c_reg)
 | (apply c_block)
 | (apply c_skip)
 | (with_reducible apply k_c)
  refine c_loop ?_
  refine loop_gc (σ := Nat × List Bool) (fun p => [x, y, .int .i64 (q : Int), .sl 0 1 0 b.length, .int .i64 ((b.length : Nat) : Int), .int .i64 (p.1 : Int)]) (fun p => [some (.data (bL p.2))]) (fun p => p.1 ≤ b.length ∧ p.2.length = b.length ∧ ∀ i : Nat, i < p.1 → getB p.2 (i : Int) = !([q] : List Nat).contains i) (fun p => b.length - p.1) ?_ _ (0, List.replicate b.length false) _ _ ⟨by omega, by simp, fun i hi => by omega⟩ (by show b.length - 0 < _; omega) (gcO 0 _)
  intro ⟨v, L⟩ ⟨hv, hLl, hL⟩ K hK
  dsimp only at hv hLl hL hK ⊢
  by_cases hvn : v < b.length
  · have st := fun (vv : Bool) call H h => e_stBo (call := call) (H := H) (id := 0) (l := L) (i := v) (v := vv) h (by omega)
    repeat' first
 | (apply s_mov; exact aW)
 | (apply c_nil)
 | (apply s_lss; exact rfl; all_goals (intro _; try (exfalso; omega)))
 | (apply s_neq; exact rfl; all_goals (intro _; try (exfalso; omega)))
 | (apply s_add; exact rfl; omega)
 | (apply s_pn; exact aO; exact p_ixO hvn)
 | (apply s_st; exact aO; exact st _ _ _ rfl)
 | (apply c_seq)
 | (apply c_reg)
 | (apply c_block)
 | (apply c_skip)
 | (apply c_condT; exact rfl)
 | (with_reducible apply k_c)
    · refine hK (v + 1, L.set v false) _ _ ⟨by omega, by simpa using hLl, fun i hi => ?_⟩ (by show b.length - (v + 1) < _; omega) (gcO (v + 1) _)
      dsimp only
      rw [getB_set (by omega)]
      by_cases e : i = v
      · subst e; rw [if_pos rfl]; symm; simp; omega
      · rw [if_neg e]; exact hL i (by omega)
    · refine hK (v + 1, L.set v true) _ _ ⟨by omega, by simpa using hLl, fun i hi => ?_⟩ (by show b.length - (v + 1) < _; omega) (gcO (v + 1) _)
      dsimp only
      rw [getB_set (by omega)]
      by_cases e : i = v
      · subst e; rw [if_pos rfl]; symm; simp; omega
      · rw [if_neg e]; exact hL i (by omega)
  · obtain rfl : v = b.length := by omega
    obtain rfl : L = leftB b.length [q] := extB (by rw [leftB_len]; exact hLl) fun i hi => by rw [leftB_get (by omega)]; exact hL i (by omega)
    repeat' first
 | (apply c_nil)
 | (apply s_lss; exact rfl; all_goals (intro _; try (exfalso; omega)))
 | (apply c_seq)
 | (apply c_reg)
 | (apply c_exitH)
 | (apply c_condF; exact rfl)
 | (with_reducible apply k_c)
    apply c_pre (vs := [x, y, .int .i64 (q : Int), .sl 0 1 0 b.length]) (H' := [some (.data (bL (leftB b.length [q])))])
    · simp [go_sem, fx, fy]
    repeat' first
 | (apply s_mov; exact aW)
 | (apply c_nil)
 | (apply s_en; exact aO; exact bld _ _ _)
 | (apply c_seq)
 | (apply c_reg)
 | (apply c_block)
 | (apply c_skip)
 | (with_reducible apply k_c)
    refine c_loop ?_
    refine loop_gc (σ := List Nat × Nat) (fun p => [x, y, .sl 0 1 0 b.length, .sl 1 1 0 p.1.length]) (fun p => [some (.data (bL (leftB b.length p.1))), some (.data (iL (nI p.1)))]) (fun p => BrnOk b l q p.1 ∧ b.length ≤ p.2 + p.1.length ∧ burnF b l p.2 p.1 = R) (fun p => b.length - p.1.length) ?_ _ ([q], b.length) _ _ ⟨BrnOk.init hq, by dsimp only; omega, hR⟩ (by show b.length - 1 < _; omega) (gcF 1 _ _)
    intro ⟨ord, f⟩ ⟨hok, hf, hfR⟩ K2 hK2
    dsimp only at hok hf hfR hK2 ⊢
    have hol := hok.len
    repeat' first
 | (apply s_mov; exact aW)
 | (apply c_nil)
 | (apply s_lenSl; exact rfl)
 | (apply c_seq)
 | (apply c_reg)
 | (apply c_block)
 | (with_reducible apply k_c)
    refine c_loop ?_
    refine loop_gc (σ := Nat) (fun v => [x, y, .sl 0 1 0 b.length, .sl 1 1 0 ord.length, .sl 0 1 0 b.length, .int .i64 ((b.length : Nat) : Int), .int .i64 (v : Int)]) (fun _ => [some (.data (bL (leftB b.length ord))), some (.data (iL (nI ord)))]) (fun v => v ≤ b.length ∧ ∀ w, w < v → bP b l ord w = false) (fun v => b.length - v) ?_ _ 0 _ _ ⟨by omega, fun w hw => by omega⟩ (by omega) (gcV _ 0 _ _)
    intro v ⟨hv, hno⟩ K3 hK3
    by_cases hvn : v < b.length
    · have ldl := fun H h => p_ldBo (H := H) (id := 0) (l := leftB b.length ord) (i := v) h (by rw [leftB_len]; exact hvn)
      rw [leftB_get hvn] at ldl
      cases hc : ord.contains v with
      | true =>
        rw [hc] at ldl
        have hbp : bP b l ord v = false := by unfold bP; rw [hc]; rfl
        simp only [Bool.not_true] at ldl
        repeat' first
 | (apply s_mov; exact aW)
 | (apply c_nil)
 | (apply s_notF; exact rfl)
 | (apply s_lss; exact rfl; all_goals (intro _; try (exfalso; omega)))
 | (apply s_pn; exact aO; exact p_ixO hvn)
 | (apply s_pn; exact aO; exact ldl _ rfl)
 | (apply c_seq)
 | (apply c_reg)
 | (apply c_block)
 | (apply c_exitH)
 | (apply c_skip)
 | (apply c_condT; exact rfl)
 | (with_reducible apply k_c)
        all_goals first
          | (apply c_pre (vs := [x, y, .sl 0 1 0 b.length, .sl 1 1 0 ord.length, .sl 0 1 0 b.length, .int .i64 ((b.length : Nat) : Int), .int .i64 (v : Int)]) (H' := [some (.data (bL (leftB b.length ord))), some (.data (iL (nI ord)))])
             · exact gcV _ v _ _)
          | skip
        repeat' first
 | (apply s_mov; exact aW)
 | (apply c_nil)
 | (apply s_add; exact rfl; omega)
 | (apply c_reg)
        refine hK3 (v + 1) _ _ ⟨by omega, fun w hw => ?_⟩ (by omega) (gcV _ (v + 1) _ _)
        rcases (by omega : w < v ∨ w = v) with h | rfl
        · exact hno w h
        · exact hbp
      | false =>
        rw [hc] at ldl
        simp only [Bool.not_false] at ldl
        have hrow := hx.at (i := (v : Int)) ⟨by omega, by omega⟩
        have hrl := hbd.row v hvn
        have fr := hrow.free
        repeat' first
 | (apply s_mov; exact aW)
 | (apply c_nil)
 | (apply s_notT; exact rfl)
 | (apply s_lss; exact rfl; all_goals (intro _; try (exfalso; omega)))
 | (apply s_pn; exact aO; exact p_ixO hvn)
 | (apply s_pn; exact aO; exact ldl _ rfl)
 | (apply s_lenSl; exact rfl)
 | (apply c_seq)
 | (apply c_reg)
 | (apply c_block)
 | (apply c_skip)
 | (apply c_condT; exact rfl)
 | (apply c_condF; exact rfl)
 | (with_reducible apply k_c)
        refine c_loop ?_
        refine loop_gc (σ := Nat) (fun j => [x, y, .sl 0 1 0 b.length, .sl 1 1 0 ord.length, .int .i64 (v : Int), .int .i64 (sumTo (fun j => getI (getLL b (v : Int)) (getI (nI ord) (j : Int))) j), .sl 0 1 0 b.length, .int .i64 ((b.length : Nat) : Int), .int .i64 (v : Int), .sl 1 1 0 ord.length, .int .i64 (ord.length : Int), .int .i64 (j : Int)]) (fun _ => [some (.data (bL (leftB b.length ord))), some (.data (iL (nI ord)))]) (fun j => j ≤ ord.length) (fun j => ord.length - j) ?_ _ 0 _ _ (by omega) (by omega) (gcE _ v 0 _ _ _)
        intro j hj K4 hK4
        have hval : ∀ j : Nat, j < ord.length → (0 ≤ getI (nI ord) (j : Int) ∧ getI (nI ord) (j : Int) < b.length) ∧ 0 ≤ getI (getLL b (v : Int)) (getI (nI ord) (j : Int)) ∧ getI (getLL b (v : Int)) (getI (nI ord) (j : Int)) ≤ 3 := fun j hj => by
          rw [nI_get hj]
          have := hok.lt _ (List.getElem_mem hj)
          have := hbd.val v ord[j] hvn this
          omega
        have hsl := sumTo_le (f := fun j => getI (getLL b (v : Int)) (getI (nI ord) (j : Int))) (M := 3) (n := j) fun t ht => by have := hval t (by omega); omega
        have hK41 := hK4 (j + 1)
        simp only [sumTo] at hK41
        have hbrn : j = ord.length → sumTo (fun j => getI (getLL b (v : Int)) (getI (nI ord) (j : Int))) j = brn b ord v := fun e => by subst e; rfl
        generalize hZ : sumTo (fun j => getI (getLL b (v : Int)) (getI (nI ord) (j : Int))) j = Z at *
        by_cases hjn : j < ord.length
        · have h1 := hval j hjn
          have ldo := fun H h => p_ldO (H := H) (id := 1) (l := nI ord) (i := j) h (by rw [nI_len]; exact hjn)
          repeat' first
 | (apply s_mov; exact aW)
 | (apply c_nil)
 | (apply s_lss; exact rfl; all_goals (intro _; try (exfalso; omega)))
 | (apply s_add; exact rfl; omega)
 | (apply s_pn; exact aO; exact p_ixO hjn)
 | (apply s_pn; exact aO; exact ldo _ rfl)
 | (apply s_idx; exact aW; exact rfl; exact aI; omega)
 | (apply s_idxLL; exact aW; exact rfl; assumption; omega)
 | (apply s_ldI; exact rfl; omega)
 | (apply s_ldLL; exact rfl; assumption; omega)
 | (apply c_seq)
 | (apply c_reg)
 | (apply c_block)
 | (apply c_skip)
 | (apply c_condT; exact rfl)
 | (with_reducible apply k_c)
          exact hK41 _ _ (by omega) (by omega) (gcE _ v (j + 1) _ _ _)
        · obtain rfl : j = ord.length := by omega
          have hZb := hbrn rfl
          repeat' first
 | (apply c_nil)
 | (apply s_lss; exact rfl; all_goals (intro _; try (exfalso; omega)))
 | (apply c_seq)
 | (apply c_reg)
 | (apply c_exitH)
 | (apply c_condF; exact rfl)
 | (with_reducible apply k_c)
          apply c_pre (vs := [x, y, .sl 0 1 0 b.length, .sl 1 1 0 ord.length, .int .i64 (v : Int), .int .i64 Z, .sl 0 1 0 b.length, .int .i64 ((b.length : Nat) : Int), .int .i64 (v : Int)]) (H' := [some (.data (bL (leftB b.length ord))), some (.data (iL (nI ord)))])
          · simp [go_sem, fx, fy]
          by_cases hlt : getI l (v : Int) < Z
          · have hbp : bP b l ord v = true := by unfold bP; rw [hc, ← hZb]; simpa using hlt
            have hfind : (List.range b.length).find? (bP b l ord) = some v := by
              rw [List.find?_range_eq_some]
              exact ⟨hbp, List.mem_range.2 hvn, fun w hw => by simpa using hno w hw⟩
            have hst := hok.step hvn hbp
            have hcap := hst.len
            simp only [List.length_append, List.length_cons, List.length_nil] at hcap
            obtain ⟨f, rfl⟩ : ∃ j, f = j + 1 := ⟨f - 1, by omega⟩
            simp only [burnF, hfind] at hfR
            have st := fun call H h => e_stBo (call := call) (H := H) (id := 0) (l := leftB b.length ord) (i := v) (v := false) h (by rw [leftB_len]; exact hvn)
            rw [leftB_set hvn] at st
            have apq := fun call (H : Heap) (h : H.data? 1 = some (iL ([] ++ nI ord))) => e_appO (call := call) (a := (v : Int)) (id := 1) h rfl (nI_len ord) (by unfold most; omega)
            rw [show nI ord ++ [(v : Int)] = nI (ord ++ [v]) from by simp [nI]] at apq
            have hK21 := hK2 (ord ++ [v], f)
            dsimp only at hK21
            rw [show (ord ++ [v]).length = ord.length + 1 by simp] at hK21
            repeat' first
 | (apply s_mov; exact aW)
 | (apply c_nil)
 | (apply s_lss; exact rfl; all_goals (intro _; try (exfalso; omega)))
 | (apply s_pn; exact aO; exact p_ixO hvn)
 | (apply s_st; exact aO; exact st _ _ rfl)
 | (apply s_en; exact aO; exact e_bld1 rfl rfl rfl rfl)
 | (apply s_en; exact aO; exact apq _ _ rfl)
 | (apply s_idx; exact aW; exact rfl; exact aI; omega)
 | (apply s_ldI; exact rfl; omega)
 | (apply c_seq)
 | (apply c_reg)
 | (apply c_exitH)
 | (apply c_condT; exact rfl)
 | (apply c_exitM; exact rfl)
 | (with_reducible apply k_c)
            all_goals first
              | (exfalso; omega)
              | (refine hK21 _ _ ⟨hst, by omega, hfR⟩ (by omega) (gcF2 _ _ _); done)
              | skip
          · have hbp : bP b l ord v = false := by unfold bP; rw [hc, ← hZb]; simpa using hlt
            repeat' first
 | (apply s_mov; exact aW)
 | (apply c_nil)
 | (apply s_lss; exact rfl; all_goals (intro _; try (exfalso; omega)))
 | (apply s_idx; exact aW; exact rfl; exact aI; omega)
 | (apply s_ldI; exact rfl; omega)
 | (apply c_seq)
 | (apply c_reg)
 | (apply c_skip)
 | (apply c_condF; exact rfl)
 | (with_reducible apply k_c)
            all_goals first
              | (exfalso; omega)
              | skip
            apply c_pre (vs := [x, y, .sl 0 1 0 b.length, .sl 1 1 0 ord.length, .sl 0 1 0 b.length, .int .i64 ((b.length : Nat) : Int), .int .i64 (v : Int)]) (H' := [some (.data (bL (leftB b.length ord))), some (.data (iL (nI ord)))])
            · exact gcV _ v _ _
            repeat' first
 | (apply s_mov; exact aW)
 | (apply c_nil)
 | (apply s_add; exact rfl; omega)
 | (apply c_reg)
            refine hK3 (v + 1) _ _ ⟨by omega, fun w hw => ?_⟩ (by omega) (gcV _ (v + 1) _ _)
            rcases (by omega : w < v ∨ w = v) with h | rfl
            · exact hno w h
            · exact hbp
    · obtain rfl : v = b.length := by omega
      have hfind : (List.range b.length).find? (bP b l ord) = none := by
        rw [List.find?_eq_none]
        intro w hw
        rw [hno w (List.mem_range.1 hw)]
        simp
      have : ord = R := by
        rw [← hfR]
        cases f with
        | zero => rfl
        | succ f => simp only [burnF, hfind]
      subst this
      repeat' first
 | (apply c_nil)
 | (apply s_lss; exact rfl; all_goals (intro _; try (exfalso; omega)))
 | (apply c_seq)
 | (apply c_reg)
 | (apply c_exitH)
 | (apply c_condF; exact rfl)
 | (with_reducible apply k_c)
      apply c_pre (vs := [.sl 0 1 0 b.length, .sl 1 1 0 ord.length]) (H' := [some (.data (bL (leftB b.length ord))), some (.data (iL (nI ord)))])
      · simp [go_sem]
      repeat' first
 | (apply s_mov; exact aW)
 | (apply c_nil)
 | (apply c_seq)
 | (apply c_reg)
 | (apply c_ret)
 | (with_reducible apply k_c)
      simp [finish, ress, resOf, look, tupOf, go_sem]
set_option maxHeartbeats 8000000
theorem frz_slB {H : Heap} {k id n : Nat} {l : List Bool} (h : H.data? id = some (bL l)) (hl : l.length = n) : frzV H (k + 1) (.sl id 1 0 n) = some (.rd 1 n (bL l)) := by
  have := bL_len l
  subst hl
  simp [frzV_sl, h, this, List.take_of_length_le]
theorem c99 {x y : AV} {b : List (List Int)} {l : List Int} {q : Nat} (hx : IsLL x b) (hy : IsL y l) (hB : IsB b) (hq : q < b.length) (hln : l.length = b.length) {m : Nat} (hm : 300 ≤ m) (H : Heap) :
    callPure (evF tab it m) true 99 [x, y, .int .i64 (q : Int)] H = some (.tup [.rd 1 b.length (bL (leftB b.length (burnL b l q))), .rd 1 (burnL b l q).length (iL (nI (burnL b l q)))], H) :=
  callPure_frz (by simp [idFreeL, AV.idFree, hx.free, hy.free]) (by simp) (f99 hx hy hB hq hln hm) (frzV_tup rfl (frzL_cons (frz_slB rfl (leftB_len _ _)) (frzL_cons (frz_sl rfl (nI_len _)) frzL_nil)))
theorem c105o {x y : AV} {b : List (List Int)} {l : List Int} {q : Nat} (hx : IsLL x b) (hy : IsL y l) (hB : IsB b) (hq : q < b.length) (hl : Near b.length q l) {m : Nat} (hm : 2200 ≤ m) (H : Heap) :
    callPure (evF tab it m) false 105 [x, y, .int .i64 (q : Int)] H = some (.sl H.length 1 0 b.length, H ++ [some (.data (iL (payL b l q)))]) := by
  have ff : idFreeL [x, y, .int .i64 (q : Int)] = true := by simp [idFreeL, AV.idFree, hx.free, hy.free]
  simp [callPure, frzL_free H 40 [x, y, .int .i64 (q : Int)] (by simp) ff, f105 hx hy hB hq hl hm, ff, shiftH, AV.ren, renH, renO]
theorem payL_ok {b : List (List Int)} {l : List Int} {q : Nat} (hB : IsB b) (hq : q < b.length) (hl : Near b.length q l) : (∀ v, v < b.length → v ≠ q → 0 ≤ ap b.length (ed b) (gf l) (gf (payL b l q)) v) ∧ ∀ v, v < b.length → 0 ≤ gf (payL b l q) v ∧ gf (payL b l q) v ≤ 2732094289936000 := by
  have g := gr_of hB
  have hd := dist_dst hB hq
  have hn1 := hB.n1; have hn2 := hB.n2
  have hmx := (maxTo_le (dist b q).1 b.length (b.length - 1)).2 fun j hj => hd.le j (by omega)
  have hmxa : ∀ v : Nat, v < b.length → getI (dist b q).1 (v : Int) ≤ maxTo (dist b q).1 (b.length - 1) := fun v hv => (maxTo_le (dist b q).1 (maxTo (dist b q).1 (b.length - 1)) (b.length - 1)).1 (Int.le_refl _) v (by omega)
  have h0 : PayOk b.length (ed b) (gf (dist b q).1) (gf l) (maxTo (dist b q).1 (b.length - 1)).toNat (payB b.length 100 0) (fun _ => 0) := ⟨fun v hv h => by have := hmxa v hv; have h3 : gf (dist b q).1 v = getI (dist b q).1 (v : Int) := rfl; omega, fun v hv => by simp [payB]⟩
  have h1 := payF_ok g hd (M := 100) (by omega) (fun v hv hvq => (hl.oth v hv hvq).1) _ 0 _ h0
  have hb := payB_bound hn2 (M := 100) (by omega) (k := 0 + (maxTo (dist b q).1 (b.length - 1)).toNat) (by omega)
  have hg : ∀ j, j < b.length → payF b.length (ed b) (gf (dist b q).1) (gf l) (maxTo (dist b q).1 (b.length - 1)).toNat (fun _ => 0) j = gf (payL b l q) j := fun j hj => (payL_get hj).symm
  have h2 := h1.congr hg
  refine ⟨fun v hv hvq => h2.paid v hv (by have := hd.pos v hv hvq; omega), fun v hv => ?_⟩
  have := h2.nn v hv
  omega
theorem smK_ex : ∃ K : Nat, 100000000000000000000000000000000000 ≤ K := ⟨_, Nat.le_refl _⟩
noncomputable def smK : Nat := Classical.choose smK_ex
theorem smK_le : 100000000000000000000000000000000000 ≤ smK := Classical.choose_spec smK_ex
theorem smK_big : 100000 ≤ smK := Nat.le_trans (by decide) smK_le
attribute [irreducible] smK
theorem pot_small {b : List (List Int)} {l : List Int} {q : Nat} (hB : IsB b) (hq : q < b.length) (hl : Near b.length q l) {t : List Int} (ht : ∀ v, v < b.length → 0 ≤ gf t v ∧ gf t v ≤ 2732094289940000) (hn : ∀ v, v < b.length → v ≠ q → 0 ≤ ap b.length (ed b) (gf l) (gf t) v) :
    (pot b.length (gf (dist b q).1) (ap b.length (ed b) (gf l) (gf t))).toNat + 1 < smK := by
  have g := gr_of hB
  have hd := dist_dst hB hq
  have hn2 := hB.n2
  have hpw : (40 : Int) ^ b.length ≤ 10485760000000000 := by
    have := pow_le40 hn2
    have e : (40 : Int) ^ 10 = 10485760000000000 := by decide
    omega
  have hle := sumTo_le (f := fun i => wgt b.length (gf (dist b q).1) i * ap b.length (ed b) (gf l) (gf t) i) (M := 10485760000000000 * 100000000000000000) (n := b.length) fun v hv => by
    have h1 := ap_low g (l := gf l) ht (by omega) hv
    have h2 := hl.all v hv
    have h3 : (2732094289940000 : Int) * ((b.length : Int) * 3) ≤ 2732094289940000 * (10 * 3) := Int.mul_le_mul_of_nonneg_left (by omega) (by omega)
    have h4 : gf l v = getI l (v : Int) := rfl
    have w0 := wgt_nn hd v
    have w1 : wgt b.length (gf (dist b q).1) v ≤ 10485760000000000 := by
      unfold wgt
      have := pow_pos40 (b.length - (gf (dist b q).1 v).toNat)
      omega
    try dsimp only
    by_cases hvq : v = q
    · subst hvq
      rw [wgt_zero hd, Int.zero_mul]
      omega
    · have h5 := hn v hv hvq
      have h6 : wgt b.length (gf (dist b q).1) v * ap b.length (ed b) (gf l) (gf t) v ≤ 10485760000000000 * 100000000000000000 := Int.mul_le_mul w1 (by omega) h5 (by omega)
      have h7 := Int.mul_nonneg w0 h5
      omega
  have hsk := smK_le
  generalize smK = K at *
  unfold pot
  have : (b.length : Int) * (10485760000000000 * 100000000000000000) ≤ 10 * (10485760000000000 * 100000000000000000) := Int.mul_le_mul_of_nonneg_right (by omega) (by omega)
  omega
theorem f81 {x y : AV} {b : List (List Int)} {l : List Int} {q : Nat} (hx : IsLL x b) (hy : IsL y l) (hB : IsB b) (hq : q < b.length) (hl : Near b.length q l) {m : Nat} (hm : smK ≤ m) :
    evF tab it m 81 [x, y, .int .i64 (q : Int)] [] = some (.sl 0 1 0 b.length, [some (.data (iL (redT b l q)))]) := by
  obtain ⟨m, rfl⟩ : ∃ j, m = j + 1 := ⟨m - 1, by have := smK_big; omega⟩
  have fx := hx.free; have fy := hy.free
  have hn1 := hB.n1; have hn2 := hB.n2
  have hbd := hB.bd
  have g := gr_of hB
  have hd := dist_dst hB hq
  have hln := hl.len
  have lx : ∀ H, evP H .len [x] = some (.int .i64 ((b.length : Nat) : Int)) := fun H => by cases hx <;> rfl
  have hm2 : 2299 ≤ m := by have := smK_big; omega
  have e105 := fun H => c105o hx hy hB hq hl (m := m) (by omega) H
  have hpl := payL_len b l q
  obtain ⟨hp1, hp2⟩ := payL_ok hB hq hl
  have hps := pot_small hB hq hl (t := payL b l q) (fun v hv => by have := hp2 v hv; omega) hp1
  have hpq := hp2 q hq
  refine f_enter rfl rfl ?_
  have e55 := fun (t : List Int) (ht : t.length = b.length) h1 (H : Heap) (ha : frzL H 40 [x, y, .sl 0 1 0 b.length] = some [x, y, .rd 1 b.length (iL t)]) => c55p hx hy (rd_isL ht) hbd hln ht h1 (fun v hv => by have := hl.all v hv; omega) (m := m) (by omega) H ha
  have e99 := fun (t : List Int) (H : Heap) => c99 (q := q) hx (rd_isL (apl_len b l t)) hB hq (apl_len b l t) (m := m) (by omega) H
  generalize hcall : evF tab it m = call at *
  generalize hPL : payL b l q = PL at *
  generalize hRR : redT b l q = R at *
  have gcO : ∀ (C : List AV), gc 0 [x, y, .int .i64 (q : Int), .sl 0 1 0 b.length] [some (.data C)] = some ([x, y, .int .i64 (q : Int), .sl 0 1 0 b.length], [some (.data C)]) := fun C => by simp [go_sem, fx, fy]
  have gcV : ∀ (L : List Bool) (v : Nat) (C : List AV), gc 0 [x, y, .int .i64 (q : Int), .sl 0 1 0 b.length, .rd 1 b.length (bL L), .int .i64 ((b.length : Nat) : Int), .int .i64 (v : Int)] [some (.data C)] = some ([x, y, .int .i64 (q : Int), .sl 0 1 0 b.length, .rd 1 b.length (bL L), .int .i64 ((b.length : Nat) : Int), .int .i64 (v : Int)], [some (.data C)]) := fun L v C => by simp [go_sem, fx, fy]
  have gcB : ∀ (a : Int) (v : Nat) (C : List AV), gc 0 [.sl 0 1 0 b.length, .int .i64 a, .int .i64 ((b.length : Nat) : Int), .int .i64 (v : Int)] [some (.data C)] = some ([.sl 0 1 0 b.length, .int .i64 a, .int .i64 ((b.length : Nat) : Int), .int .i64 (v : Int)], [some (.data C)]) := fun a v C => by simp [go_sem]
  skip
  repeat' first
 | (apply s_mov; exact aW)
 | (apply c_nil)
 | (apply s_en; exact aO; exact e105 _)
 | (apply c_seq)
 | (apply c_reg)
 | (apply c_block)
 | (with_reducible apply k_c)
  refine c_loop ?_
  refine loop_gc (σ := List Int) (fun _ => [x, y, .int .i64 (q : Int), .sl 0 1 0 b.length]) (fun t => [some (.data (iL t))]) (fun t => t.length = b.length ∧ (∀ v, v < b.length → v ≠ q → 0 ≤ ap b.length (ed b) (gf l) (gf t) v) ∧ (∀ v, v < b.length → 0 ≤ gf t v) ∧ gf t q = gf PL q) (fun t => (pot b.length (gf (dist b q).1) (ap b.length (ed b) (gf l) (gf t))).toNat) ?_ _ PL _ _ ⟨hpl, hp1, fun v hv => (hp2 v hv).1, rfl⟩ (by omega) (gcO _)
  intro t ⟨htl, hnn, ht0, htq⟩ K hK
  clear hps hm
  have htb : ∀ v, v < b.length → 0 ≤ gf t v ∧ gf t v ≤ 2732094289946000 := fun v hv => by
    have h1 := upper_le g hd (t := gf t) (B := 100) (by omega) (fun w hw hwq => by
      have := hnn w hw hwq
      have h2 := (hl.oth w hw hwq).2
      have h3 : gf l w = getI l (w : Int) := rfl
      unfold ap at this
      omega) b.length v hv (hd.le v hv)
    have h2 : (b.length : Int) * (b.length * 100) ≤ 10 * (10 * 100) := Int.mul_le_mul (by omega) (by omega) (by omega) (by omega)
    have := ht0 v hv
    omega
  have e55' := e55 t htl (fun v hv => by have := htb v hv; have h3 : gf t v = getI t (v : Int) := rfl; omega) [some (.data (iL t))] (frzL_cons (frzV_of fx) (frzL_cons (frzV_of fy) (frzL_cons (frz_sl rfl htl) frzL_nil)))
  have e99' := e99 t
  have hAg : ∀ v, v < b.length → gf (apl b l t) v = ap b.length (ed b) (gf l) (gf t) v := fun v hv => apl_ap hB l t hv
  have hAl := apl_len b l t
  have hleg := burn_leg (b := b) (l := apl b l t) hq
  have hred := burn_red hB (l := apl b l t) hq (fun v hv hvq => by rw [hAg v hv]; exact hnn v hv hvq)
  obtain ⟨hbo, -⟩ := burnL_ok (b := b) (l := apl b l t) hq
  have hbl := hbo.len
  generalize hA : apl b l t = A at *
  generalize hOO : burnL b A q = ord at *
  have lo : ∀ H, evP H .len [AV.rd 1 ord.length (iL (nI ord))] = some (.int .i64 ((ord.length : Nat) : Int)) := fun H => rfl
  have ll : ∀ H, evP H .len [AV.rd 1 b.length (bL (leftB b.length ord))] = some (.int .i64 ((b.length : Nat) : Int)) := fun H => rfl
  repeat' first
 | (apply s_mov; exact aW)
 | (apply c_nil)
 | (apply s_eql; exact rfl; all_goals (intro _; try (exfalso; omega)))
 | (apply s_cn; exact aO; exact e55')
 | (apply s_cn; exact aO; exact e99' _)
 | (apply s_pn; exact aO; exact lx _)
 | (apply s_pn; exact aO; exact lo _)
 | (apply s_pn; exact aO; exact ll _)
 | (apply s_pd; exact aW)
 | (apply c_seq)
 | (apply c_reg)
 | (apply c_block)
 | (apply c_exitH)
 | (apply c_skip)
 | (apply c_condT; exact rfl)
 | (apply c_condF; exact rfl)
 | (apply c_exitM; exact rfl)
 | (with_reducible apply k_c)
  · -- all burnt
    have hr := (hred (by omega)).congr hAg
    have htl' : ((List.range b.length).map fun j => gf t j + (- gf t q)).length = b.length := by simp
    have hgt : ∀ j, j < b.length → gf t j + (- gf t q) = gf ((List.range b.length).map fun j => gf t j + (- gf t q)) j := fun j hj => by
      show _ = getI _ (j : Int)
      rw [getI_nat]; simp [List.getD, hj]
    have hRt : ((List.range b.length).map fun j => gf t j + (- gf t q)) = R := by
      rw [← hRR]
      refine redT_eq hB hq htl' (by rw [← hgt q hq]; omega) (hr.congr fun v hv => ?_)
      have : ap b.length (ed b) (gf l) (gf t) v = ap b.length (ed b) (gf l) (fun j => gf t j + (- gf t q)) v := by unfold ap; rw [net_add, net_const]; omega
      rw [this]
      exact ap_congr hv hgt rfl
    have hRl : R.length = b.length := by rw [← hRt]; exact htl'
    have hRg : ∀ j : Nat, j < b.length → getI R (j : Int) = getI t (j : Int) - getI t (q : Int) := fun j hj => by
      have := hgt j hj
      rw [hRt] at this
      unfold gf at this
      omega
    apply c_pre (vs := [.int .i64 (q : Int), .sl 0 1 0 b.length]) (H' := [some (.data (iL t))])
    · simp [go_sem]
    have ldq := fun H h => p_ldO (H := H) (id := 0) (l := t) (i := q) h (by omega)
    have hbq := htb q hq
    have hgq : gf t q = getI t (q : Int) := rfl
    repeat' first
 | (apply s_mov; exact aW)
 | (apply c_nil)
 | (apply s_pn; exact aO; exact p_ixO hq)
 | (apply s_pn; exact aO; exact ldq _ rfl)
 | (apply s_lenSl; exact rfl)
 | (apply c_seq)
 | (apply c_reg)
 | (apply c_block)
 | (with_reducible apply k_c)
    refine c_loop ?_
    refine loop_gc (σ := Nat × List Int) (fun p => [.sl 0 1 0 b.length, .int .i64 (getI t (q : Int)), .int .i64 ((b.length : Nat) : Int), .int .i64 (p.1 : Int)]) (fun p => [some (.data (iL p.2))]) (fun p => p.1 ≤ b.length ∧ p.2.length = b.length ∧ ∀ i : Nat, i < b.length → getI p.2 (i : Int) = if i < p.1 then getI R (i : Int) else getI t (i : Int)) (fun p => b.length - p.1) ?_ _ (0, t) _ _ ⟨by omega, htl, fun i hi => by rw [if_neg (by omega)]⟩ (by show b.length - 0 < _; omega) (gcB _ 0 _)
    intro ⟨v, t'⟩ ⟨hv, htl2, ht'⟩ K2 hK2
    dsimp only at hv htl2 ht' hK2 ⊢
    by_cases hvn : v < b.length
    · have h1 := ht' v hvn
      rw [if_neg (by omega)] at h1
      have h2 := htb v hvn
      have h3 : gf t v = getI t (v : Int) := rfl
      have ld := fun H h => p_ldO (H := H) (id := 0) (l := t') (i := v) h (by omega)
      have st := fun (vv : Int) call H h => e_stO (call := call) (H := H) (id := 0) (l := t') (i := v) (v := vv) h (by omega)
      repeat' first
 | (apply s_mov; exact aW)
 | (apply c_nil)
 | (apply s_lss; exact rfl; all_goals (intro _; try (exfalso; omega)))
 | (apply s_add; exact rfl; omega)
 | (apply s_sub; exact rfl; omega)
 | (apply s_pn; exact aO; exact p_ixO hvn)
 | (apply s_pn; exact aO; exact ld _ rfl)
 | (apply s_st; exact aO; exact st _ _ _ rfl)
 | (apply c_seq)
 | (apply c_reg)
 | (apply c_block)
 | (apply c_skip)
 | (apply c_condT; exact rfl)
 | (with_reducible apply k_c)
      refine hK2 (v + 1, _) _ _ ⟨by omega, by simpa using htl2, fun i hi => ?_⟩ (by show b.length - (v + 1) < _; omega) (gcB _ (v + 1) _)
      dsimp only
      rw [getI_set (by omega)]
      by_cases e : i = v
      · subst e; rw [if_pos rfl, if_pos (by omega), hRg i hi, h1]
      · rw [if_neg e, ht' i hi]
        by_cases e2 : i < v
        · rw [if_pos e2, if_pos (by omega)]
        · rw [if_neg e2, if_neg (by omega)]
    · obtain rfl : v = b.length := by omega
      obtain rfl : t' = R := ext_getI (by omega) fun i hi => by rw [ht' i (by omega), if_pos (by omega)]
      repeat' first
 | (apply c_nil)
 | (apply s_lss; exact rfl; all_goals (intro _; try (exfalso; omega)))
 | (apply c_seq)
 | (apply c_reg)
 | (apply c_exitH)
 | (apply c_condF; exact rfl)
 | (with_reducible apply k_c)
      apply c_pre (vs := [.sl 0 1 0 b.length]) (H' := [some (.data (iL t'))])
      · simp [go_sem]
      repeat' first
 | (apply s_mov; exact aW)
 | (apply c_nil)
 | (apply c_seq)
 | (apply c_reg)
 | (apply c_ret)
 | (with_reducible apply k_c)
      simp [finish, ress, resOf, look, tupOf, go_sem]
  · -- what is left fires
    refine c_loop ?_
    refine loop_gc (σ := Nat × List Int) (fun p => [x, y, .int .i64 (q : Int), .sl 0 1 0 b.length, .rd 1 b.length (bL (leftB b.length ord)), .int .i64 ((b.length : Nat) : Int), .int .i64 (p.1 : Int)]) (fun p => [some (.data (iL p.2))]) (fun p => p.1 ≤ b.length ∧ p.2.length = b.length ∧ ∀ i : Nat, i < b.length → getI p.2 (i : Int) = if i < p.1 then getI t (i : Int) + ind (fun u => !ord.contains u) i else getI t (i : Int)) (fun p => b.length - p.1) ?_ _ (0, t) _ _ ⟨by omega, htl, fun i hi => by rw [if_neg (by omega)]⟩ (by show b.length - 0 < _; omega) (gcV _ 0 _)
    intro ⟨v, t'⟩ ⟨hv, htl2, ht'⟩ K2 hK2
    dsimp only at hv htl2 ht' hK2 ⊢
    by_cases hvn : v < b.length
    · have h1 := ht' v hvn
      rw [if_neg (by omega)] at h1
      have h2 := htb v hvn
      have h3 : gf t v = getI t (v : Int) := rfl
      have hgl := leftB_get (ord := ord) hvn
      have hll := leftB_len b.length ord
      have ld := fun H h => p_ldO (H := H) (id := 0) (l := t') (i := v) h (by omega)
      have st := fun (vv : Int) call H h => e_stO (call := call) (H := H) (id := 0) (l := t') (i := v) (v := vv) h (by omega)
      repeat' first
 | (apply s_mov; exact aW)
 | (apply c_nil)
 | (apply s_lss; exact rfl; all_goals (intro _; try (exfalso; omega)))
 | (apply s_add; exact rfl; omega)
 | (apply s_pn; exact aO; exact p_ixO hvn)
 | (apply s_pn; exact aO; exact ld _ rfl)
 | (apply s_st; exact aO; exact st _ _ _ rfl)
 | (apply s_ldRB; exact rfl; omega; all_goals intro _)
 | (apply s_idxRB; exact rfl; exact rfl; omega)
 | (apply c_seq)
 | (apply c_reg)
 | (apply c_block)
 | (apply c_skip)
 | (apply c_condT; exact rfl)
 | (apply c_condF; exact rfl)
 | (with_reducible apply k_c)
      · rename_i hgt
        rw [hgl] at hgt
        refine hK2 (v + 1, _) _ _ ⟨by omega, by simpa using htl2, fun i hi => ?_⟩ (by show b.length - (v + 1) < _; omega) (gcV _ (v + 1) _)
        dsimp only
        rw [getI_set (by omega)]
        by_cases e : i = v
        · subst e; rw [if_pos rfl, if_pos (by omega), h1]; unfold ind; rw [if_pos hgt]
        · rw [if_neg e, ht' i hi]
          by_cases e2 : i < v
          · rw [if_pos e2, if_pos (by omega)]
          · rw [if_neg e2, if_neg (by omega)]
      · rename_i hgt
        rw [hgl] at hgt
        refine hK2 (v + 1, t') _ _ ⟨by omega, htl2, fun i hi => ?_⟩ (by show b.length - (v + 1) < _; omega) (gcV _ (v + 1) _)
        dsimp only
        rw [ht' i hi]
        by_cases e : i = v
        · subst e; rw [if_neg (by omega), if_pos (by omega)]; unfold ind; rw [if_neg (by show ¬ (!ord.contains i) = true; rw [hgt]; decide), Int.add_zero]
        · by_cases e2 : i < v
          · rw [if_pos e2, if_pos (by omega)]
          · rw [if_neg e2, if_neg (by omega)]
    · obtain rfl : v = b.length := by omega
      have hgt : ∀ j, j < b.length → gf t j + ind (fun u => !ord.contains u) j = gf t' j := fun j hj => by
        have := ht' j hj
        rw [if_pos hj] at this
        exact this.symm
      have hapA : ∀ v, v < b.length → ap b.length (ed b) (gf l) (gf t') v = ap b.length (ed b) (ap b.length (ed b) (gf l) (gf t)) (ind fun u => !ord.contains u) v := fun v hv => by
        rw [ap_ap]
        exact (ap_congr hv hgt rfl).symm
      have hleg' : Leg b.length (ed b) (ap b.length (ed b) (gf l) (gf t)) (fun u => !ord.contains u) := fun v hv hs => by rw [← hAg v hv]; exact hleg v hv hs
      have hqm : (fun u => !ord.contains u) q = false := by
        have h0 := hbo.hd
        have : q ∈ ord := List.mem_of_getElem? h0
        simp [this]
      have hex : ∃ w, w < b.length ∧ (fun u => !ord.contains u) w = true := by
        apply Classical.byContradiction
        intro hc
        have hall : ∀ w ∈ List.range b.length, w ∈ ord := fun w hw => by
          apply Classical.byContradiction
          intro hm
          exact hc ⟨w, List.mem_range.1 hw, by simp [hm]⟩
        have := nodup_len List.nodup_range hall
        rw [List.length_range] at this
        omega
      obtain ⟨w, hw, hws⟩ := hex
      have hfire := leg_fire g hleg' hnn
      have hpot := leg_pot g hd (c := ap b.length (ed b) (gf l) (gf t)) (S := fun u => !ord.contains u) hqm hw hws
      have hpe : pot b.length (gf (dist b q).1) (ap b.length (ed b) (gf l) (gf t')) = pot b.length (gf (dist b q).1) (ap b.length (ed b) (ap b.length (ed b) (gf l) (gf t)) (ind fun u => !ord.contains u)) := sumTo_congr fun i hi => by rw [hapA i hi]
      have hnn' : ∀ v, v < b.length → v ≠ q → 0 ≤ ap b.length (ed b) (gf l) (gf t') v := fun v hv hvq => by rw [hapA v hv]; exact hfire v hv hvq
      have hp0 := pot_nn hd hnn'
      repeat' first
 | (apply c_nil)
 | (apply s_lss; exact rfl; all_goals (intro _; try (exfalso; omega)))
 | (apply c_seq)
 | (apply c_reg)
 | (apply c_exitH)
 | (apply c_condF; exact rfl)
 | (with_reducible apply k_c)
      refine hK t' _ _ ⟨htl2, hnn', fun v hv => ?_, ?_⟩ (by omega) (gcO _)
      · rw [← hgt v hv]
        have := ht0 v hv
        unfold ind
        split <;> omega
      · rw [← hgt q hq, ← htq]
        unfold ind
        rw [hqm]
        simp
set_option maxHeartbeats 8000000
theorem c81 {x y : AV} {b : List (List Int)} {l : List Int} {q : Nat} (hx : IsLL x b) (hy : IsL y l) (hB : IsB b) (hq : q < b.length) (hl : Near b.length q l) {m : Nat} (hm : smK ≤ m) (H : Heap) :
    callPure (evF tab it m) true 81 [x, y, .int .i64 (q : Int)] H = some (.rd 1 b.length (iL (redT b l q)), H) :=
  callPure_frz (by simp [idFreeL, AV.idFree, hx.free, hy.free]) (by simp) (f81 hx hy hB hq hl hm) (frz_sl rfl (redT_ok hB l hq).1)
theorem red_lt {n : Nat} {E : Nat → Nat → Int} (g : Gr n E) {q : Nat} {c : Nat → Int} (h : Red n E q c) {v : Nat} (hv : v < n) (hvq : v ≠ q) : 0 ≤ c v ∧ c v < n * 3 := by
  refine ⟨h.1 v hv hvq, ?_⟩
  obtain ⟨w, hw, hs, hlt⟩ := h.2 (fun u => u == v) (by simp; omega) ⟨v, hv, by simp⟩
  have : w = v := by simpa using hs
  subst this
  have h1 : outE n E (fun u => u == w) w ≤ deg n E w := sumTo_mono fun j hj => by
    have := g.nn w j hw hj
    split <;> omega
  have := deg_le g hw
  omega
theorem redT_le {b : List (List Int)} (hB : IsB b) {l : List Int} {q : Nat} (hq : q < b.length) {M : Int} (hM : 0 ≤ M) (hl : ∀ v : Nat, v < b.length → v ≠ q → -M ≤ getI l (v : Int) ∧ getI l (v : Int) ≤ M) : ∀ v : Nat, v < b.length → -(100 * (M + 30)) ≤ getI (redT b l q) (v : Int) ∧ getI (redT b l q) (v : Int) ≤ 100 * (M + 30) := by
  have g := gr_of hB
  have hd := dist_dst hB hq
  have hn1 := hB.n1; have hn2 := hB.n2
  obtain ⟨h1, h2, h3⟩ := redT_ok hB l hq
  intro v hv
  have hs := script_le g hd (t := gf (redT b l q)) (B := M + 30) (by omega) h2 (fun w hw hwq => by
    have a := red_lt g h3 hw hwq
    have c := hl w hw hwq
    have e : gf l w = getI l (w : Int) := rfl
    unfold ap at a
    omega) b.length v hv (hd.le v hv)
  have e : (b.length : Int) * (b.length * (M + 30)) ≤ 10 * (10 * (M + 30)) := Int.mul_le_mul (by omega) (Int.mul_le_mul_of_nonneg_right (by omega) (by omega)) (Int.mul_nonneg (by omega) (by omega)) (by omega)
  have h4 : gf (redT b l q) v = getI (redT b l q) (v : Int) := rfl
  omega
theorem at_q {n : Nat} {E : Nat → Nat → Int} (g : Gr n E) {q : Nat} (hq : q < n) (hn : n ≤ 10) {l t : Nat → Int} {M : Int} (hM : 0 ≤ M) (hl : ∀ v, v < n → -M ≤ l v ∧ l v ≤ M) {P : Int} (hP : 0 ≤ P) (h : ∀ v, v < n → v ≠ q → -P ≤ ap n E l t v ∧ ap n E l t v ≤ P) : -(10 * M + 10 * P) ≤ ap n E l t q ∧ ap n E l t q ≤ 10 * M + 10 * P := by
  have hs := ap_sum g l t
  have ho := oth_eq hq (ap n E l t)
  have h1 := sumTo_le (f := fun i => if (i : Int) = (q : Int) then 0 else ap n E l t i) (M := P) (n := n) fun j hj => by
    try dsimp only
    split
    · omega
    · rename_i e; exact h j hj (fun e2 => e (by rw [e2]))
  have h2 := sumTo_le (f := l) (M := M) (n := n) hl
  have h3 : (n : Int) * P ≤ 10 * P := Int.mul_le_mul_of_nonneg_right (by omega) hP
  have h4 : (n : Int) * M ≤ 10 * M := Int.mul_le_mul_of_nonneg_right (by omega) hM
  have h5 : oth n q (ap n E l t) = sumTo (fun i => if (i : Int) = (q : Int) then 0 else ap n E l t i) n := rfl
  omega
def halfL (l : List Int) : List Int := l.map fun a => a.tdiv 2
theorem halfL_len (l : List Int) : (halfL l).length = l.length := by simp [halfL]
theorem halfL_get {l : List Int} {v : Nat} (h : v < l.length) : getI (halfL l) (v : Int) = (getI l (v : Int)).tdiv 2 := by
  rw [getI_nat, getI_nat]
  simp [halfL, List.getD, h]
theorem tdiv2 (a : Int) : (0 ≤ a ∧ 0 ≤ a.tdiv 2 ∧ 2 * a.tdiv 2 ≤ a ∧ a ≤ 2 * a.tdiv 2 + 1) ∨ (a ≤ 0 ∧ a.tdiv 2 ≤ 0 ∧ a ≤ 2 * a.tdiv 2 ∧ 2 * a.tdiv 2 - 1 ≤ a) := by
  rcases Int.le_total 0 a with h | h
  · left
    rw [Int.tdiv_eq_ediv_of_nonneg h]
    omega
  · right
    have : a.tdiv 2 = -((-a).tdiv 2) := by rw [Int.neg_tdiv]; omega
    rw [this, Int.tdiv_eq_ediv_of_nonneg (by omega)]
    omega
theorem p_quo2 {H : Heap} {a : Int} (h : -4611686018427387904 ≤ a ∧ a ≤ 4611686018427387904) : evP H (.bin .quo) [.int .i64 a, .int .i64 2] = some (.int .i64 (a.tdiv 2)) := by
  have h2 := tdiv2 a
  simp only [evP, binV, isShift, binInt]
  rw [if_neg (show ¬ (2 : Int) = 0 by decide), show IntKind.i64.wrap (a.tdiv 2) = a.tdiv 2 from wrapI (by omega)]
  rfl
theorem list_zero {l : List Int} {n : Nat} (hl : l.length = n) (h : ∀ v : Nat, v < n → getI l (v : Int) = 0) : l = List.replicate n 0 := ext_getI (by simpa using hl) fun i hi => by
  rw [h i (by omega), getI_nat]; simp [List.getD, show i < n by omega]
theorem near_half {b : List (List Int)} (hB : IsB b) {l s Z : List Int} {q : Nat} (hq : q < b.length) (hln : l.length = b.length) (hb : ∀ v : Nat, v < b.length → -1099511627776 ≤ getI l (v : Int) ∧ getI l (v : Int) ≤ 1099511627776) (hs : s = redT b (halfL l) q) (hZl : Z.length = b.length) (hZ : ∀ v : Nat, v < b.length → getI Z (v : Int) = 2 * getI s (v : Int)) : Near b.length q (apl b l Z) := by
  have g := gr_of hB
  have hn1 := hB.n1; have hn2 := hB.n2
  obtain ⟨h1, h2, h3⟩ := redT_ok hB (halfL l) hq
  rw [← hs] at h1 h2 h3
  have hap : ∀ v : Nat, v < b.length → getI (apl b l Z) (v : Int) = getI l (v : Int) - 2 * (getI l (v : Int)).tdiv 2 + 2 * ap b.length (ed b) (gf (halfL l)) (gf s) v := fun v hv => by
    rw [apl_ap hB l Z hv]
    have e : net b.length (ed b) (gf Z) v = 2 * net b.length (ed b) (gf s) v := by
      rw [← net_mul]
      exact net_congr hv fun j hj => hZ j hj
    have e2 : gf (halfL l) v = (getI l (v : Int)).tdiv 2 := halfL_get (by omega)
    have e3 : gf l v = getI l (v : Int) := rfl
    unfold ap
    rw [e, e2, e3]
    omega
  have hoth : ∀ v : Nat, v < b.length → v ≠ q → -1 ≤ getI (apl b l Z) (v : Int) ∧ getI (apl b l Z) (v : Int) ≤ 60 := fun v hv hvq => by
    have a := red_lt g h3 hv hvq
    have c := tdiv2 (getI l (v : Int))
    rw [hap v hv]
    omega
  refine ⟨apl_len b l Z, fun v hv hvq => by have := hoth v hv hvq; omega, ?_⟩
  have := at_q g hq hn2 (l := gf l) (t := gf Z) (M := 1099511627776) (by omega) (fun v hv => hb v hv) (P := 60) (by omega) fun v hv hvq => by
    rw [← apl_ap hB l Z hv]
    have := hoth v hv hvq
    omega
  rw [apl_ap hB l Z hq]
  omega
theorem redT_pl {b : List (List Int)} (hB : IsB b) {l Z : List Int} {q : Nat} (hq : q < b.length) (hZl : Z.length = b.length) (hZq : getI Z (q : Int) = 0) : pl Z (redT b (apl b l Z) q) = redT b l q := by
  obtain ⟨h1, h2, h3⟩ := redT_ok hB (apl b l Z) hq
  refine redT_eq hB hq (by rw [pl_len]; exact hZl) ?_ ?_
  · have := pl_get (a := Z) (c := redT b (apl b l Z) q) (i := q) (by omega)
    unfold gf at h2 ⊢
    omega
  · refine h3.congr fun v hv => ?_
    rw [← apl_ap hB _ _ hv, apl_pl hB hZl, apl_ap hB _ _ hv]
end Go.AM.Ch
