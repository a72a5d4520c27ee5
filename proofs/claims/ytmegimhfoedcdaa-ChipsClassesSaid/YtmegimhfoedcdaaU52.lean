/- A part of the proof: E10 E11 E12 U30 U51 U52. -/
import Derived.Test.YtmegimhfoedcdaaU63
import Derived.Test.YtmegimhfoedcdaaM3
import Derived.Test.YtmegimhfoedcdaaU17
import Derived.Test.YtmegimhfoedcdaaU39
set_option linter.unusedVariables false
set_option linter.unusedSimpArgs false
set_option linter.unusedSectionVars false
namespace Go.AM.Ch
set_option maxHeartbeats 8000000
theorem eqCells_iL : ∀ (n : Nat) (a c : List Int), a.length = n → c.length = n → eqCells (List.replicate n (some .i64)) (iL a) (iL c) = some (decide (a = c))
  | 0, [], [], _, _ => rfl
  | 0, _ :: _, _, h, _ => by simp at h
  | 0, _, _ :: _, _, h => by simp at h
  | n + 1, [], _, h, _ => by simp at h
  | n + 1, _, [], _, h => by simp at h
  | n + 1, x :: a, y :: c, ha, hc => by
    have ih := eqCells_iL n a c (by simpa using ha) (by simpa using hc)
    show eqCells (some .i64 :: List.replicate n (some .i64)) (.int .i64 x :: iL a) (.int .i64 y :: iL c) = _
    simp only [eqCells, and_self, if_true, ih]
    by_cases e : x = y
    · subst e; simp
    · simp [e]
def zz : List Int := List.replicate 10 0
theorem zz_len : zz.length = 10 := by simp [zz]
def z10 (l : List Int) : List Int := l ++ List.replicate (10 - l.length) 0
theorem z10_len {l : List Int} (h : l.length ≤ 10) : (z10 l).length = 10 := by simp [z10]; omega
theorem z10_iff {l : List Int} (h : l.length ≤ 10) : z10 l = zz ↔ ∀ v ∈ l, v = 0 := by
  constructor
  · intro e v hv
    have : v ∈ z10 l := by unfold z10; exact List.mem_append_left _ hv
    rw [e] at this
    unfold zz at this
    exact (List.mem_replicate.1 this).2
  · intro h2
    unfold zz
    rw [List.eq_replicate_iff]
    refine ⟨z10_len h, fun v hv => ?_⟩
    unfold z10 at hv
    rcases List.mem_append.1 hv with hv | hv
    · exact h2 v hv
    · exact (List.mem_replicate.1 hv).2
theorem e_cpyZ {call : CallF} {x : AV} {l : List Int} (hx : IsL x l) (hl : l.length ≤ 10) : evE call [some (.data (iL zz))] (.cpy 1) [.sl 0 1 0 10, x] = some (.int .i64 (l.length : Int), [some (.data (iL (z10 l)))]) := by
  have hz : (iL zz).length = 10 := by rw [iL_len]; exact zz_len
  have hll := iL_len l
  cases hx with
  | nil => rfl
  | rd l =>
    have hm : min l.length 10 = l.length := by omega
    have e : putRow (iL zz) 0 (iL l) = iL (z10 l) := by
      have e2 : (iL zz).drop l.length = iL (List.replicate (10 - l.length) 0) := by unfold iL zz; rw [← List.map_drop, List.drop_replicate]
      unfold putRow z10
      rw [List.take_zero, List.nil_append, Nat.zero_add, hll, e2]
      simp only [iL, List.map_append]
    have h2 : (0 : Nat) + l.length ≤ (iL zz).length := by omega
    have h3 : min (List.length l) 10 = l.length := by omega
    have h5 : (iL l).take l.length = iL l := List.take_of_length_le (by omega)
    have h6 : (iL zz).length = 10 := hz
    have h7 : min (l.length : Int) 10 = l.length := by omega
    simp [evE, szOk, lenOf, rowOf, h3, h6, h7, hl, h5, e]
theorem f92 {x : AV} {l : List Int} (hx : IsL x l) (hl : l.length ≤ 10) {m : Nat} (hm : 2 ≤ m) : evF tab it m 92 [x] [] = some (.bool (decide (∀ v ∈ l, v = 0)), []) := by
  obtain ⟨m, rfl⟩ : ∃ j, m = j + 1 := ⟨m - 1, by omega⟩
  have al : ∀ call, evE call [] (.alloc true [.int .i64 0, .int .i64 0, .int .i64 0, .int .i64 0, .int .i64 0, .int .i64 0, .int .i64 0, .int .i64 0, .int .i64 0, .int .i64 0]) [] = some (.ptr 0 0, [some (.data (iL zz))]) := fun call => rfl
  have sp : evP [some (.data (iL zz))] (.slcP 10 1 false false) [.ptr 0 0] = some (.sl 0 1 0 10) := rfl
  have cp := fun call => e_cpyZ (call := call) hx hl
  have hz := z10_len hl
  have hi := z10_iff hl
  have ld : evP [some (.data (iL (z10 l)))] (.ld true 10) [.ptr 0 0] = some (.agg (iL (z10 l))) := by
    have hc : Heap.cells? [some (HO.data (iL (z10 l)))] 0 = some (iL (z10 l)) := rfl
    have h5 : 0 + 10 ≤ (iL (z10 l)).length := by rw [iL_len, hz]; omega
    have h6 : (iL (z10 l)).take 10 = iL (z10 l) := List.take_of_length_le (by rw [iL_len, hz]; omega)
    simp [evP, ldc, getRow, hc, iL_len, hz, h6, wholeOf]
  have bl : ∀ H, evP H (.bld [.int .i64 0, .int .i64 0, .int .i64 0, .int .i64 0, .int .i64 0, .int .i64 0, .int .i64 0, .int .i64 0, .int .i64 0, .int .i64 0] []) [] = some (.agg (iL zz)) := fun H => rfl
  have eqa : ∀ H, evP H (.eqagg false [some .i64, some .i64, some .i64, some .i64, some .i64, some .i64, some .i64, some .i64, some .i64, some .i64]) [.agg (iL (z10 l)), .agg (iL zz)] = some (.bool (decide (∀ v ∈ l, v = 0))) := fun H => by
    have h1 := eqCells_iL 10 (z10 l) zz hz zz_len
    have h2 : ([some .i64, some .i64, some .i64, some .i64, some .i64, some .i64, some .i64, some .i64, some .i64, some .i64] : List (Option IntKind)) = List.replicate 10 (some .i64) := rfl
    have h3 : (iL (z10 l)).length = 10 := by rw [iL_len, hz]
    rw [h2]
    simp only [evP, h1, Option.map_some, negIf, List.length_replicate, h3, if_true, Bool.false_eq_true, if_false]
    simp [hi]
  generalize decide (∀ v ∈ l, v = 0) = R at *
  generalize z10 l = Z at *
  refine f_enter rfl rfl ?_
  generalize evF tab it m = call at *
  repeat' first
 | (apply s_mov; exact aW)
 | (apply c_nil)
 | (apply s_en; exact aO; exact al _)
 | (apply s_pn; exact aO; exact sp)
 | (apply s_en; exact aO; exact cp _)
 | (apply s_pn; exact aO; exact ld)
 | (apply s_pn; exact aO; exact bl _)
 | (apply s_pn; exact aO; exact eqa _)
 | (apply c_seq)
 | (apply c_reg)
 | (apply c_ret)
 | (with_reducible apply k_c)
  exact fin_t (by (conv => lhs; whnf)) (by rfl) rfl
theorem c92 {x : AV} {l : List Int} (hx : IsL x l) (hl : l.length ≤ 10) {m : Nat} (hm : 2 ≤ m) (H : Heap) : callPure (evF tab it m) true 92 [x] H = some (.bool (decide (∀ v ∈ l, v = 0)), H) :=
  callPure_free (by simp [idFreeL, hx.free]) (by simp) (f92 hx hl hm) rfl
attribute [local go_sem] gc subHeap reach_skip ren_free reach_new reach_newp reach_end rangeL roots boxCells nodupB posOf renL AV.ren pickO renH renO looks look bindEnv envOf reach_int reach_bool reach_nilS reach_rd putRow cells_sl cells_int cells_bool cells_nilS cells_rd cells_agg reach_agg reach_tup idFreeL idf_sl idf_ptr idf_int idf_bool idf_nilS idf_rd reach_fn reach_mp cells_fn cells_ptr cells_mp idf_mp idf_fn idf_agg idf_tup
set_option maxHeartbeats 8000000
theorem c77f {args : List AV} {x y : AV} {a c : List Int} (hx : IsL x a) (hy : IsL y c) (h0 : 1 ≤ a.length) (hl : a.length ≤ 12) (hac : c.length = a.length)
    (hb : ∀ v : Nat, v < a.length → -288230376151711744 ≤ getI a (v : Int) ∧ getI a (v : Int) ≤ 288230376151711744) (hc : ∀ v : Nat, v < a.length → -288230376151711744 ≤ getI c (v : Int) ∧ getI c (v : Int) ≤ 288230376151711744)
    {m : Nat} (hm : 101 ≤ m) (H : Heap) (ha : frzL H 40 args = some [x, y]) : callPure (evF tab it m) true 77 args H = some (.rd 1 a.length (iL (pl a c)), H) :=
  callPure_own ha (f77 hx hy h0 hl hac hb hc hm) rfl (by simp [HO.hasRd, iL_noRd]) (frz_sl rfl (pl_len _ _))
theorem RZ.near {b : List (List Int)} (hB : IsB b) {a c : List Int} (ha : RZ b a) (hc : RZ b c) : Near b.length 0 (pl a c) := by
  obtain ⟨a1, a2, a3⟩ := ha.val hB
  obtain ⟨c1, c2, c3⟩ := hc.val hB
  have hal := ha.len
  have hn1 := hB.n1
  refine ⟨by rw [pl_len, hal], fun v hv h0 => ?_, ?_⟩
  · rw [pl_get (by omega)]
    have := a1 v hv h0
    have := c1 v hv h0
    omega
  · rw [pl_get (by omega)]
    omega
theorem RZ.pl_sum {b : List (List Int)} {a c : List Int} (ha : RZ b a) (hc : RZ b c) : sumTo (gf (pl a c)) b.length = 0 := by
  have e : sumTo (gf (pl a c)) b.length = sumTo (fun v => gf a v + gf c v) b.length := sumTo_congr fun v hv => pl_get (by rw [ha.len]; exact hv)
  rw [e, sumTo_add, ha.sum, hc.sum]
  rfl
theorem f111 {x y : AV} {b : List (List Int)} {l : List Int} (hx : IsLL x b) (hy : IsL y l) (hB : IsB b) (hl : Near b.length 0 l) {m : Nat} (hm : smK + 1 ≤ m) :
    evF tab it m 111 [x, y] [] = some (.rd 1 b.length (iL (redL b l 0)), []) := by
  obtain ⟨m, rfl⟩ : ∃ j, m = j + 1 := ⟨m - 1, by omega⟩
  have hK := smK_big
  have fx := hx.free; have fy := hy.free
  have hn1 := hB.n1
  have e81 := fun H => c81 (q := 0) hx hy hB hn1 hl (m := m) (by omega) H
  have hTl := (redT_ok hB l hn1).1
  have hT := redT_le hB hn1 (M := 100) (by omega) (l := l) fun v hv h0 => hl.oth v hv h0
  have hall := hl.all
  have e55 := fun H => c55 hx hy (rd_isL hTl) hB.bd hl.len hTl (fun v hv => by have := hT v hv; omega) (fun v hv => by have := hall v hv; omega) (m := m) (by omega) H
  rw [apl_len] at e55
  have er : apl b l (redT b l 0) = redL b l 0 := rfl
  rw [er] at e55
  refine f_enter rfl rfl ?_
  generalize evF tab it m = call at *
  repeat' first
 | (apply s_mov; exact aW)
 | (apply c_nil)
 | (apply s_cn; exact aO; exact e81 _)
 | (apply s_cn; exact aO; exact e55 _)
 | (apply c_seq)
 | (apply c_reg)
 | (apply c_ret)
 | (with_reducible apply k_c)
  exact fin_t (by (conv => lhs; whnf)) (by rfl) rfl
theorem c111 {x y : AV} {b : List (List Int)} {l : List Int} (hx : IsLL x b) (hy : IsL y l) (hB : IsB b) (hl : Near b.length 0 l) {m : Nat} (hm : smK + 1 ≤ m) (H : Heap) :
    callPure (evF tab it m) true 111 [x, y] H = some (.rd 1 b.length (iL (redL b l 0)), H) :=
  callPure_free (by simp [idFreeL, AV.idFree, hx.free, hy.free]) (by simp) (f111 hx hy hB hl hm) rfl
def zer (n : Nat) : List Int := List.replicate n 0
theorem zer_get (n v : Nat) : gf (zer n) v = 0 := by
  show getI (zer n) (v : Int) = 0
  rw [getI_nat]
  unfold zer
  by_cases h : v < n
  · simp [List.getD, h]
  · simp [List.getD, h]
theorem rz_zer {b : List (List Int)} (hB : IsB b) : RZ b (zer b.length) := by
  have e : gf (zer b.length) = fun _ => 0 := funext fun v => zer_get _ v
  refine ⟨by simp [zer], by rw [e]; exact red_zero hB, by rw [e]; exact sumTo_zero _⟩
structure Tm (b : List (List Int)) (l0 : List Int) (k0 : Nat) (l : List Int) (k : Nat) (out : List Int) : Prop where
  rl : RZ b l
  ro : RZ b out
  e : Eq0 b (fun v => (k0 : Int) * gf l0 v - (gf out v + (k : Int) * gf l v))
theorem Tm.step {b : List (List Int)} (hB : IsB b) {l0 l out : List Int} {k0 k : Nat} (h : Tm b l0 k0 l k out) : Tm b l0 k0 (redL b (pl l l) 0) (k / 2) (if k % 2 = 1 then redL b (pl out l) 0 else out) := by
  have e1 := redL_eq0 hB (pl l l)
  have e2 := redL_eq0 hB (pl out l)
  have hl := h.rl.len
  have ho := h.ro.len
  refine ⟨rz_of hB (h.rl.pl_sum h.rl), ?_, ?_⟩
  · split
    · exact rz_of hB (h.ro.pl_sum h.rl)
    · exact h.ro
  · by_cases hk : k % 2 = 1
    · rw [if_pos hk]
      refine ((h.e.add e2).add (e1.mul ((k / 2 : Nat) : Int))).congr fun v hv => ?_
      have g1 : gf (pl l l) v = gf l v + gf l v := pl_get (by omega)
      have g2 : gf (pl out l) v = gf out v + gf l v := pl_get (by omega)
      rw [g1, g2]
      have ek : (k : Int) = 2 * ((k / 2 : Nat) : Int) + 1 := by omega
      rw [ek]
      generalize ((k / 2 : Nat) : Int) = j
      generalize gf l v = a
      generalize gf (redL b (pl l l) 0) v = c
      rw [Int.mul_sub, Int.mul_add, Int.add_mul, Int.mul_assoc 2 j a]
      omega
    · rw [if_neg hk]
      refine (h.e.add (e1.mul ((k / 2 : Nat) : Int))).congr fun v hv => ?_
      have g1 : gf (pl l l) v = gf l v + gf l v := pl_get (by omega)
      rw [g1]
      have ek : (k : Int) = 2 * ((k / 2 : Nat) : Int) := by omega
      rw [ek]
      generalize ((k / 2 : Nat) : Int) = j
      generalize gf l v = a
      generalize gf (redL b (pl l l) 0) v = c
      rw [Int.mul_sub, Int.mul_add, Int.mul_assoc 2 j a]
      omega
theorem Tm.init {b : List (List Int)} (hB : IsB b) {l : List Int} (h : RZ b l) (k : Nat) : Tm b l k l k (zer b.length) := ⟨h, rz_zer hB, (Eq0.zero b).congr fun v _ => by rw [zer_get]; omega⟩
theorem Tm.fin {b : List (List Int)} {l0 l out : List Int} {k0 : Nat} (h : Tm b l0 k0 l 0 out) : Eq0 b (gf out) ↔ Eq0 b (fun v => (k0 : Int) * gf l0 v) := by
  have he := h.e
  constructor
  · intro h2
    refine (he.add h2).congr fun v _ => ?_
    omega
  · intro h2
    refine (h2.sub he).congr fun v _ => ?_
    omega
theorem RZ.zero_iff {b : List (List Int)} (hB : IsB b) {l : List Int} (h : RZ b l) : (∀ v ∈ l, v = 0) ↔ Eq0 b (gf l) := by
  have hl := h.len
  rw [← zer_iff hB l]
  have hr : ∀ v, v < b.length → gf (redL b l 0) v = gf l v := fun v hv => by
    refine (red_uniq (gr_of hB) hB.n1 h.red (t := gf (redT b l 0)) (redL_red hB l hB.n1) (fun v hv => ?_) v hv).1
    exact apl_ap hB _ _ hv
  constructor
  · intro h1 v hv
    rw [hr v hv]
    show getI l (v : Int) = 0
    rw [getI_nat]
    have hvl : v < l.length := by omega
    simp only [List.getD, List.getElem?_eq_getElem hvl, Option.getD_some]
    exact h1 _ (List.getElem_mem hvl)
  · intro h1 v hv
    obtain ⟨i, hi, rfl⟩ := List.mem_iff_getElem.1 hv
    have := h1 i (by omega)
    rw [hr i (by omega)] at this
    have e : gf l i = l[i] := by
      show getI l (i : Int) = _
      rw [getI_nat]; simp [List.getD, hi]
    rw [← e]; exact this
theorem f93 {x : AV} {b : List (List Int)} {l0 : List Int} {k0 : Nat} (hx : IsLL x b) (hB : IsB b) (h0 : RZ b l0) (hk1 : 1 ≤ k0) (hk2 : k0 < 2 ^ 47) {m : Nat} (hm : smK + 2 ≤ m) :
    ∃ out l, Tm b l0 k0 l 0 out ∧ evF tab it m 93 [x, .rd 1 b.length (iL l0), .int .i64 (k0 : Int)] [] = some (.rd 1 b.length (iL out), []) := by
  obtain ⟨m, rfl⟩ : ∃ j, m = j + 1 := ⟨m - 1, by omega⟩
  have hK := smK_big
  have fx := hx.free
  have hn1 := hB.n1; have hn2 := hB.n2
  have mk := fun call H => @e_mkI call H b.length (by unfold most; omega)
  let F : Nat → List Int × Nat × List Int := fun i => Nat.rec (l0, k0, zer b.length) (fun _ s => (redL b (pl s.1 s.1) 0, s.2.1 / 2, if s.2.1 % 2 = 1 then redL b (pl s.2.2 s.1) 0 else s.2.2)) i
  have hF : ∀ i, Tm b l0 k0 (F i).1 (F i).2.1 (F i).2.2 := fun i => by
    induction i with
    | zero => exact Tm.init hB h0 k0
    | succ i ih => exact Tm.step hB ih
  have hFk : ∀ i, (F i).2.1 = k0 / 2 ^ i := fun i => by
    induction i with
    | zero => show k0 = _; simp
    | succ i ih =>
      show (F i).2.1 / 2 = _
      rw [ih, Nat.div_div_eq_div_mul, Nat.pow_succ]
  have hex : ∃ i, i ≤ 47 ∧ (F i).2.1 = 0 ∧ ∀ j, j < i → (F j).2.1 ≠ 0 := by
    have h47 : (F 47).2.1 = 0 := by rw [hFk]; exact Nat.div_eq_of_lt hk2
    have : ∀ n, (F n).2.1 = 0 → ∃ i, i ≤ n ∧ (F i).2.1 = 0 ∧ ∀ j, j < i → (F j).2.1 ≠ 0 := fun n => by
      induction n with
      | zero => intro h; exact ⟨0, Nat.le_refl _, h, fun j hj => by omega⟩
      | succ n ih =>
        intro h
        by_cases hn : (F n).2.1 = 0
        · obtain ⟨i, a, c, d⟩ := ih hn
          exact ⟨i, by omega, c, d⟩
        · refine ⟨n + 1, Nat.le_refl _, h, fun j hj h2 => hn ?_⟩
          rw [hFk] at h2 ⊢
          rw [Nat.div_eq_zero_iff] at h2 ⊢
          rcases h2 with h2 | h2
          · exact absurd h2 (by have := Nat.two_pow_pos j; omega)
          · right
            exact Nat.lt_of_lt_of_le h2 (Nat.pow_le_pow_right (by omega) (by omega))
    exact this 47 h47
  obtain ⟨I, hI, hI0, hIn⟩ := hex
  have hfresh : ∀ i, i ≤ I → (∀ j, j < i → (F j).2.1 % 2 ≠ 1) → (F i).2.2 = zer b.length ∧ (F i).2.1 ≠ 0 := fun i => by
    induction i with
    | zero => intro _ _; exact ⟨rfl, by show k0 ≠ 0; omega⟩
    | succ i ih =>
      intro hi h
      obtain ⟨a, c⟩ := ih (by omega) fun j hj => h j (by omega)
      have h2 := h i (by omega)
      constructor
      · show (if (F i).2.1 % 2 = 1 then _ else (F i).2.2) = _
        rw [if_neg h2]; exact a
      · show (F i).2.1 / 2 ≠ 0
        omega
  refine ⟨(F I).2.2, (F I).1, by have := hF I; rwa [hI0] at this, ?_⟩
  have e77 := fun (i : Nat) (args : List AV) (H : Heap) (y : AV) (a : List Int) (hy : IsL y a) (ha : RZ b a) (hz : frzL H 40 args = some [y, .rd 1 b.length (iL (F i).1)]) => c77f (m := m) hy (rd_isL (hF i).rl.len) (by rw [ha.len]; exact hn1) (by rw [ha.len]; omega) (by rw [(hF i).rl.len, ha.len]) (fun v hv => by
    obtain ⟨a1, a2, a3⟩ := ha.val hB
    rw [ha.len] at hv
    rcases Nat.eq_zero_or_pos v with e | e
    · subst e; omega
    · have := a1 v hv (by omega); omega) (fun v hv => by
    obtain ⟨a1, a2, a3⟩ := (hF i).rl.val hB
    rw [ha.len] at hv
    rcases Nat.eq_zero_or_pos v with e | e
    · subst e; omega
    · have := a1 v hv (by omega); omega) (by omega) H hz
  have e111 := fun (i : Nat) (a : List Int) (ha : RZ b a) H => c111 hx (rd_isL (n := b.length) (show (pl a (F i).1).length = b.length by rw [pl_len, ha.len])) hB (ha.near hB (hF i).rl) (m := m) (by omega) H
  refine f_enter rfl rfl ?_
  generalize evF tab it m = call at *
  have hzl : List.replicate b.length (0 : Int) = zer b.length := rfl
  repeat' first
 | (apply s_mov; exact aW)
 | (apply c_nil)
 | (apply s_en; exact aO; exact mk _ _)
 | (apply s_lenRd; exact rfl)
 | (apply c_seq)
 | (apply c_reg)
 | (apply c_block)
 | (with_reducible apply k_c)
  refine c_loop ?_
  refine loop_gc (σ := Nat × Bool) (fun s => [x, .rd 1 b.length (iL (F s.1).1), .int .i64 (((F s.1).2.1 : Nat) : Int), if s.2 = true then .sl 0 1 0 b.length else .rd 1 b.length (iL (F s.1).2.2)]) (fun s => if s.2 = true then [some (.data (iL (zer b.length)))] else []) (fun s => s.1 ≤ I ∧ (s.2 = true → ∀ j, j < s.1 → (F j).2.1 % 2 ≠ 1)) (fun s => I - s.1) ?_ _ (0, true) _ _ ⟨by dsimp only; omega, fun _ j hj => by dsimp only at hj; omega⟩ (by show I - 0 < _; omega) (by
    simp only [if_true]
    show _ = some ([x, .rd 1 b.length (iL l0), .int .i64 (k0 : Int), .sl 0 1 0 b.length], [some (HO.data (iL (zer b.length)))])
    exact (by simp [go_sem, fx, zer]; done))
  intro ⟨i, fr⟩ ⟨hi, hfr⟩ K hKl
  dsimp only at hi hfr hKl ⊢
  have hk := hFk i
  have hkb : (F i).2.1 < 9223372036854775808 := by
    rw [hk]
    have := Nat.div_le_self k0 (2 ^ i)
    omega
  have hTi := hF i
  by_cases hiI : i < I
  · have hne := hIn i hiI
    have hK1 := fun fr => hKl (i + 1, fr)
    dsimp only at hK1
    have n1 : (F (i + 1)).1 = redL b (pl (F i).1 (F i).1) 0 := rfl
    have n2 : (F (i + 1)).2.1 = (F i).2.1 / 2 := rfl
    have n3 : (F (i + 1)).2.2 = if (F i).2.1 % 2 = 1 then redL b (pl (F i).2.2 (F i).1) 0 else (F i).2.2 := rfl
    rw [n1, n2, n3] at hK1
    have e77l := fun H => e77 i [.rd 1 b.length (iL (F i).1), .rd 1 b.length (iL (F i).1)] H _ _ (rd_isL hTi.rl.len) hTi.rl (by simp [frzL, frzV])
    have e111l := fun H => e111 i _ hTi.rl H
    have e111o := fun H => e111 i _ hTi.ro H
    have e77o := fun H => e77 i [.rd 1 b.length (iL (F i).2.2), .rd 1 b.length (iL (F i).1)] H _ _ (rd_isL hTi.ro.len) hTi.ro (by simp [frzL, frzV])
    have e77z := fun (hz : (F i).2.2 = zer b.length) => e77 i [.sl 0 1 0 b.length, .rd 1 b.length (iL (F i).1)] [some (.data (iL (zer b.length)))] _ _ (rd_isL hTi.ro.len) hTi.ro (by
      rw [hz]
      exact frzL_cons (frz_sl rfl (by simp [zer])) (frzL_cons rfl frzL_nil))
    rw [hTi.rl.len] at e77l
    rw [hTi.ro.len] at e77o e77z
    have hz := fun h : fr = true => (hfresh i (by omega) (hfr h)).1
    have hfr2 : fr = true → (F i).2.1 % 2 ≠ 1 → ∀ j, j < i + 1 → (F j).2.1 % 2 ≠ 1 := fun h1 h2 j hj => by
      rcases (by omega : j < i ∨ j = i) with h | h
      · exact hfr h1 j h
      · rw [h]; exact h2
    clear hF hFk hIn hfresh e77 e111 hKl n1 n2 n3 hk hTi h0 hI0 hfr
    generalize (F i).1 = L at *
    generalize (F i).2.1 = k at *
    generalize (F i).2.2 = O at *
    by_cases hodd : k % 2 = 1
    · simp only [if_pos hodd] at hK1
      cases fr with
      | true =>
        have e77z' := e77z (hz rfl)
        simp only [if_true]
        repeat' first
 | (apply s_mov; exact aW)
 | (apply c_nil)
 | (apply s_gtr; exact rfl; all_goals (intro _; try (exfalso; omega)))
 | (apply s_eql; exact rfl; all_goals (intro _; try (exfalso; omega)))
 | (apply s_cn; exact aO; exact e77z')
 | (apply s_cn; exact aO; exact e77l _)
 | (apply s_cn; exact aO; exact e111l _)
 | (apply s_cn; exact aO; exact e111o _)
 | (apply s_and1; exact rfl; omega)
 | (apply s_shr1; exact rfl)
 | (apply c_seq)
 | (apply c_reg)
 | (apply c_block)
 | (apply c_skip)
 | (apply c_condT; exact rfl)
 | (with_reducible apply k_c)
        all_goals first
          | (exfalso; omega)
          | (refine hK1 false _ _ ⟨by omega, fun h => by cases h⟩ (by omega) ?_
             exact gc_to rfl (by simp [idFreeL, AV.idFree, fx]))
      | false =>
        simp only [Bool.false_eq_true, if_false]
        repeat' first
 | (apply s_mov; exact aW)
 | (apply c_nil)
 | (apply s_gtr; exact rfl; all_goals (intro _; try (exfalso; omega)))
 | (apply s_eql; exact rfl; all_goals (intro _; try (exfalso; omega)))
 | (apply s_cn; exact aO; exact e77o _)
 | (apply s_cn; exact aO; exact e77l _)
 | (apply s_cn; exact aO; exact e111l _)
 | (apply s_cn; exact aO; exact e111o _)
 | (apply s_and1; exact rfl; omega)
 | (apply s_shr1; exact rfl)
 | (apply c_seq)
 | (apply c_reg)
 | (apply c_block)
 | (apply c_skip)
 | (apply c_condT; exact rfl)
 | (with_reducible apply k_c)
        all_goals first
          | (exfalso; omega)
          | (refine hK1 false _ _ ⟨by omega, fun h => by cases h⟩ (by omega) ?_
             exact gc_to rfl (by simp [idFreeL, AV.idFree, fx]))
    · simp only [if_neg hodd] at hK1
      cases fr with
      | true =>
        simp only [if_true]
        repeat' first
 | (apply s_mov; exact aW)
 | (apply c_nil)
 | (apply s_gtr; exact rfl; all_goals (intro _; try (exfalso; omega)))
 | (apply s_eql; exact rfl; all_goals (intro _; try (exfalso; omega)))
 | (apply s_cn; exact aO; exact e77l _)
 | (apply s_cn; exact aO; exact e111l _)
 | (apply s_and1; exact rfl; omega)
 | (apply s_shr1; exact rfl)
 | (apply c_seq)
 | (apply c_reg)
 | (apply c_block)
 | (apply c_skip)
 | (apply c_condT; exact rfl)
 | (apply c_condF; exact rfl)
 | (with_reducible apply k_c)
        all_goals first
          | (exfalso; omega)
          | (refine hK1 true _ _ ⟨by omega, fun _ => hfr2 rfl hodd⟩ (by omega) ?_
             simp only [if_true]
             exact (by simp [go_sem, fx]; done))
      | false =>
        simp only [Bool.false_eq_true, if_false]
        repeat' first
 | (apply s_mov; exact aW)
 | (apply c_nil)
 | (apply s_gtr; exact rfl; all_goals (intro _; try (exfalso; omega)))
 | (apply s_eql; exact rfl; all_goals (intro _; try (exfalso; omega)))
 | (apply s_cn; exact aO; exact e77l _)
 | (apply s_cn; exact aO; exact e111l _)
 | (apply s_and1; exact rfl; omega)
 | (apply s_shr1; exact rfl)
 | (apply c_seq)
 | (apply c_reg)
 | (apply c_block)
 | (apply c_skip)
 | (apply c_condT; exact rfl)
 | (apply c_condF; exact rfl)
 | (with_reducible apply k_c)
        all_goals first
          | (exfalso; omega)
          | (refine hK1 false _ _ ⟨by omega, fun h => by cases h⟩ (by omega) ?_
             exact gc_to rfl (by simp [idFreeL, AV.idFree, fx]))
  · obtain rfl : i = I := by omega
    have hff : fr = false := by
      cases fr with
      | false => rfl
      | true => exact absurd hI0 (hfresh i (Nat.le_refl _) (hfr rfl)).2
    subst hff
    simp only [Bool.false_eq_true, if_false]
    rw [hI0]
    clear hKl hFk hF hfresh e77 e111
    generalize (F i).2.2 = O at *
    generalize (F i).1 = L at *
    repeat' first
 | (apply s_mov; exact aW)
 | (apply c_nil)
 | (apply s_gtr; exact rfl; all_goals (intro _; try (exfalso; omega)))
 | (apply c_seq)
 | (apply c_reg)
 | (apply c_exitH)
 | (apply c_ret)
 | (apply c_condF; exact rfl)
 | (apply c_preF; exact aK; exact aF)
 | (with_reducible apply k_c)
    all_goals try (exfalso; omega)
    exact fin_t (by (conv => lhs; whnf)) (by rfl) rfl
set_option maxHeartbeats 8000000
theorem zero_of {x : AV} {b : List (List Int)} {l : List Int} {o : Nat} (hx : IsLL x b) (hB : IsB b) (hl : RZ b l) (ho : ∀ k : Int, Eq0 b (fun v => k * gf l v) ↔ (o : Int) ∣ k) {k : Nat} (hk1 : 1 ≤ k) (hk2 : k < 2 ^ 47) {m : Nat} (hm : smK + 2 ≤ m) :
    ∃ z : AV, (∀ H, callPure (evF tab it m) true 93 [x, .rd 1 b.length (iL l), .int .i64 (k : Int)] H = some (z, H)) ∧ ∀ H, callPure (evF tab it m) true 92 [z] H = some (.bool (decide (o ∣ k)), H) := by
  have hK := smK_big
  have hn2 := hB.n2
  obtain ⟨out, l', ht, hf⟩ := f93 (m := m) hx hB hl hk1 hk2 hm
  refine ⟨.rd 1 b.length (iL out), fun H => callPure_free (by simp [idFreeL, AV.idFree, hx.free]) (by simp) hf rfl, fun H => ?_⟩
  rw [c92 (rd_isL ht.ro.len) (by rw [ht.ro.len]; omega) (by omega) H]
  have e : (∀ v ∈ out, v = 0) ↔ o ∣ k := by
    rw [ht.ro.zero_iff hB, ht.fin, ho]
    exact Int.natCast_dvd_natCast
  simp only [e]
theorem L64 {m N : Nat} {K0 : KT} {X : Nat → KT} {Rt : KT} {res : R} {env : Env} {H : Heap} {x : AV} {b : List (List Int)} {l : List Int} {o n0 q rest0 : Nat}
    (hN : 100 ≤ N) (hm : smK + 2 ≤ m) (hx : IsLL x b) (hB : IsB b) (hl : RZ b l) (ho1 : 1 ≤ o) (ho : ∀ k : Int, Eq0 b (fun v => k * gf l v) ↔ (o : Int) ∣ k)
    (hP : Pd o n0 q rest0) (hq : q ≤ 101559956668416) (hn : 1 ≤ n0 ∧ n0 ≤ 101559956668416) (hr : rest0 ≤ 101559956668416)
    (h0 : gc 0 (looks env [0, 1, 2, 7, 8]) H = some ([x, .rd 1 b.length (iL l), .int .i64 (n0 : Int), .int .i64 (q : Int), .int .i64 (rest0 : Int)], []))
    (hK : ∀ n rest : Nat, Pd o n q rest → ¬ q ∣ rest → rest ∣ rest0 → (1 ≤ n ∧ n ≤ 101559956668416) → rest ≤ 101559956668416 → ∀ env' H', gc 0 (looks env' [0, 1, 2, 7, 8]) H' = some ([x, .rd 1 b.length (iL l), .int .i64 (n : Int), .int .i64 (q : Int), .int .i64 (rest : Int)], []) → K0 env' H' = res) :
    loopIt N (fun K => evC (evF tab it m) it N lb64_4 0 K (blkX 2 K0 X) Rt) env H = res := by
  have fx := hx.free
  refine loop_gc (σ := Nat × Nat × Nat) (fun s => [x, .rd 1 b.length (iL l), .int .i64 (s.1 : Int), .int .i64 (q : Int), .int .i64 (s.2.1 : Int)]) (fun s => []) (fun s => Pd o s.1 q s.2.1 ∧ s.2.1 ∣ rest0 ∧ (1 ≤ s.1 ∧ s.1 ≤ 101559956668416) ∧ s.2.1 ≤ 101559956668416 ∧ s.2.1 < 2 ^ s.2.2) (fun s => s.2.2) ?_ _ (n0, rest0, 47) _ _ ⟨hP, Nat.dvd_refl _, hn, hr, by show rest0 < 2 ^ 47; omega⟩ (by show 47 < _; omega) h0
  clear h0 hP hn hr
  intro ⟨n, rest, g⟩ ⟨hP, hd, hn, hr, hg⟩ K hKl
  dsimp only at hP hd hn hr hg hKl ⊢
  have q2 := hP.q2
  have r1 := hP.r1
  have hK1 := fun n rest => hKl (n, rest, g - 1)
  dsimp only at hK1
  have hK2 := hK n rest hP
  clear hKl hK
  by_cases hdv : rest % q = 0
  · have hdv' : q ∣ rest := Nat.dvd_of_mod_eq_zero hdv
    obtain ⟨d1, d2⟩ := hP.down ho1 hdv'
    have hg1 : 1 ≤ g := by
      rcases Nat.eq_zero_or_pos g with e | e
      · subst e; simp at hg; omega
      · exact e
    have hlt : rest / q < 2 ^ (g - 1) := by
      have h1 : rest / q ≤ rest / 2 := Nat.div_le_div_left q2 (by omega)
      have h2 : 2 ^ g = 2 * 2 ^ (g - 1) := by rw [← Nat.pow_succ']; congr 1; omega
      omega
    have hle : rest / q ≤ 101559956668416 := Nat.le_trans (Nat.div_le_self _ _) hr
    have hdd : rest / q ∣ rest0 := Nat.dvd_trans ⟨q, by rw [Nat.mul_comm]; exact (Nat.mul_div_cancel' hdv').symm⟩ hd
    have hnq : n / q ≤ 101559956668416 := Nat.le_trans (Nat.div_le_self _ _) hn.2
    by_cases hnv : n % q = 0
    · have hnv' : q ∣ n := Nat.dvd_of_mod_eq_zero hnv
      have hnq1 : 1 ≤ n / q := (Nat.one_le_div_iff (by omega)).2 (Nat.le_of_dvd (by omega) hnv')
      obtain ⟨z, e93, e92⟩ := zero_of hx hB hl ho hnq1 (by omega) (m := m) (by omega)
      by_cases hz : o ∣ n / q
      · rw [decide_eq_true hz] at e92
        have hPn := d1 hnv' hz
        have hK3 := hK1 (n / q) (rest / q)
        clear d1 d2 hK1 hK2 ho
        generalize evF tab it m = call at *
        repeat' first
 | (apply s_mov; exact aW)
 | (apply s_gT; exact rfl)
 | (apply c_nil)
 | (apply s_pickT; exact rfl; exact aW)
 | (apply s_eql; exact rfl; all_goals (intro _; try (exfalso; omega)))
 | (apply s_cn; exact aO; exact e93 _)
 | (apply s_cn; exact aO; exact e92 _)
 | (apply s_quoN; exact rfl; omega; omega)
 | (apply s_remN; exact rfl; omega)
 | (apply c_seq)
 | (apply c_reg)
 | (apply c_block)
 | (apply c_skip)
 | (apply c_condT; exact rfl)
 | (with_reducible apply k_c)
        all_goals first
          | (exfalso; omega)
          | (refine hK3 _ _ ⟨hPn, hdd, ⟨hnq1, hnq⟩, hle, hlt⟩ (by omega) ?_
             exact gc_to rfl (by simp [idFreeL, AV.idFree, fx]))
      · rw [decide_eq_false hz] at e92
        have hPn := d2 fun h => hz h.2
        have hK3 := hK1 n (rest / q)
        clear d1 d2 hK1 hK2 ho
        generalize evF tab it m = call at *
        repeat' first
 | (apply s_mov; exact aW)
 | (apply s_gT; exact rfl)
 | (apply c_nil)
 | (apply s_pickT; exact rfl; exact aW)
 | (apply s_eql; exact rfl; all_goals (intro _; try (exfalso; omega)))
 | (apply s_cn; exact aO; exact e93 _)
 | (apply s_cn; exact aO; exact e92 _)
 | (apply s_quoN; exact rfl; omega; omega)
 | (apply s_remN; exact rfl; omega)
 | (apply c_seq)
 | (apply c_reg)
 | (apply c_block)
 | (apply c_skip)
 | (apply c_condT; exact rfl)
 | (apply c_condF; exact rfl)
 | (with_reducible apply k_c)
        all_goals first
          | (exfalso; omega)
          | (refine hK3 _ _ ⟨hPn, hdd, hn, hle, hlt⟩ (by omega) ?_
             exact gc_to rfl (by simp [idFreeL, AV.idFree, fx]))
    · have hPn := d2 fun h => hnv (Nat.mod_eq_zero_of_dvd h.1)
      have hK3 := hK1 n (rest / q)
      clear d1 d2 hK1 hK2 ho
      generalize evF tab it m = call at *
      repeat' first
 | (apply s_mov; exact aW)
 | (apply s_gF; exact rfl)
 | (apply s_gFD; exact rfl)
 | (apply c_nil)
 | (apply s_pickF; exact rfl; exact aW)
 | (apply s_eql; exact rfl; all_goals (intro _; try (exfalso; omega)))
 | (apply s_quoN; exact rfl; omega; omega)
 | (apply s_remN; exact rfl; omega)
 | (apply c_seq)
 | (apply c_reg)
 | (apply c_block)
 | (apply c_skip)
 | (apply c_condT; exact rfl)
 | (apply c_condF; exact rfl)
 | (with_reducible apply k_c)
      all_goals first
        | (exfalso; omega)
        | (refine hK3 _ _ ⟨hPn, hdd, hn, hle, hlt⟩ (by omega) ?_
           exact gc_to rfl (by simp [idFreeL, AV.idFree, fx]))
  · have hK3 := hK2 (fun h => hdv (Nat.mod_eq_zero_of_dvd h)) hd hn hr
    clear hK1 hK2 ho
    generalize evF tab it m = call at *
    repeat' first
 | (apply s_mov; exact aW)
 | (apply c_nil)
 | (apply s_eql; exact rfl; all_goals (intro _; try (exfalso; omega)))
 | (apply s_remN; exact rfl; omega)
 | (apply c_seq)
 | (apply c_reg)
 | (apply c_exitH)
 | (apply c_condF; exact rfl)
 | (with_reducible apply k_c)
    all_goals first
      | (exfalso; omega)
      | (refine hK3 _ _ ?_
         exact gc_to rfl (by simp [idFreeL, AV.idFree, fx]))
theorem f64 {x : AV} {b : List (List Int)} {l : List Int} {o N : Nat} (hx : IsLL x b) (hB : IsB b) (hl : RZ b l) (ho1 : 1 ≤ o) (ho : ∀ k : Int, Eq0 b (fun v => k * gf l v) ↔ (o : Int) ∣ k)
    (hN : 1 ≤ N ∧ N ≤ 101559956668416) (hoN : o ∣ N) {m : Nat} (hm : smK + 3 ≤ m) (hm2 : 10100000 ≤ m) :
    evF tab it m 64 [x, .rd 1 b.length (iL l), .int .i64 (N : Int)] [] = some (.int .i64 (o : Int), []) := by
  obtain ⟨m, rfl⟩ : ∃ j, m = j + 1 := ⟨m - 1, by omega⟩
  have fx := hx.free
  have hL := fun (K0 : KT) (X : Nat → KT) (Rt : KT) (res : R) (env : Env) (H : Heap) (n q rest : Nat) => L64 (N := m) (m := m) (K0 := K0) (X := X) (Rt := Rt) (res := res) (env := env) (H := H) (n0 := n) (q := q) (rest0 := rest) (by omega) (by omega) hx hB hl ho1 ho
  have hP0 : Pd o N 2 N := by
    obtain ⟨t, ht⟩ := hoN
    exact ⟨⟨t, ht, ⟨o, by rw [ht, Nat.mul_comm]⟩⟩, hN.1, by omega, fun d h1 h2 => by omega⟩
  refine f_enter rfl rfl ?_
  generalize evF tab it m = call at *
  repeat' first
 | (apply s_mov; exact aW)
 | (apply c_nil)
 | (apply c_seq)
 | (apply c_reg)
 | (apply c_block)
 | (with_reducible apply k_c)
  refine c_loop ?_
  refine loop_gc (σ := Nat × Nat × Nat) (fun s => [x, .rd 1 b.length (iL l), .int .i64 (s.1 : Int), .int .i64 (s.2.1 : Int), .int .i64 (s.2.2 : Int)]) (fun s => []) (fun s => Pd o s.1 s.2.1 s.2.2 ∧ (1 ≤ s.1 ∧ s.1 ≤ 101559956668416) ∧ s.2.2 ≤ 101559956668416 ∧ (1 < s.2.2 → s.2.1 ≤ 10077697)) (fun s => if s.2.2 ≤ 1 then 0 else 10077700 - s.2.1) ?_ _ (N, 2, N) _ _ ⟨hP0, hN, hN.2, fun _ => by dsimp only; omega⟩ (by show (if N ≤ 1 then 0 else 10077700 - 2) < _; split <;> omega) (gc_to rfl (by simp [idFreeL, AV.idFree, fx]))
  clear hP0
  intro ⟨n, q, rest⟩ ⟨hP, hn, hr, hq⟩ K hKl
  dsimp only at hP hn hr hq hKl ⊢
  have q2 := hP.q2
  have r1 := hP.r1
  by_cases h1 : 1 < rest
  · have hq' := hq h1
    have hqq : q * q ≤ 101559976823809 := Nat.le_trans (Nat.mul_le_mul hq' hq') (by omega)
    have hK1 := fun n q rest => hKl (n, q, rest)
    dsimp only at hK1
    rw [if_neg (by omega)] at hK1
    clear hKl
    by_cases hj : rest < q * q
    · have hPj := hP.jump h1 hj
      have hLj := fun K0 X Rt res env H => hL K0 X Rt res env H n rest rest hPj hr hn hr
      clear hL
      repeat' first
 | (apply s_mov; exact aW)
 | (apply c_nil)
 | (apply s_gtr; exact rfl; all_goals (intro _; try (exfalso; omega)))
 | (apply s_mulN; exact rfl; omega)
 | (apply c_seq)
 | (apply c_reg)
 | (apply c_block)
 | (apply c_skip)
 | (apply c_condT; exact rfl)
 | (with_reducible apply k_c)
      all_goals try (exfalso; omega)
      refine c_loop ?_
      refine hLj _ _ _ _ _ _ (gc_to rfl (by simp [idFreeL, AV.idFree, fx])) ?_
      intro n' rest' hP' hnd hdd hn' hr' env' H' hgc
      have e1 : rest' = 1 := by
        have h2 := hP'.nd
        have h3 := Nat.le_of_dvd (by omega) hdd
        have h4 := hP'.r1
        apply Classical.byContradiction
        intro hne
        rcases Nat.lt_or_ge rest' rest with c | c
        · exact hPj.nd rest' (by omega) c hdd
        · have : rest' = rest := by omega
          exact hnd (this ▸ Nat.dvd_refl _)
      have hPn := hP'.next hnd
      refine k_c (c_pre hgc ?_)
      repeat' first
 | (apply s_mov; exact aW)
 | (apply c_nil)
 | (apply s_add; exact rfl; omega)
 | (apply c_reg)
      refine hK1 n' (rest + 1) rest' _ _ ⟨hPn, hn', hr', fun h => by omega⟩ (by rw [if_pos (by omega)]; omega) ?_
      exact gc_to rfl (by simp [idFreeL, AV.idFree, fx])
    · have hq3 : q ≤ 10077696 := by
        apply Classical.byContradiction
        intro hc
        have : q = 10077697 := by omega
        subst this
        omega
      have hLj := fun K0 X Rt res env H => hL K0 X Rt res env H n q rest hP (by omega) hn hr
      clear hL
      repeat' first
 | (apply s_mov; exact aW)
 | (apply c_nil)
 | (apply s_gtr; exact rfl; all_goals (intro _; try (exfalso; omega)))
 | (apply s_mulN; exact rfl; omega)
 | (apply c_seq)
 | (apply c_reg)
 | (apply c_block)
 | (apply c_skip)
 | (apply c_condT; exact rfl)
 | (apply c_condF; exact rfl)
 | (with_reducible apply k_c)
      all_goals try (exfalso; omega)
      refine c_loop ?_
      refine hLj _ _ _ _ _ _ (gc_to rfl (by simp [idFreeL, AV.idFree, fx])) ?_
      intro n' rest' hP' hnd hdd hn' hr' env' H' hgc
      have hPn := hP'.next hnd
      refine k_c (c_pre hgc ?_)
      repeat' first
 | (apply s_mov; exact aW)
 | (apply c_nil)
 | (apply s_add; exact rfl; omega)
 | (apply c_reg)
      refine hK1 n' (q + 1) rest' _ _ ⟨hPn, hn', hr', fun h => by omega⟩ (by split <;> omega) ?_
      exact gc_to rfl (by simp [idFreeL, AV.idFree, fx])
  · obtain rfl : rest = 1 := by omega
    have hno := hP.done
    subst hno
    clear hKl hL ho
    repeat' first
 | (apply s_mov; exact aW)
 | (apply c_nil)
 | (apply s_gtr; exact rfl; all_goals (intro _; try (exfalso; omega)))
 | (apply c_seq)
 | (apply c_reg)
 | (apply c_exitH)
 | (apply c_ret)
 | (apply c_condF; exact rfl)
 | (apply c_preF; exact aK; exact aF)
 | (with_reducible apply k_c)
    all_goals try (exfalso; omega)
    exact fin_t (by (conv => lhs; whnf)) (by rfl) rfl
set_option maxHeartbeats 8000000
theorem fzL_ne {l : List Int} {n : Nat} (h : l.length = n) (hn : 1 ≤ n) : fzL l = .rd 1 n (iL l) := by
  rcases l with _ | ⟨a, r⟩
  · simp at h; omega
  · subst h; simp [fzL]
theorem c35d {x : AV} {b : List (List Int)} (hx : IsLL x b) (hB : IsB b) {i : Nat} (hi : i < b.length) {m : Nat} (hm : 1020 ≤ m) (H : Heap) : callPure (evF tab it m) true 35 [x, .int .i64 (i : Int)] H = some (.int .i64 (deg b.length (ed b) i), H) := by
  rw [← deg_sumI hB.bd hi]
  have hn := hB.n2
  exact c35 hx hi (by rw [hB.bd.row i hi]; omega) (fun v hv => by have := row_all' hB.bd hi v hv; omega) hm H
where
  row_all' {b : List (List Int)} (hb : Bd b) {i : Nat} (hi : i < b.length) : ∀ v ∈ getLL b (i : Int), 0 ≤ v ∧ v ≤ 3 := fun v hv => by
    obtain ⟨k, hk, e⟩ := List.getElem_of_mem hv
    have := hb.val i k hi (by rw [← hb.row i hi]; exact hk)
    rw [getI_nat] at this
    simpa [List.getD, hk, e] using this
set_option maxHeartbeats 8000000
def modN (x : Int) (n : Nat) : Nat := (x % 18446744073709551616).toNat % n
theorem modN_lt (x : Int) {n : Nat} (h : 0 < n) : modN x n < n := Nat.mod_lt _ h
theorem wrapU {x : Int} : IntKind.u64.wrap x = x % 18446744073709551616 := by
  simp [IntKind.wrap, IntKind.signed, IntKind.bits]
theorem f49 {x : Int} {n : Nat} (hn : 0 < n) (hn2 : n < 9223372036854775808) {m : Nat} (hm : 1 ≤ m) : evF tab it m 49 [.int .i64 x, .int .i64 (n : Int)] [] = some (.int .i64 (modN x n : Nat), []) := by
  obtain ⟨m, rfl⟩ : ∃ j, m = j + 1 := ⟨m - 1, by omega⟩
  have c1 : ∀ H, evP H (.conv .u64) [.int .i64 x] = some (.int .u64 (((x % 18446744073709551616).toNat : Nat) : Int)) := fun H => by
    simp only [evP, wrapU]
    rw [Int.toNat_of_nonneg (Int.emod_nonneg _ (by decide))]
  have c2 : ∀ H, evP H (.conv .u64) [.int .i64 (n : Int)] = some (.int .u64 (n : Int)) := fun H => by
    simp only [evP, wrapU]
    rw [Int.emod_eq_of_lt (by omega) (by omega)]
  have c3 : ∀ H, evP H (.bin .rem) [.int .u64 (((x % 18446744073709551616).toNat : Nat) : Int), .int .u64 (n : Int)] = some (.int .u64 (modN x n : Nat)) := fun H => by
    simp only [evP, binV, isShift, binInt, Bool.false_eq_true, if_false, if_true]
    rw [if_neg (by omega)]
    rfl
  have hlt : modN x n < n := Nat.mod_lt _ hn
  have c4 : ∀ H, evP H (.conv .i64) [.int .u64 (modN x n : Nat)] = some (.int .i64 (modN x n : Nat)) := fun H => by
    simp only [evP]
    rw [wrapI (by omega)]
  refine f_enter rfl rfl ?_
  repeat' first
 | (apply s_mov; exact aW)
 | (apply c_nil)
 | (apply s_pn; exact aO; exact c1 _)
 | (apply s_pn; exact aO; exact c2 _)
 | (apply s_pn; exact aO; exact c3 _)
 | (apply s_pn; exact aO; exact c4 _)
 | (apply c_seq)
 | (apply c_reg)
 | (apply c_ret)
 | (with_reducible apply k_c)
  exact fin_t (by (conv => lhs; whnf)) (by rfl) rfl
theorem c49 {x : Int} {n : Nat} (hn : 0 < n) (hn2 : n < 9223372036854775808) {m : Nat} (hm : 1 ≤ m) (H : Heap) : callPure (evF tab it m) true 49 [.int .i64 x, .int .i64 (n : Int)] H = some (.int .i64 (modN x n : Nat), H) :=
  callPure_free rfl (by simp) (f49 hn hn2 hm) rfl
def stN (x : Int) (w : Nat) : Int := if x < -(w : Int) ∨ x > w then (modN x (2 * w + 1) : Nat) - (w : Int) else x
theorem stN_le (x : Int) (w : Nat) : -(w : Int) ≤ stN x w ∧ stN x w ≤ w := by
  have := modN_lt x (n := 2 * w + 1) (by omega)
  unfold stN
  split <;> omega
def stX (l : List Int) (i : Nat) : Int := if i < l.length then getI l (i : Int) else 0
def stL (n : Nat) (l : List Int) (w : Nat) : List Int := (List.range n).map fun i => stN (stX l i) w
theorem stL_len (n : Nat) (l : List Int) (w : Nat) : (stL n l w).length = n := by simp [stL]
theorem stL_get {n : Nat} {l : List Int} {w i : Nat} (h : i < n) : getI (stL n l w) (i : Int) = stN (stX l i) w := by
  rw [getI_nat]; simp [stL, List.getD, h]
theorem f36 {x y : AV} {b : List (List Int)} {l : List Int} {w : Nat} (hx : IsLL x b) (hy : IsL y l) (h0 : 1 ≤ b.length) (hb : b.length ≤ 12) (hw : w ≤ 1048576) {m : Nat} (hm : 100 ≤ m) :
    evF tab it m 36 [x, y, .int .i64 (w : Int)] [] = some (ownV 0 (iL (stL b.length l w)), owH (iL (stL b.length l w))) := by
  obtain ⟨m, rfl⟩ : ∃ j, m = j + 1 := ⟨m - 1, by omega⟩
  have fx := hx.free; have fy := hy.free
  have lx : ∀ H, evP H .len [x] = some (.int .i64 ((b.length : Nat) : Int)) := fun H => by cases hx <;> rfl
  have ly : ∀ H, evP H .len [y] = some (.int .i64 ((l.length : Nat) : Int)) := fun H => p_lenI hy
  have hRl := stL_len b.length l w
  have hRg := fun (i : Nat) (h : i < b.length) => stL_get (l := l) (w := w) h
  have e49 := fun (z : Int) H => c49 (x := z) (n := 2 * w + 1) (by omega) (by omega) (m := m) (by omega) H
  rw [show ((2 * w + 1 : Nat) : Int) = 2 * (w : Int) + 1 by omega] at e49
  have mu := fun H => p_mul2 (H := H) (a := (w : Int)) (by omega)
  have ngw := fun H => p_negI (H := H) (a := (w : Int)) (by omega)
  generalize stL b.length l w = R at *
  refine f_enter rfl rfl ?_
  generalize evF tab it m = call at *
  have own_gc : ∀ (i : Nat) (L : List AV), gc 0 [x, y, .int .i64 (w : Int), ownV 0 L, .int .i64 (i : Int)] (owH L) = some ([x, y, .int .i64 (w : Int), ownV 0 L, .int .i64 (i : Int)], owH L) := fun i L => by
    cases L <;> simp [ownV, owH, go_sem, fx, fy]
  repeat' first
 | (apply s_mov; exact aW)
 | (apply c_nil)
 | (apply c_seq)
 | (apply c_reg)
 | (apply c_block)
 | (with_reducible apply k_c)
  refine c_loop ?_
  refine loop_gc (σ := Nat) (fun i => [x, y, .int .i64 (w : Int), ownV 0 (iL (R.take i)), .int .i64 (i : Int)]) (fun i => owH (iL (R.take i))) (fun i => i ≤ b.length) (fun i => b.length - i) ?_ _ 0 _ _ (by omega) (by omega) (own_gc 0 [])
  intro i hi K hK
  by_cases hin : i < b.length
  · have h3 := hRg i hin
    have hstep : R.take (i + 1) = R.take i ++ [stN (stX l i) w] := by
      rw [← List.take_append_getElem (by omega : i < R.length)]
      congr 1
      rw [getI_nat] at h3
      simpa [List.getD, show i < R.length by omega] using h3
    have hK1 := hK (i + 1)
    rw [hstep] at hK1
    have e1 : ∀ z : Int, iL (R.take i ++ [z]) = iL (R.take i) ++ [.int .i64 z] := fun z => by simp [iL]
    rw [e1] at hK1
    have hAl : (iL (R.take i)).length ≤ 12 := by rw [iL_len]; simp; omega
    generalize iL (R.take i) = A at *
    have hX : (i < l.length ∧ stX l i = getI l (i : Int)) ∨ (¬ i < l.length ∧ stX l i = 0) := by
      unfold stX
      by_cases h : i < l.length
      · left; exact ⟨h, if_pos h⟩
      · right; exact ⟨h, if_neg h⟩
    have hN : ((stX l i < -(w : Int) ∨ stX l i > w) ∧ stN (stX l i) w = (modN (stX l i) (2 * w + 1) : Nat) - (w : Int)) ∨ (¬ (stX l i < -(w : Int) ∨ stX l i > w) ∧ stN (stX l i) w = stX l i) := by
      unfold stN
      by_cases h : stX l i < -(w : Int) ∨ stX l i > w
      · left; exact ⟨h, if_pos h⟩
      · right; exact ⟨h, if_neg h⟩
    have e49' := e49 (stX l i)
    have hmod := modN_lt (stX l i) (n := 2 * w + 1) (by omega)
    generalize stN (stX l i) w = Q at *
    generalize stX l i = X at *
    rcases hX with ⟨hx1, rfl⟩ | ⟨hx1, rfl⟩ <;> rcases hN with ⟨hn1, rfl⟩ | ⟨hn1, rfl⟩ <;> rcases A with _ | ⟨u, us⟩ <;> simp only [ownV, owH] at *
    all_goals
      repeat' first
 | (apply s_mov; exact aW)
 | (apply s_gT; exact rfl)
 | (apply s_gF; exact rfl)
 | (apply c_nil)
 | (apply s_pickT; exact rfl; exact aW)
 | (apply s_pickF; exact rfl; exact aW)
 | (apply s_lss; exact rfl; all_goals (intro _; try (exfalso; omega)))
 | (apply s_gtr; exact rfl; all_goals (intro _; try (exfalso; omega)))
 | (apply s_add; exact rfl; omega)
 | (apply s_sub; exact rfl; omega)
 | (apply s_pn; exact aO; exact lx _)
 | (apply s_pn; exact aO; exact ly _)
 | (apply s_pn; exact aO; exact mu _)
 | (apply s_pn; exact aO; exact ngw _)
 | (apply s_cn; exact aO; exact e49' _)
 | (apply s_en; exact aO; exact e_bld1 rfl rfl rfl rfl)
 | (apply s_en; exact aO; exact e_app_nil rfl (by omega) (by decide))
 | (apply s_en; exact aO; exact e_app_sl rfl rfl (by omega) (by simp at hAl; unfold most; omega))
 | (apply s_idx; exact aW; exact rfl; exact aI; omega)
 | (apply s_ldI; exact rfl; omega)
 | (apply c_seq)
 | (apply c_reg)
 | (apply c_block)
 | (apply c_skip)
 | (apply c_condT; exact rfl)
 | (apply c_condF; exact rfl)
 | (with_reducible apply k_c)
    all_goals first | (exfalso; omega) | exact hK1 _ _ (by omega) (by omega) (by simp [ownV, owH, go_sem, fx, fy])
  · obtain rfl : i = b.length := by omega
    have hall : R.take b.length = R := List.take_of_length_le (by omega)
    rw [hall]
    generalize hA : iL R = A at *
    repeat' first
 | (apply s_mov; exact aW)
 | (apply c_nil)
 | (apply s_lss; exact rfl; all_goals (intro _; try (exfalso; omega)))
 | (apply s_pn; exact aO; exact lx _)
 | (apply c_seq)
 | (apply c_reg)
 | (apply c_exitH)
 | (apply c_condF; exact rfl)
 | (with_reducible apply k_c)
    apply c_pre (vs := [ownV 0 A]) (H' := owH A)
    · cases A <;> simp [ownV, owH, go_sem, look, looks, bindEnv, envOf]
    repeat' first
 | (apply s_mov; exact aW)
 | (apply c_nil)
 | (apply c_seq)
 | (apply c_reg)
 | (apply c_ret)
 | (with_reducible apply k_c)
    cases A <;> simp [finish, ress, resOf, look, tupOf, ownV, owH, go_sem]
theorem c36o {x y : AV} {b : List (List Int)} {l : List Int} {w : Nat} (hx : IsLL x b) (hy : IsL y l) (h0 : 1 ≤ b.length) (hb : b.length ≤ 12) (hw : w ≤ 1048576) {m : Nat} (hm : 100 ≤ m) (H : Heap) :
    callPure (evF tab it m) false 36 [x, y, .int .i64 (w : Int)] H = some (.sl H.length 1 0 b.length, H ++ [some (.data (iL (stL b.length l w)))]) := by
  have ff : idFreeL [x, y, .int .i64 (w : Int)] = true := by simp [idFreeL, AV.idFree, hx.free, hy.free]
  have f := f36 hx hy h0 hb hw hm
  have hl := iL_len (stL b.length l w)
  rw [stL_len] at hl
  generalize iL (stL b.length l w) = A at *
  rcases A with _ | ⟨u, us⟩
  · simp at hl; omega
  · simp only [List.length_cons] at hl
    simp only [ownV, owH, hl] at f
    simp [callPure, frzL_free H 40 [x, y, .int .i64 (w : Int)] (by simp) ff, f, ff, shiftH, AV.ren, renH, renO]
set_option maxHeartbeats 4000000
theorem renL_free {f : Nat → Option Nat} : ∀ {gs : List AV}, idFreeL gs = true → renL f gs = some gs
  | [], _ => rfl
  | g :: r, h => by
    simp only [idFreeL, Bool.and_eq_true] at h
    simp only [renL, ren_self h.1, Option.bind_some, renL_free h.2, Option.map_some]
theorem reach_pre {H : Heap} : ∀ (pre : List AV) {k : Nat} {acc : List Nat} {r : List AV}, idFreeL pre = true → reach H (k + pre.length) acc (pre ++ r) = reach H k acc r
  | [], _, _, _, _ => rfl
  | v :: pre, k, acc, r, h => by
    simp only [idFreeL, Bool.and_eq_true] at h
    rw [List.length_cons, ← Nat.add_assoc, List.cons_append, reach_skip h.1]
    exact reach_pre pre h.2
theorem gcR {H : Heap} {pre gs : List AV} {p M : Nat} {is : List Nat} {R : List (List AV)} (hp : idFreeL pre = true) (hpl : pre.length ≤ 20) (hg : idFreeL gs = true)
    (hb : H[p]? = some (some (.box (refs is R)))) (hl : is.length = R.length) (hR : ∀ (j i : Nat) (l : List AV), is[j]? = some i → R[j]? = some l → H[i]? = some (some (.data l))) (hd : (p :: is).Nodup) (hk : is.length < 100) :
    gc 0 (pre ++ .sl p 1 0 M :: gs) H = some (pre ++ .sl 0 1 0 M :: gs, some (.box (refs (List.range' 1 is.length) R)) :: rowsH R) := by
  have hφ : nodupB (p :: is) = true := nodupB_iff.2 hd
  have q1 : posOf (p :: is) p = some 0 := posOf_of_get hφ (j := 0) rfl
  have pr : renL (posOf (p :: is)) (refs is R) = some (refs (List.range' 1 is.length) R) := renL_refs hφ is R 1 hl fun j i h => by rw [Nat.add_comm]; exact h
  have hpick := pickO_refs is R hl hR
  obtain ⟨d1, d2⟩ := List.nodup_cons.1 hd
  refine gc_of (φ := p :: is) ?_ hφ (vs' := pre ++ .sl 0 1 0 M :: gs) ?_ (Hp := some (.box (refs is R)) :: rowsH R) ?_ ?_
  · have b2 : boxCells H p = refs is R := by simp [boxCells, hb]
    have e : reach H 400 (rangeL 0 []) (roots H (rangeL 0 []) ++ (pre ++ .sl p 1 0 M :: gs)) = reach H (399 - pre.length) [p] (refs is R ++ gs) := by
      have h1 : rangeL 0 [] = [] := rfl
      have h2 : roots H (rangeL 0 []) = [] := rfl
      rw [h2, List.nil_append, h1, show (400 : Nat) = (400 - pre.length) + pre.length by omega, reach_pre pre hp, show 400 - pre.length = (399 - pre.length) + 1 by omega, reach_new, b2]
      simp
    rw [e, reach_refs' (by omega) hl (fun i hi => ?_) d2 (rows_box hl hR), reach_free _ _ _ _ hg]
    · rfl
    · have h3 : i ≠ p := fun e => d1 (e ▸ hi)
      simp [h3]
  · rw [renL_append, renL_free hp]
    simp [renL, AV.ren, q1, renL_free hg]
  · simp [pickO, hb, hpick]
  · simp [renH, renO, pr, renH_rows]
def HB (n : Nat) (rows : List (List Int)) : Heap := some (.box (refs (List.range' 1 n) (rows.map iL))) :: rowsH (rows.map iL)
structure Rows (n : Nat) (rows : List (List Int)) : Prop where
  len : rows.length = n
  each : ∀ r ∈ rows, r.length = n
theorem Rows.get {n : Nat} {rows : List (List Int)} (h : Rows n rows) {i : Nat} (hi : i < n) : (getLL rows (i : Int)).length = n := by
  rw [getLL_nat]
  have : i < rows.length := by rw [h.len]; exact hi
  simp only [List.getD, List.getElem?_eq_getElem this, Option.getD_some]
  exact h.each _ (List.getElem_mem this)
theorem rows_at {rows : List (List Int)} {i : Nat} (hi : i < rows.length) : (rows.map iL)[i]? = some (iL (getLL rows (i : Int))) := by
  rw [getLL_nat]
  simp [List.getD, hi]
theorem gcHB {pre gs : List AV} {n M : Nat} {rows : List (List Int)} (h : Rows n rows) (hn : n < 100) (hp : idFreeL pre = true) (hpl : pre.length ≤ 20) (hg : idFreeL gs = true) :
    gc 0 (pre ++ .sl 0 1 0 M :: gs) (HB n rows) = some (pre ++ .sl 0 1 0 M :: gs, HB n rows) := by
  have hl : (List.range' 1 n).length = (rows.map iL).length := by simp [h.len]
  have := gcR (H := HB n rows) (p := 0) (M := M) (is := List.range' 1 n) (R := rows.map iL) hp hpl hg rfl hl (rng_rows0 [some (.box (refs (List.range' 1 n) (rows.map iL)))] rfl) (by simp [List.mem_range'_1, List.nodup_range']) (by simpa using hn)
  simpa [HB] using this
theorem hb_row {n i : Nat} {rows : List (List Int)} (h : Rows n rows) (hi : i < n) : (HB n rows)[1 + i]? = some (some (.data (iL (getLL rows (i : Int))))) := by
  have hil : i < rows.length := by rw [h.len]; exact hi
  have := rng_rows0 [some (.box (refs (List.range' 1 n) (rows.map iL)))] (s := 1) (q := n) (R := rows.map iL) rfl i (1 + i) _ (by rw [List.getElem?_range' hi]; simp) (rows_at hil)
  exact this
theorem hb_ld {n i : Nat} {rows : List (List Int)} (h : Rows n rows) (hi : i < n) : evP (HB n rows) (.ld false 1) [.ptr 0 i] = some (.sl (1 + i) 1 0 n) := by
  have hil : i < rows.length := by rw [h.len]; exact hi
  have hc : Heap.cells? (HB n rows) 0 = some (refs (List.range' 1 n) (rows.map iL)) := rfl
  have hr := refs_get (is := List.range' 1 n) (ll := rows.map iL) (j := i) (i := 1 + i) (by rw [List.getElem?_range' hi]; simp) (rows_at hil)
  rw [iL_len, h.get hi] at hr
  obtain ⟨h1, h2⟩ := List.getElem?_eq_some_iff.1 hr
  have h5 : i + 1 ≤ (refs (List.range' 1 n) (rows.map iL)).length := by omega
  simp only [evP, ldc, getRow, hc, Option.bind_some, if_pos h5]
  rw [List.drop_eq_getElem_cons h1, h2]
  simp [wholeOf]
theorem refs_len : ∀ (is : List Nat) {R S : List (List AV)}, R.map List.length = S.map List.length → refs is R = refs is S
  | [], R, S, _ => by simp [refs]
  | i :: is, [], [], _ => rfl
  | i :: is, [], _ :: _, h => by simp at h
  | i :: is, _ :: _, [], h => by simp at h
  | i :: is, l :: R, k :: S, h => by
    simp only [List.map_cons, List.cons.injEq] at h
    simp [refs, h.1, refs_len is h.2]
def setLL (rows : List (List Int)) (i j : Nat) (x : Int) : List (List Int) := rows.set i ((getLL rows (i : Int)).set j x)
theorem setLL_rows {n i j : Nat} {x : Int} {rows : List (List Int)} (h : Rows n rows) (hi : i < n) : Rows n (setLL rows i j x) := by
  refine ⟨by simp [setLL, h.len], fun r hr => ?_⟩
  unfold setLL at hr
  rcases List.mem_or_eq_of_mem_set hr with hr | hr
  · exact h.each r hr
  · rw [hr, List.length_set]; exact h.get hi
theorem setLL_get {n i j p q : Nat} {x : Int} {rows : List (List Int)} (h : Rows n rows) (hi : i < n) (hj : j < n) : getI (getLL (setLL rows i j x) (p : Int)) (q : Int) = if p = i ∧ q = j then x else getI (getLL rows (p : Int)) (q : Int) := by
  have hil : i < rows.length := by rw [h.len]; exact hi
  have hrl := h.get hi
  have e : getLL (setLL rows i j x) (p : Int) = if p = i then (getLL rows (i : Int)).set j x else getLL rows (p : Int) := by
    unfold setLL
    rw [getLL_nat, getLL_nat rows p]
    by_cases hp : p = i
    · subst hp; simp [List.getD, hil]
    · rw [if_neg hp]; simp [List.getD, List.getElem?_set_ne (Ne.symm hp)]
  rw [e]
  by_cases hp : p = i
  · subst hp
    rw [if_pos rfl, getI_set (by omega)]
    by_cases hq : q = j
    · rw [if_pos hq, if_pos ⟨rfl, hq⟩]
    · rw [if_neg hq, if_neg (fun h => hq h.2)]
  · rw [if_neg hp, if_neg (fun h => hp h.1)]
theorem hb_st {call : CallF} {n i j : Nat} {x : Int} {rows : List (List Int)} (h : Rows n rows) (hi : i < n) (hj : j < n) : evE call (HB n rows) (.st 1) [.ptr (1 + i) j, .int .i64 x] = some (.undef, HB n (setLL rows i j x)) := by
  have hil : i < rows.length := by rw [h.len]; exact hi
  have h1 := hb_row h hi
  have hd : Heap.data? (HB n rows) (1 + i) = some (iL (getLL rows (i : Int))) := data?_iff.2 h1
  have hst := e_stO (call := call) (H := HB n rows) (id := 1 + i) (l := getLL rows (i : Int)) (i := j) (v := x) hd (by rw [h.get hi]; exact hj)
  rw [hst]
  have e1 : (HB n rows).set (1 + i) (some (.data (iL ((getLL rows (i : Int)).set j x)))) = HB n (setLL rows i j x) := by
    unfold HB
    rw [Nat.add_comm, List.set_cons_succ]
    have e2 : (rowsH (rows.map iL)).set i (some (.data (iL ((getLL rows (i : Int)).set j x)))) = rowsH ((setLL rows i j x).map iL) := by
      simp [rowsH, setLL, List.map_set]
    have e3 : refs (List.range' 1 n) (rows.map iL) = refs (List.range' 1 n) ((setLL rows i j x).map iL) := refs_len _ (by
      refine List.ext_getElem (by simp [setLL]) fun k h1 h2 => ?_
      simp only [List.length_map] at h1
      have hkn : k < n := by rw [← h.len]; exact h1
      have a := h.get hkn
      have c := (setLL_rows (x := x) (j := j) h hi).get hkn
      rw [getLL_nat] at a c
      have h3 : k < (setLL rows i j x).length := by simpa [setLL] using h1
      simp only [List.getD, List.getElem?_eq_getElem h1, List.getElem?_eq_getElem h3, Option.getD_some] at a c
      simp [iL_len, a, c])
    rw [e2, e3]
  rw [e1]
theorem hb_frz {n : Nat} {rows : List (List Int)} (h : Rows n rows) (hn : 1 ≤ n) (hn2 : n ≤ 12) : frzV (HB n rows) 40 (.sl 0 1 0 n) = some (fzLL rows) := by
  have hl : (List.range' 1 n).length = (rows.map iL).length := by simp [h.len]
  have hz := frzL_refs (H := HB n rows) (List.range' 1 n) (rows.map iL) 38 hl (by simp; omega) (rng_rows0 [some (.box (refs (List.range' 1 n) (rows.map iL)))] rfl)
  have hbx : Heap.box? (HB n rows) 0 = some (refs (List.range' 1 n) (rows.map iL)) := rfl
  have hda : Heap.data? (HB n rows) 0 = none := rfl
  have hm : ((rows.map iL).map fun l => AV.rd 1 l.length l) = rows.map fzL := by
    rw [List.map_map]
    refine List.map_congr_left fun r hr => ?_
    have := h.each r hr
    rw [fzL_ne this hn]
    simp [iL_len, this]
  rw [hm] at hz
  have hlen : (rows.map fzL).length = n := by simp [h.len]
  rw [frzV_sl, hda, hbx]
  simp only [Option.none_or, Option.bind_some, hz]
  rw [if_pos (by simp [h.len])]
  have ht : (rows.map fzL).take n = rows.map fzL := List.take_of_length_le (by simp [h.len])
  have hne : rows ≠ [] := fun e => by rw [e] at h; have := h.len; simp at this; omega
  have : fzLL rows = .rd 1 n (rows.map fzL) := by
    cases rows with
    | nil => exact absurd rfl hne
    | cons r rs => have := h.len; simp only [List.length_cons] at this; simp [fzLL, this]
  rw [this]
  simp [ht]
end Go.AM.Ch
