/- A part of the proof: E6 E7 D5 E8. -/
import Derived.Test.YtmegimhfoedcdaaP3
import Derived.Test.YtmegimhfoedcdaaE3
import Derived.Test.YtmegimhfoedcdaaU39
set_option linter.unusedVariables false
set_option linter.unusedSimpArgs false
set_option linter.unusedSectionVars false
namespace Go.AM.Ch
set_option maxHeartbeats 8000000
def blk (c : Nat) (rows : List (List Int)) (r k : Nat) : Int := getI (getLL rows ((c + r : Nat) : Int)) ((c + k : Nat) : Int)
theorem elim {n c : Nat} {p lead : Int} {rows1 rows2 : List (List Int)} (hp : 2 ≤ p ∧ p ≤ 2147483647) (hcn : c < n) (hlead : 0 ≤ lead ∧ lead < p) (hb : ∀ u v : Nat, u < n → v < n → 0 ≤ getI (getLL rows1 (u : Int)) (v : Int) ∧ getI (getLL rows1 (u : Int)) (v : Int) < p)
    (h2 : ∀ u v : Nat, c < u → c ≤ v → u < n → v < n → getI (getLL rows2 (u : Int)) (v : Int) = rT p lead c n rows1 u v) (hinv : p ∣ lead * getI (getLL rows1 (c : Int)) (c : Int) - 1) :
    p ∣ det (n - c) (blk c rows1) - getI (getLL rows1 (c : Int)) (c : Int) * det (n - (c + 1)) (blk (c + 1) rows2) := by
  obtain ⟨q, hq⟩ : ∃ q, n - c = q + 1 := ⟨n - c - 1, by omega⟩
  have e1 : det (n - (c + 1)) (blk (c + 1) rows2) = det q (fun r k => (fun r k => getI (getLL rows2 ((c + r : Nat) : Int)) ((c + k : Nat) : Int)) (r + 1) (k + 1)) := by
    rw [show n - (c + 1) = q by omega]
    refine det_congr fun r k hr hk => ?_
    unfold blk
    rw [show c + 1 + r = c + (r + 1) by omega, show c + 1 + k = c + (k + 1) by omega]
  have e0 : getI (getLL rows1 (c : Int)) (c : Int) = blk c rows1 0 0 := rfl
  rw [e1, hq, e0]
  have ht : ∀ r, r < q → 0 ≤ (blk c rows1 (r + 1) 0 * lead).tmod p ∧ (blk c rows1 (r + 1) 0 * lead).tmod p < p ∧ p ∣ blk c rows1 (r + 1) 0 * lead - (blk c rows1 (r + 1) 0 * lead).tmod p := fun r hr => by
    have b := hb (c + (r + 1)) (c + 0) (by omega) (by omega)
    have q1 := mul_in (a := blk c rows1 (r + 1) 0) (c := lead) hp (by unfold blk; omega) hlead
    exact tmod_in hp.1 q1.1
  refine gauss_step (p := p) (n := q) (M := blk c rows1) (N := fun r k => getI (getLL rows2 ((c + r : Nat) : Int)) ((c + k : Nat) : Int)) (t := fun r => (blk c rows1 (r + 1) 0 * lead).tmod p) (fun r k hr hk => ?_) fun r hr => ?_
  · show p ∣ getI (getLL rows2 ((c + (r + 1) : Nat) : Int)) ((c + (k + 1) : Nat) : Int) - _
    rw [h2 _ _ (by omega) (by omega) (by omega) (by omega)]
    unfold rT
    rw [if_pos (by omega)]
    have b1 := hb (c + (r + 1)) (c + (k + 1)) (by omega) (by omega)
    have b2 := hb c (c + (k + 1)) (by omega) (by omega)
    have t1 := ht r hr
    have q3 := mul_in (a := p - (blk c rows1 (r + 1) 0 * lead).tmod p) (c := blk c rows1 0 (k + 1)) hp (by omega) b2
    have q4 := tmod_in (p := p) (x := blk c rows1 (r + 1) (k + 1) + (p - (blk c rows1 (r + 1) 0 * lead).tmod p) * blk c rows1 0 (k + 1)) hp.1 (by have : 0 ≤ blk c rows1 (r + 1) (k + 1) := b1.1; omega)
    show p ∣ (blk c rows1 (r + 1) (k + 1) + (p - (blk c rows1 (r + 1) 0 * lead).tmod p) * blk c rows1 0 (k + 1)).tmod p - (blk c rows1 (r + 1) (k + 1) - (blk c rows1 (r + 1) 0 * lead).tmod p * blk c rows1 0 (k + 1))
    obtain ⟨z, hz⟩ := q4.2.2
    generalize (blk c rows1 (r + 1) 0 * lead).tmod p = T at *
    generalize blk c rows1 (r + 1) (k + 1) = A at *
    generalize blk c rows1 0 (k + 1) = B at *
    refine ⟨B - z, ?_⟩
    rw [Int.mul_sub]
    rw [Int.sub_mul] at hz ⊢
    generalize (A + (p * B - T * B)).tmod p = W at *
    omega
  · obtain ⟨z, hz⟩ := (ht r hr).2.2
    obtain ⟨y, hy⟩ := hinv
    show p ∣ blk c rows1 (r + 1) 0 - (blk c rows1 (r + 1) 0 * lead).tmod p * blk c rows1 0 0
    rw [e0] at hy
    generalize (blk c rows1 (r + 1) 0 * lead).tmod p = T at *
    generalize blk c rows1 (r + 1) 0 = A at *
    generalize blk c rows1 0 0 = B at *
    refine ⟨z * B - A * y, ?_⟩
    have e3 : T = A * lead - p * z := by omega
    have e4 : lead * B = p * y + 1 := by omega
    have e5 : A * (lead * B) = A * (p * y + 1) := by rw [e4]
    rw [e3, Int.sub_mul, Int.mul_sub, Int.mul_assoc A lead B, e5, Int.mul_add, Int.mul_one, Int.mul_assoc p z B, Int.mul_left_comm A p y]
    omega
theorem blk_sw {n c d : Nat} {rows : List (List Int)} (h : Rows n rows) (hc : c < n) (hd : d < n) (hcd : c < d) : det (n - c) (blk c (swL c d rows)) = - det (n - c) (blk c rows) := by
  have := det_swap (n := n - c) (i := 0) (j := d - c) (by omega) (by omega) (by omega) (blk c rows)
  rw [← this]
  refine det_congr fun r k hr hk => ?_
  unfold rwR
  have e : blk c (swL c d rows) r k = getI (getLL (swL c d rows) ((c + r : Nat) : Int)) ((c + k : Nat) : Int) := rfl
  rw [e, swL_get h hc hd]
  by_cases e1 : r = d - c
  · rw [if_pos (by omega), if_pos e1]; rfl
  · rw [if_neg (by omega), if_neg e1]
    by_cases e2 : r = 0
    · rw [if_pos (by omega), if_pos e2]
      unfold blk
      rw [show c + (d - c) = d by omega]
    · rw [if_neg (by omega), if_neg e2]; rfl
structure Gau (n : Nat) (p D : Int) (c : Nat) (rows : List (List Int)) (out : Int) : Prop where
  r : Rows n rows
  b : ∀ u v : Nat, u < n → v < n → 0 ≤ getI (getLL rows (u : Int)) (v : Int) ∧ getI (getLL rows (u : Int)) (v : Int) < p
  o : 0 ≤ out ∧ out < p
  d : p ∣ D - out * det (n - c) (blk c rows)
theorem rT_in {n c : Nat} {p lead : Int} {rows0 : List (List Int)} (hp : 2 ≤ p ∧ p ≤ 2147483647) (hcn : c < n) (hlead : 0 ≤ lead ∧ lead < p) (hb : ∀ u v : Nat, u < n → v < n → 0 ≤ getI (getLL rows0 (u : Int)) (v : Int) ∧ getI (getLL rows0 (u : Int)) (v : Int) < p) (i : Nat) : ∀ u v : Nat, u < n → v < n → 0 ≤ rT p lead c i rows0 u v ∧ rT p lead c i rows0 u v < p := fun u v hu hv => by
  unfold rT
  split
  · have b1 := hb u v hu hv
    have b2 := hb c v hcn hv
    have b3 := hb u c hu hcn
    have q1 := mul_in (a := getI (getLL rows0 (u : Int)) (c : Int)) (c := lead) hp (by omega) hlead
    have q2 := tmod_in (p := p) hp.1 q1.1
    have q3 := mul_in (a := p - (getI (getLL rows0 (u : Int)) (c : Int) * lead).tmod p) (c := getI (getLL rows0 (c : Int)) (v : Int)) hp (by omega) b2
    have q4 := tmod_in (p := p) (x := getI (getLL rows0 (u : Int)) (v : Int) + (p - (getI (getLL rows0 (u : Int)) (c : Int) * lead).tmod p) * getI (getLL rows0 (c : Int)) (v : Int)) hp.1 (by omega)
    exact ⟨q4.1, q4.2.1⟩
  · exact hb u v hu hv
theorem gau_next2 {n c : Nat} {p D lead out : Int} {rows1 rows2 : List (List Int)} (hp : 2 ≤ p ∧ p ≤ 2147483647) (hcn : c < n) (hlead : 0 ≤ lead ∧ lead < p) (h : Gau n p D c rows1 out) (hr : Rows n rows2) (hb2 : ∀ u v : Nat, u < n → v < n → 0 ≤ getI (getLL rows2 (u : Int)) (v : Int) ∧ getI (getLL rows2 (u : Int)) (v : Int) < p)
    (h2 : ∀ u v : Nat, c < u → c ≤ v → u < n → v < n → getI (getLL rows2 (u : Int)) (v : Int) = rT p lead c n rows1 u v) (hinv : p ∣ lead * getI (getLL rows1 (c : Int)) (c : Int) - 1) :
    Gau n p D (c + 1) rows2 ((out * getI (getLL rows1 (c : Int)) (c : Int)).tmod p) := by
  have he := elim hp hcn hlead h.b h2 hinv
  have b0 := h.b c c hcn hcn
  have ho := h.o
  have q1 := mul_in (a := out) (c := getI (getLL rows1 (c : Int)) (c : Int)) hp (by omega) b0
  have q2 := tmod_in (p := p) hp.1 q1.1
  refine ⟨hr, hb2, ⟨q2.1, q2.2.1⟩, ?_⟩
  obtain ⟨x, hx⟩ := h.d
  obtain ⟨y, hy⟩ := he
  obtain ⟨z, hz⟩ := q2.2.2
  generalize getI (getLL rows1 (c : Int)) (c : Int) = A at *
  generalize det (n - c) (blk c rows1) = D1 at *
  generalize det (n - (c + 1)) (blk (c + 1) rows2) = D2 at *
  generalize (out * A).tmod p = W at *
  refine ⟨x + out * y + z * D2, ?_⟩
  have e1 : D1 = A * D2 + p * y := by omega
  have e2 : W = out * A - p * z := by omega
  have e3 : D = out * D1 + p * x := by omega
  rw [e3, e1, e2, Int.mul_add, Int.sub_mul, Int.mul_add, Int.mul_add, Int.mul_assoc out A D2, Int.mul_left_comm out p y, Int.mul_assoc p z D2]
  omega
theorem gau_next {n c : Nat} {p D lead out : Int} {rows1 rows2 : List (List Int)} (hp : 2 ≤ p ∧ p ≤ 2147483647) (hcn : c < n) (hlead : 0 ≤ lead ∧ lead < p) (h : Gau n p D c rows1 out) (hr : Rows n rows2)
    (h2 : ∀ u v : Nat, u < n → v < n → getI (getLL rows2 (u : Int)) (v : Int) = rT p lead c n rows1 u v) (hinv : p ∣ lead * getI (getLL rows1 (c : Int)) (c : Int) - 1) :
    Gau n p D (c + 1) rows2 ((out * getI (getLL rows1 (c : Int)) (c : Int)).tmod p) :=
  gau_next2 hp hcn hlead h hr (fun u v hu hv => by rw [h2 u v hu hv]; exact rT_in hp hcn hlead h.b n u v hu hv) (fun u v _ _ hu hv => h2 u v hu hv) hinv
theorem gau_sw {n c d : Nat} {p D out : Int} {rows : List (List Int)} (hp : 2 ≤ p ∧ p ≤ 2147483647) (hc : c < n) (hd : d < n) (hcd : c < d) (h : Gau n p D c rows out) : Gau n p D c (swL c d rows) ((p - out).tmod p) := by
  have ho := h.o
  have q2 := tmod_in (p := p) (x := p - out) hp.1 (by omega)
  refine ⟨swL_rows h.r hc hd, fun u v hu hv => ?_, ⟨q2.1, q2.2.1⟩, ?_⟩
  · rw [swL_get h.r hc hd]
    split
    · exact h.b c v hc hv
    · split
      · exact h.b d v hd hv
      · exact h.b u v hu hv
  · rw [blk_sw h.r hc hd hcd]
    obtain ⟨x, hx⟩ := h.d
    obtain ⟨z, hz⟩ := q2.2.2
    generalize det (n - c) (blk c rows) = D1 at *
    generalize (p - out).tmod p = W at *
    refine ⟨x + D1 - z * D1, ?_⟩
    have e2 : W = p - out - p * z := by omega
    rw [e2, Int.mul_sub, Int.mul_add, Int.mul_neg, Int.sub_mul, Int.sub_mul, Int.mul_assoc p z D1]
    omega
theorem gau_none {n c : Nat} {p D out : Int} {rows : List (List Int)} (hc : c < n) (h : Gau n p D c rows out) (hz : ∀ u : Nat, c ≤ u → u < n → getI (getLL rows (u : Int)) (c : Int) = 0) : p ∣ D - 0 := by
  have h1 := h.d
  obtain ⟨q, hq⟩ : ∃ q, n - c = q + 1 := ⟨n - c - 1, by omega⟩
  rw [hq, det_col0 fun r hr => hz (c + r) (by omega) (by omega)] at h1
  simpa using h1
set_option maxHeartbeats 8000000
theorem p_slcO {H : Heap} {id n c : Nat} (hc : c ≤ n) : evP H (.slc 1 true false) [.sl id 1 0 n, .int .i64 (c : Int)] = some (.sl id 1 c (n - c)) := by
  have h1 : (0 : Int) ≤ c := by omega
  simp [evP, natOf, lenOf, slcOf, hc]
theorem hc_alloc {call : CallF} {n : Nat} {rows : List (List Int)} (h : Rows n rows) : evE call (HB n rows) (.alloc true [.int .i64 0]) [] = some (.ptr (n + 1) 0, HB n rows ++ [some (.data [.int .i64 0])]) := by
  have e : evE call (HB n rows) (.alloc true [.int .i64 0]) [] = some (.ptr (HB n rows).length 0, HB n rows ++ [some (.data [.int .i64 0])]) := rfl
  rw [e, hb_length h]
theorem hc_init {call : CallF} {n c : Nat} {rows : List (List Int)} (h : Rows n rows) : evE call (HB n rows ++ [some (.data [.int .i64 0])]) (.st 1) [.ptr (n + 1) 0, .int .i64 (c : Int)] = some (.undef, HC n rows c) := by
  have hl := hb_length h
  have hd : (HB n rows ++ [some (HO.data [.int .i64 0])])[n + 1]? = some (some (.data (iL [0]))) := by
    rw [List.getElem?_append_right (by omega), hl, Nat.sub_self]
    rfl
  rw [e_stO (call := call) (id := n + 1) (l := [0]) (i := 0) (v := (c : Int)) (data?_iff.2 hd) (by simp)]
  unfold HC
  rw [List.set_append_right _ _ (by omega), hl, Nat.sub_self]
  rfl
theorem inv_in {p : Int} (hp : 2 ≤ p ∧ p ≤ 2147483647) (hnd : allND p.toNat 16 2 = true) {A : Int} (h1 : 0 ≤ A ∧ A < p) (h0 : A ≠ 0) {m : Nat} (hm : 203 ≤ m) :
    ∃ lead : Int, (0 ≤ lead ∧ lead < p) ∧ p ∣ lead * A - 1 ∧ ∀ H, callPure (evF tab it m) true 87 [.int .i64 A, .int .i64 p] H = some (.tup [.int .i64 lead, .int .i64 0], H) := by
  have hg : Nat.gcd A.toNat p.toNat = 1 := cop_of (by omega) hnd (by omega) (by omega)
  obtain ⟨a, b, c⟩ := invOf_spec (a := A.toNat) (n := p.toNat) (by omega) hg
  rw [Int.toNat_of_nonneg (show 0 ≤ p by omega)] at b c
  rw [Int.toNat_of_nonneg h1.1] at c
  refine ⟨_, ⟨a, b⟩, c, fun H => ?_⟩
  rw [c87 hm, if_pos (by unfold IsRest IsNum; omega), if_pos hg]
theorem L29 {N : Nat} {m : Nat} {K0 : KT} {X : Nat → KT} {Rt : KT} {res : R} {env : Env} {H : Heap} {n : Nat} {p D : Int} {rows0 : List (List Int)}
    (hN : 100 ≤ N) (hm : 300 ≤ m) (hn : n ≤ 12) (hp : 2 ≤ p ∧ p ≤ 2147483647) (hnd : allND p.toNat 16 2 = true) (hG : Gau n p D 0 rows0 1)
    (h0 : gc 0 (looks env [1, 5, 6, 9, 71, 72]) H = some ([.int .i64 p, .int .i64 (n : Int), .sl 0 1 0 n, .int .i64 1, .int .i64 (n : Int), .int .i64 0], HB n rows0))
    (hR : p ∣ D - 0 → ∀ env' H', look env' 4 = .int .i64 0 → Rt env' H' = res)
    (hK : ∀ rows out, Gau n p D n rows out → ∀ env' H', gc 0 (looks env' [9]) H' = some ([.int .i64 out], []) → K0 env' H' = res) :
    loopIt N (fun K => evC (evF tab it m) it N lb61_29 0 K (blkX 4 K0 X) Rt) env H = res := by
  refine loop_gc (σ := Nat × List (List Int) × Int) (fun s => [.int .i64 p, .int .i64 (n : Int), .sl 0 1 0 n, .int .i64 s.2.2, .int .i64 (n : Int), .int .i64 (s.1 : Int)]) (fun s => HB n s.2.1) (fun s => s.1 ≤ n ∧ Gau n p D s.1 s.2.1 s.2.2) (fun s => n - s.1) ?_ _ (0, rows0, 1) _ _ ⟨by dsimp only; omega, hG⟩ (by show n - 0 < _; omega) h0
  clear h0 hG
  intro ⟨c, rows, out⟩ ⟨hcn', hG⟩ K hKl
  dsimp only at hcn' hG hKl ⊢
  have hr := hG.r
  by_cases hcn : c < n
  · have al := fun call => hc_alloc (call := call) hr
    have ini := fun call => hc_init (call := call) (c := c) hr
    have l1 := hc_c (c := c) hr
    have l3 := hc_ld (c := c) hr hcn
    have e85 := c85 (c := c) hr hcn hn (m := m) (by omega)
    have hneg := fiR_neg (c := c) (rows.drop c) 0
    have hpos := fiR_pos (c := c) (rows.drop c) 0
    have hdl : (rows.drop c).length = n - c := by rw [List.length_drop, hr.len]
    have hdg : ∀ i : Nat, getLL (rows.drop c) (i : Int) = getLL rows ((c + i : Nat) : Int) := fun i => by rw [getLL_nat, getLL_nat]; simp [List.getD]
    have hK1 := fun rows out => hKl (c + 1, rows, out)
    dsimp only at hK1
    have ho := hG.o
    have hL := fun (K0 : KT) (X : Nat → KT) (env : Env) (H : Heap) (out lead : Int) (rows1 : List (List Int)) (h : Gau n p D c rows1 out) (hl : 0 ≤ lead ∧ lead < p) (out1 : Int) => L20 (call := evF tab it m) (N := N) (K0 := K0) (X := X) (Rt := Rt) (res := res) (env := env) (out := out1) (lead := lead) (H := H) (c := c) hN hn h.r hcn hp hl h.b
    rcases Int.lt_or_le (fiR c (rows.drop c) 0) 0 with hk | hk
    · have hz := hneg hk
      have hdv := gau_none hcn hG fun u h1 h2 => by
        have := hz (u - c) (by omega)
        rw [hdg, show c + (u - c) = u by omega] at this
        exact this
      generalize fiR c (rows.drop c) 0 = kk at *
      clear hneg hpos hL hK1 hKl
      generalize evF tab it m = call at *
      repeat' first
 | (apply s_mov; exact aW)
 | (apply c_nil)
 | (apply s_lss; exact rfl; all_goals (intro _; try (exfalso; omega)))
 | (apply s_en; exact aO; exact al _)
 | (apply s_st; exact aO; exact ini _)
 | (apply s_pn; exact aO; exact l1)
 | (apply s_pn; exact aO; exact p_slcO hcn')
 | (apply s_cn; exact aO; exact e85)
 | (apply s_pd; exact aW)
 | (apply c_seq)
 | (apply c_reg)
 | (apply c_block)
 | (apply c_skip)
 | (apply c_ret)
 | (apply c_condT; exact rfl)
 | (with_reducible apply k_c)
      all_goals first
        | (exfalso; omega)
        | exact hR hdv _ _ rfl
    · obtain ⟨k, hkl, hke, hk0⟩ := hpos hk
      rw [hdl] at hkl
      rw [hdg] at hk0
      rw [hke, Nat.zero_add] at e85
      have hd : c + k < n := by omega
      clear hneg hpos hke hk hdg hdl hKl
      rcases Nat.eq_zero_or_pos k with hk2 | hk2
      · subst hk2
        rw [Nat.add_zero] at hk0
        have b0 := hG.b c c hcn hcn
        have l4 := hc_get (c := c) hr hcn hcn
        obtain ⟨lead, hl1, hl2, e87⟩ := inv_in hp hnd b0 hk0 (m := m) (by omega)
        have hnx := fun rows2 hr2 h2 => gau_next (rows2 := rows2) hp hcn hl1 hG hr2 h2 hl2
        have hprod := mul_in (a := out) (c := getI (getLL rows (c : Int)) (c : Int)) hp (by omega) b0
        have hmul : -9223372036854775808 ≤ out * getI (getLL rows (c : Int)) (c : Int) ∧ out * getI (getLL rows (c : Int)) (c : Int) < 9223372036854775808 := by omega
        have hLL := fun K0 X env H => hL K0 X env H out lead rows hG hl1 ((out * getI (getLL rows (c : Int)) (c : Int)).tmod p)
        clear hL hl2
        generalize evF tab it m = call at *
        generalize getI (getLL rows (c : Int)) (c : Int) = A at *
        repeat' first
 | (apply s_mov; exact aW)
 | (apply c_nil)
 | (apply s_lss; exact rfl; all_goals (intro _; try (exfalso; omega)))
 | (apply s_gtr; exact rfl; all_goals (intro _; try (exfalso; omega)))
 | (apply s_add; exact rfl; omega)
 | (apply s_en; exact aO; exact al _)
 | (apply s_st; exact aO; exact ini _)
 | (apply s_pn; exact aO; exact l1)
 | (apply s_pn; exact aO; exact p_slcO hcn')
 | (apply s_cn; exact aO; exact e85)
 | (apply s_pn; exact aO; exact p_ixO hcn)
 | (apply s_pn; exact aO; exact l3)
 | (apply s_pn; exact aO; exact l4)
 | (apply s_mul; exact rfl; exact hmul)
 | (apply s_rem; exact rfl; omega)
 | (apply s_cn; exact aO; exact e87 _)
 | (apply s_pd; exact aW)
 | (apply c_seq)
 | (apply c_reg)
 | (apply c_block)
 | (apply c_skip)
 | (apply c_condT; exact rfl)
 | (apply c_condF; exact rfl)
 | (with_reducible apply k_c)
        all_goals try (exfalso; omega)
        refine c_loop ?_
        refine hLL _ _ _ _ ?_ ?_
        · exact gcHC (pre := [.int .i64 p, .int .i64 (n : Int)]) (gs1 := [.int .i64 ((out * A).tmod p)]) (gs2 := [.int .i64 lead, .int .i64 ((c + 1 : Nat) : Int), .int .i64 (n : Int), .int .i64 (c : Int)]) (M := n) (c := c) hr (by omega) rfl (by simp) rfl (by simp) rfl
        · intro rows' hr' hv' env' H' hgc
          refine k_c (c_pre hgc ?_)
          repeat' first
 | (apply s_mov; exact aW)
 | (apply c_nil)
 | (apply s_add; exact rfl; omega)
 | (apply c_reg)
          refine hK1 rows' _ _ _ ⟨by omega, hnx rows' hr' hv'⟩ (by omega) ?_
          exact gcHB (pre := [.int .i64 p, .int .i64 (n : Int)]) (gs := [.int .i64 ((out * A).tmod p), .int .i64 (n : Int), .int .i64 ((c + 1 : Nat) : Int)]) (M := n) hr' (by omega) rfl (by simp) rfl
      · have hG2 := gau_sw hp hcn hd (by omega : c < c + k) hG
        obtain ⟨H1, H2, is, sw⟩ := sw_of hr hcn hd (by omega : c ≠ c + k)
        have l5 := hc_ld (c := c) hr hd
        have b0 := hG2.b c c hcn hcn
        have e0 : getLL (swL c (c + k) rows) (c : Int) = getLL rows ((c + k : Nat) : Int) := by rw [swL_get hr hcn hd, if_neg (by omega), if_pos rfl]
        have l6 := sw.ra.ld sw.at_
        have l7 := sw.ra.get (k := c) sw.at_ (by rw [hG2.r.get hcn]; exact hcn)
        rw [hG2.r.get hcn] at l6
        have sc1 := sw.c1
        have sc2 := sw.c2
        have st2 := sw.st2
        have hk0' : getI (getLL (swL c (c + k) rows) (c : Int)) (c : Int) ≠ 0 := by rw [e0]; exact hk0
        obtain ⟨lead, hl1, hl2, e87⟩ := inv_in hp hnd b0 hk0' (m := m) (by omega)
        have hnx := fun rows2 hr2 h2 => gau_next (rows2 := rows2) hp hcn hl1 hG2 hr2 h2 hl2
        have ho2 := hG2.o
        have hprod := mul_in (a := (p - out).tmod p) (c := getI (getLL (swL c (c + k) rows) (c : Int)) (c : Int)) hp (by omega) b0
        have hmul : -9223372036854775808 ≤ (p - out).tmod p * getI (getLL (swL c (c + k) rows) (c : Int)) (c : Int) ∧ (p - out).tmod p * getI (getLL (swL c (c + k) rows) (c : Int)) (c : Int) < 9223372036854775808 := by omega
        have hLL := fun K0 X env H => hL K0 X env H ((p - out).tmod p) lead _ hG2 hl1 (((p - out).tmod p * getI (getLL (swL c (c + k) rows) (c : Int)) (c : Int)).tmod p)
        clear hL hl2 hG hG2 e0 hk0 hk0'
        generalize evF tab it m = call at *
        generalize getI (getLL (swL c (c + k) rows) (c : Int)) (c : Int) = A at *
        repeat' first
 | (apply s_mov; exact aW)
 | (apply c_nil)
 | (apply s_lss; exact rfl; all_goals (intro _; try (exfalso; omega)))
 | (apply s_gtr; exact rfl; all_goals (intro _; try (exfalso; omega)))
 | (apply s_add; exact rfl; omega)
 | (apply s_sub; exact rfl; omega)
 | (apply s_en; exact aO; exact al _)
 | (apply s_st; exact aO; exact ini _)
 | (apply s_pn; exact aO; exact l1)
 | (apply s_pn; exact aO; exact sc1)
 | (apply s_pn; exact aO; exact sc2)
 | (apply s_pn; exact aO; exact p_slcO hcn')
 | (apply s_cn; exact aO; exact e85)
 | (apply s_pn; exact aO; exact p_ixO hcn)
 | (apply s_pn; exact aO; exact p_ixO hd)
 | (apply s_pn; exact aO; exact l3)
 | (apply s_pn; exact aO; exact l5)
 | (apply s_pn; exact aO; exact l6)
 | (apply s_pn; exact aO; exact l7)
 | (refine s_stK (vs := [.ptr 0 c, .sl (1 + (c + k)) 1 0 n]) rfl (sw.st1 _) sw.kept ?_)
 | (apply s_st; exact aO; exact st2 _)
 | (apply s_mul; exact rfl; exact hmul)
 | (apply s_rem; exact rfl; omega)
 | (apply s_cn; exact aO; exact e87 _)
 | (apply s_pd; exact aW)
 | (apply c_seq)
 | (apply c_reg)
 | (apply c_block)
 | (apply c_skip)
 | (apply c_condT; exact rfl)
 | (apply c_condF; exact rfl)
 | (with_reducible apply k_c)
        all_goals try (exfalso; omega)
        refine c_loop ?_
        refine hLL _ _ _ _ ?_ ?_
        · exact gcSw (pre := [.int .i64 p, .int .i64 (n : Int)]) (gs1 := [.int .i64 (((p - out).tmod p * A).tmod p)]) (gs2 := [.int .i64 lead, .int .i64 ((c + 1 : Nat) : Int), .int .i64 (n : Int), .int .i64 (c : Int)]) (M := n) hr hcn hd sw (by omega) rfl (by simp) rfl (by simp) rfl
        · intro rows' hr' hv' env' H' hgc
          refine k_c (c_pre hgc ?_)
          repeat' first
 | (apply s_mov; exact aW)
 | (apply c_nil)
 | (apply s_add; exact rfl; omega)
 | (apply c_reg)
          refine hK1 rows' _ _ _ ⟨by omega, hnx rows' hr' hv'⟩ (by omega) ?_
          exact gcHB (pre := [.int .i64 p, .int .i64 (n : Int)]) (gs := [.int .i64 (((p - out).tmod p * A).tmod p), .int .i64 (n : Int), .int .i64 ((c + 1 : Nat) : Int)]) (M := n) hr' (by omega) rfl (by simp) rfl
  · obtain rfl : c = n := by omega
    clear hKl
    repeat' first
 | (apply c_nil)
 | (apply s_lss; exact rfl; all_goals (intro _; try (exfalso; omega)))
 | (apply c_seq)
 | (apply c_reg)
 | (apply c_exitH)
 | (apply c_condF; exact rfl)
 | (with_reducible apply k_c)
    refine hK rows out hG _ _ ?_
    exact gc_to rfl rfl
set_option maxHeartbeats 4000000
def wB (b : List (List Int)) (v : Nat) : Int := ed b 0 (v + 1)
def eB (b : List (List Int)) (v u : Nat) : Int := ed b (v + 1) (u + 1)
def trN (b : List (List Int)) : Int := det (b.length - 1) (lap (b.length - 1) (wB b) (eB b))
theorem wg_of {b : List (List Int)} (hB : IsB b) : WG (b.length - 1) (wB b) (eB b) := by
  have g := gr_of hB
  have hn := hB.n1
  exact ⟨fun v hv => g.nn _ _ (by omega) (by omega), fun v u hv hu => g.nn _ _ (by omega) (by omega), fun v u hv hu => g.sy _ _ (by omega) (by omega), fun v hv => (hB.ed (v + 1) (v + 1) (by omega) (by omega)).2.2 rfl⟩
theorem deg_wB {b : List (List Int)} (hB : IsB b) {v : Nat} (hv : v < b.length - 1) : deg b.length (ed b) (v + 1) = wB b v + sumTo (fun t => eB b v t) (b.length - 1) := by
  have g := gr_of hB
  have hn := hB.n1
  have e : deg b.length (ed b) (v + 1) = sumTo (fun j => ed b (v + 1) j) (b.length - 1 + 1) := by unfold deg; congr 1; omega
  rw [e, sumTo_front', g.sy (v + 1) 0 (by omega) (by omega)]
  rfl
theorem red_ss {b : List (List Int)} (hB : IsB b) {c : Nat → Int} : Red b.length (ed b) 0 c ↔ (∀ v, v < b.length - 1 → 0 ≤ c (v + 1)) ∧ SS (b.length - 1) (wB b) (eB b) (fun v => c (v + 1)) := by
  have g := gr_of hB
  have hn := hB.n1
  have hout : ∀ S : Nat → Bool, S 0 = false → ∀ v, v < b.length - 1 → outE b.length (ed b) S (v + 1) = wB b v + outE (b.length - 1) (eB b) (fun i => S (i + 1)) v := fun S hS v hv => by
    have e : outE b.length (ed b) S (v + 1) = sumTo (fun j => if S j = true then 0 else ed b (v + 1) j) (b.length - 1 + 1) := by unfold outE; congr 1; omega
    rw [e, sumTo_front', if_neg (by rw [hS]; decide), g.sy (v + 1) 0 (by omega) (by omega)]
    rfl
  constructor
  · rintro ⟨h1, h2⟩
    refine ⟨fun v hv => h1 _ (by omega) (by omega), fun S ⟨v, hv, hSv⟩ => ?_⟩
    obtain ⟨S2, s1, s2⟩ : ∃ S2 : Nat → Bool, S2 0 = false ∧ ∀ i, S2 (i + 1) = S i := ⟨fun i => match i with
      | 0 => false
      | i + 1 => S i, rfl, fun _ => rfl⟩
    obtain ⟨x, x1, x2, x3⟩ := h2 S2 s1 ⟨v + 1, by omega, by rw [s2]; exact hSv⟩
    cases x with
    | zero => rw [s1] at x2; cases x2
    | succ x =>
      rw [s2] at x2
      rw [hout S2 s1 x (by omega), funext s2] at x3
      exact ⟨x, by omega, x2, x3⟩
  · rintro ⟨h1, h2⟩
    refine ⟨fun v hv h0 => ?_, fun S hS ⟨v, hv, hSv⟩ => ?_⟩
    · obtain ⟨v, rfl⟩ : ∃ j, v = j + 1 := ⟨v - 1, by omega⟩
      exact h1 v (by omega)
    · cases v with
      | zero => rw [hS] at hSv; cases hSv
      | succ v =>
        obtain ⟨x, x1, x2, x3⟩ := h2 (fun i => S (i + 1)) ⟨v, by omega, hSv⟩
        exact ⟨x + 1, by omega, x2, by rw [hout S hS x x1]; exact x3⟩
theorem red_zero {b : List (List Int)} (hB : IsB b) : Red b.length (ed b) 0 (fun _ => 0) := by
  obtain ⟨h1, h2⟩ := redL_red hB [] hB.n1
  refine ⟨fun _ _ _ => Int.le_refl _, fun S hS hex => ?_⟩
  obtain ⟨v, a, c, d⟩ := h2 S hS hex
  refine ⟨v, a, c, ?_⟩
  have h0 : v ≠ 0 := fun e => by subst e; rw [hS] at c; cases c
  have := h1 v a h0
  show (0 : Int) < _
  omega
noncomputable def redsL (b : List (List Int)) : List (List Int) := ssL 36 (b.length - 1) (wB b) (eB b)
theorem trN_len {b : List (List Int)} (hB : IsB b) : trN b = ((redsL b).length : Int) := by
  have g := gr_of hB
  have hn := hB.n1
  have h := wg_of hB
  unfold trN redsL
  rw [det_nSS 36 (b.length - 1) (sumTo (wB b) (b.length - 1)).toNat h (fun v hv => by
    rw [← deg_wB hB hv]
    exact (deg_nn g (by omega)).2) (by have := sumTo_nn h.w0; omega), len_ssL]
theorem allC_len (K : Nat) : ∀ m, (allC K m).length = K ^ m
  | 0 => rfl
  | m + 1 => by
    unfold allC
    rw [List.length_flatMap]
    have e : (List.range K).map (fun (x : Nat) => ((allC K m).map fun l => (x : Int) :: l).length) = (List.range K).map fun _ => K ^ m := List.map_congr_left fun x _ => by rw [List.length_map, allC_len K m]
    have e2 : ∀ L : List Nat, (L.map fun _ => K ^ m).sum = L.length * K ^ m := fun L => by
      induction L with
      | nil => simp
      | cons a L ih => simp only [List.map_cons, List.sum_cons, List.length_cons, ih]; rw [Nat.add_mul]; omega
    rw [e, e2, List.length_range, Nat.pow_succ, Nat.mul_comm]
theorem trN_le {b : List (List Int)} (hB : IsB b) : 1 ≤ trN b ∧ trN b ≤ 101559956668416 := by
  have hn := hB.n2
  rw [trN_len hB]
  constructor
  · have h0 := (red_ss hB).1 (red_zero hB)
    have hm : List.replicate (b.length - 1) (0 : Int) ∈ redsL b := mem_ssL.2 ⟨⟨by simp, fun x hx => by have := (List.mem_replicate.1 hx).2; omega⟩, by
      have e : gf (List.replicate (b.length - 1) 0) = fun _ => 0 := by
        funext i
        show getI _ (i : Int) = 0
        rw [getI_nat]
        by_cases h : i < b.length - 1
        · simp [List.getD, h]
        · simp [List.getD, h]
      rw [e]; exact h0.2⟩
    have := List.length_pos_of_mem hm
    omega
  · have h1 : (redsL b).length ≤ (allC 36 (b.length - 1)).length := by unfold redsL ssL; exact List.length_filter_le _ _
    rw [allC_len] at h1
    have h2 : 36 ^ (b.length - 1) ≤ 36 ^ 9 := Nat.pow_le_pow_right (by omega) (by omega)
    have h3 : (36 : Nat) ^ 9 = 101559956668416 := by decide
    omega
def dv (m : Nat) (l : List Int) (v : Nat) : Int := match v with
  | 0 => - sumTo (gf l) m
  | v + 1 => gf l v
theorem dv_sum (m : Nat) (l : List Int) : sumTo (dv m l) (m + 1) = 0 := by
  rw [sumTo_front']
  show - sumTo (gf l) m + sumTo (gf l) m = 0
  omega
theorem trN_kill {b : List (List Int)} (hB : IsB b) {s : List Int} (hs : sumTo (gf s) b.length = 0) : ∃ T : Nat → Int, ∀ v, v < b.length → trN b * gf s v = net b.length (ed b) T v := by
  have g := gr_of hB
  have hn1 := hB.n1; have hn2 := hB.n2
  rw [trN_len hB]
  let A : List Int → List Int := fun l => (List.range b.length).map fun v => dv (b.length - 1) l v + gf s v
  have hAl : ∀ l, (A l).length = b.length := fun l => by simp [A]
  have hAg : ∀ l v, v < b.length → gf (A l) v = dv (b.length - 1) l v + gf s v := fun l v hv => by
    show getI _ (v : Int) = _
    rw [getI_nat]; simp [A, List.getD, hv]
  let R : List Int → List Int := fun l => redL b (A l) 0
  have hRr : ∀ l, Red b.length (ed b) 0 (gf (R l)) := fun l => redL_red hB (A l) hn1
  have hRa : ∀ l v, v < b.length → gf (R l) v = ap b.length (ed b) (gf (A l)) (gf (redT b (A l) 0)) v := fun l v hv => apl_ap hB _ _ hv
  have hdv0 : ∀ l, sumTo (dv (b.length - 1) l) b.length = 0 := fun l => by
    have := dv_sum (b.length - 1) l
    rwa [show b.length - 1 + 1 = b.length by omega] at this
  have hRs : ∀ l, sumTo (gf (R l)) b.length = 0 := fun l => by
    have e1 : sumTo (gf (R l)) b.length = sumTo (gf (A l)) b.length := by
      rw [← ap_sum g (gf (A l)) (gf (redT b (A l) 0))]
      exact sumTo_congr (hRa l)
    have e2 : sumTo (gf (A l)) b.length = sumTo (fun v => dv (b.length - 1) l v + gf s v) b.length := sumTo_congr (hAg l)
    rw [e1, e2, sumTo_add, hdv0, hs]
    rfl
  let φ : List Int → List Int := fun l => (List.range (b.length - 1)).map fun v => gf (R l) (v + 1)
  have hφl : ∀ l, (φ l).length = b.length - 1 := fun l => by simp [φ]
  have hφg : ∀ l v, v < b.length - 1 → gf (φ l) v = gf (R l) (v + 1) := fun l v hv => by
    show getI _ (v : Int) = _
    rw [getI_nat]; simp [φ, List.getD, hv]
  have hdφ : ∀ l v, v < b.length → dv (b.length - 1) (φ l) v = gf (R l) v := fun l v hv => by
    cases v with
    | zero =>
      have h1 := hRs l
      rw [show b.length = b.length - 1 + 1 by omega, sumTo_front'] at h1
      have h2 : sumTo (gf (φ l)) (b.length - 1) = sumTo (fun j => gf (R l) (j + 1)) (b.length - 1) := sumTo_congr (hφg l)
      show - sumTo (gf (φ l)) (b.length - 1) = _
      omega
    | succ v => exact hφg l v (by omega)
  have hmem : ∀ l, φ l ∈ redsL b := fun l => by
    obtain ⟨r1, r2⟩ := (red_ss hB).1 (hRr l)
    refine mem_ssL.2 ⟨⟨hφl l, fun x hx => ?_⟩, fun S hex => ?_⟩
    · obtain ⟨v, hv, rfl⟩ := List.mem_map.1 hx
      have hv := List.mem_range.1 hv
      have := red_lt g (hRr l) (v := v + 1) (by omega) (by omega)
      omega
    · obtain ⟨v, a, c, d⟩ := r2 S hex
      exact ⟨v, a, c, by rw [hφg l v a]; exact d⟩
  have hred : ∀ l, l ∈ redsL b → Red b.length (ed b) 0 (dv (b.length - 1) l) := fun l hl => by
    obtain ⟨⟨h1, h2⟩, h3⟩ := mem_ssL.1 hl
    refine (red_ss hB).2 ⟨fun v hv => ?_, h3⟩
    show 0 ≤ getI l (v : Int)
    rw [getI_nat]
    have hvl : v < l.length := by omega
    have := h2 _ (List.getElem_mem hvl)
    simpa [List.getD, hvl] using this.1
  have hinj : ∀ a ∈ redsL b, ∀ c ∈ redsL b, φ a = φ c → a = c := fun a ha c hc e => by
    have hR : ∀ v, v < b.length → gf (R a) v = gf (R c) v := fun v hv => by rw [← hdφ a v hv, ← hdφ c v hv, e]
    have hu := fun v hv => (red_uniq g hn1 (hred a ha) (hred c hc) (t := fun j => gf (redT b (A a) 0) j + (- gf (redT b (A c) 0) j)) (fun v hv => by
      have h1 := hR v hv
      rw [hRa a v hv, hRa c v hv] at h1
      unfold ap at h1 ⊢
      rw [net_add, net_neg]
      rw [hAg a v hv, hAg c v hv] at h1
      omega) v hv).1
    obtain ⟨⟨la, -⟩, -⟩ := mem_ssL.1 ha
    obtain ⟨⟨lc, -⟩, -⟩ := mem_ssL.1 hc
    refine ext_getI (by omega) fun i hi => ?_
    have := hu (i + 1) (by omega)
    exact this.symm
  have hperm : ((redsL b).map φ).Perm (redsL b) := perm_of_sub (nodup_mapI (nodup_ssL _ _ _ _) hinj) (fun x hx => by
    obtain ⟨l, -, rfl⟩ := List.mem_map.1 hx
    exact hmem l) (List.length_map _)
  refine ⟨fun j => lsum ((redsL b).map fun l => gf (redT b (A l) 0) j), fun v hv => ?_⟩
  have h1 := lsum_perm (hperm.map fun l => dv (b.length - 1) l v)
  rw [List.map_map] at h1
  have h2 : lsum ((redsL b).map ((fun l => dv (b.length - 1) l v) ∘ φ)) = lsum ((redsL b).map fun l => (dv (b.length - 1) l v + gf s v) - net b.length (ed b) (gf (redT b (A l) 0)) v) := lsum_congr fun l _ => by
    show dv (b.length - 1) (φ l) v = _
    rw [hdφ l v hv, hRa l v hv]
    unfold ap
    rw [hAg l v hv]
  rw [h2, lsum_sub, lsum_add, lsum_const] at h1
  rw [net_lsum]
  omega
set_option maxHeartbeats 8000000
theorem LB3 {call : CallF} {N : Nat} {K0 : KT} {X : Nat → KT} {Rt : KT} {res : R} {env : Env} {H : Heap} {x : AV} {b : List (List Int)} {n i : Nat} {p : Int} {rows0 : List (List Int)}
    (hN : 100 ≤ N) (hx : IsLL x b) (hB : IsB b) (hbn : b.length = n + 1) (hin : i < n) (hp : 2 ≤ p ∧ p ≤ 2147483647) (hr0 : RowsP (i + 1) n rows0)
    (h0 : gc 0 (looks env [0, 1, 5, 6, 7, 23, 24, 36, 37]) H = some ([x, .int .i64 p, .int .i64 (n : Int), .sl 0 1 0 n, .int .i64 (i : Int), .int .i64 (n : Int), .int .i64 (i : Int), .int .i64 (n : Int), .int .i64 0], HP n rows0))
    (hK : ∀ rows, RowsP (i + 1) n rows → (∀ u v : Nat, u < i → v < n → getI (getLL rows (u : Int)) (v : Int) = getI (getLL rows0 (u : Int)) (v : Int)) → (∀ v : Nat, v < n → getI (getLL rows (i : Int)) (v : Int) = (p - ed b (i + 1) (v + 1)).tmod p) →
      ∀ env' H', gc 0 (looks env' [0, 1, 5, 6, 7, 23, 24]) H' = some ([x, .int .i64 p, .int .i64 (n : Int), .sl 0 1 0 n, .int .i64 (i : Int), .int .i64 (n : Int), .int .i64 (i : Int)], HP n rows) → K0 env' H' = res) :
    loopIt N (fun K => evC call it N lb61_3 0 K (blkX 2 K0 X) Rt) env H = res := by
  have fx := hx.free
  have hn10 := hB.n2
  refine loop_gc (σ := Nat × List (List Int)) (fun s => [x, .int .i64 p, .int .i64 (n : Int), .sl 0 1 0 n, .int .i64 (i : Int), .int .i64 (n : Int), .int .i64 (i : Int), .int .i64 (n : Int), .int .i64 (s.1 : Int)]) (fun s => HP n s.2) (fun s => s.1 ≤ n ∧ RowsP (i + 1) n s.2 ∧ (∀ u v : Nat, u < i → v < n → getI (getLL s.2 (u : Int)) (v : Int) = getI (getLL rows0 (u : Int)) (v : Int)) ∧ (∀ v : Nat, v < s.1 → getI (getLL s.2 (i : Int)) (v : Int) = (p - ed b (i + 1) (v + 1)).tmod p)) (fun s => n - s.1) ?_ _ (0, rows0) _ _ ⟨by dsimp only; omega, hr0, fun _ _ _ _ => rfl, fun v hv => by dsimp only at hv; omega⟩ (by show n - 0 < _; omega) h0
  clear h0
  intro ⟨k, rows⟩ ⟨hk, hr, hv1, hv2⟩ K hKl
  dsimp only at hk hr hv1 hv2 hKl ⊢
  by_cases hkn : k < n
  · have hrow : (getLL b ((i : Int) + 1)).length = b.length := hB.row (i + 1) (by omega)
    have he := hB.ed (i + 1) (k + 1) (by omega) (by omega)
    have hee : getI (getLL b ((i : Int) + 1)) ((k : Int) + 1) = ed b (i + 1) (k + 1) := rfl
    have he2 : 0 ≤ ed b (i + 1) (k + 1) ∧ ed b (i + 1) (k + 1) ≤ 3 := ⟨he.1.1, he.1.2⟩
    have hI := hx.at (i := (i : Int) + 1) ⟨by omega, by omega⟩
    have l1 := hp_ld hr (i := i) (by omega)
    have st := fun (v : Int) call => hp_st (call := call) (x := v) hr (i := i) (by omega) hkn
    have hr' := fun v : Int => hr.set (x := v) (j := k) (i := i) (by omega)
    have hK1 := fun v : Int => hKl (k + 1, setLL rows i k v)
    dsimp only at hK1
    have hg := fun (v : Int) => gcHP (pre := [x, .int .i64 p, .int .i64 (n : Int)]) (gs := [.int .i64 (i : Int), .int .i64 (n : Int), .int .i64 (i : Int), .int .i64 (n : Int), .int .i64 ((k + 1 : Nat) : Int)]) (M := n) (hr' v) (by omega) (by omega) (by simp [idFreeL, AV.idFree, fx]) (by simp) rfl
    have hn1 := fun v : Int => fun (u w : Nat) (hu : u < i) (hw : w < n) => (hr.setget (x := v) (p := u) (q := w) (i := i) (by omega) hkn)
    have hnext : (∀ u v : Nat, u < i → v < n → getI (getLL (setLL rows i k ((p - ed b (i + 1) (k + 1)).tmod p)) (u : Int)) (v : Int) = getI (getLL rows0 (u : Int)) (v : Int)) ∧ (∀ v : Nat, v < k + 1 → getI (getLL (setLL rows i k ((p - ed b (i + 1) (k + 1)).tmod p)) (i : Int)) (v : Int) = (p - ed b (i + 1) (v + 1)).tmod p) := by
      constructor
      · intro u v hu hv
        rw [hr.setget (by omega) hkn, if_neg (by omega)]
        exact hv1 u v hu hv
      · intro v hv
        rw [hr.setget (by omega) hkn]
        by_cases e : v = k
        · rw [if_pos ⟨rfl, e⟩, e]
        · rw [if_neg (fun h => e h.2)]
          exact hv2 v (by omega)
    clear hv1 hv2 hKl hK hn1 he
    repeat' first
 | (apply s_mov; exact aW)
 | (apply c_nil)
 | (apply s_lss; exact rfl; all_goals (intro _; try (exfalso; omega)))
 | (apply s_add; exact rfl; omega)
 | (apply s_sub; exact rfl; omega)
 | (apply s_pn; exact aO; exact p_ixO hin)
 | (apply s_pn; exact aO; exact p_ixO hkn)
 | (apply s_pn; exact aO; exact l1)
 | (apply s_rem; exact rfl; omega)
 | (apply s_st; exact aO; exact (st _ _))
 | (apply s_idx; exact aW; exact rfl; exact aI; omega)
 | (apply s_idxLL; exact aW; exact rfl; assumption; omega)
 | (apply s_ldI; exact rfl; omega)
 | (apply s_ldLL; exact rfl; assumption; omega)
 | (apply c_seq)
 | (apply c_reg)
 | (apply c_block)
 | (apply c_skip)
 | (apply c_condT; exact rfl)
 | (with_reducible apply k_c)
    all_goals try (exfalso; omega)
    refine hK1 _ _ _ ⟨by omega, hr' _, hnext.1, hnext.2⟩ (by omega) ?_
    exact hg _
  · obtain rfl : k = n := by omega
    clear hKl
    repeat' first
 | (apply c_nil)
 | (apply s_lss; exact rfl; all_goals (intro _; try (exfalso; omega)))
 | (apply c_seq)
 | (apply c_reg)
 | (apply c_exitH)
 | (apply c_condF; exact rfl)
 | (with_reducible apply k_c)
    refine hK rows hr hv1 hv2 _ _ ?_
    exact gcHP (pre := [x, .int .i64 p, .int .i64 (k : Int)]) (gs := [.int .i64 (i : Int), .int .i64 (k : Int), .int .i64 (i : Int)]) (M := k) hr (by omega) (by omega) (by simp [idFreeL, AV.idFree, fx]) (by simp) rfl
theorem repl_nil : ∀ n : Nat, repl n [AV.nilS] = List.replicate n .nilS
  | 0 => rfl
  | n + 1 => by
    show [AV.nilS] ++ repl n [AV.nilS] = _
    rw [repl_nil n, List.replicate_succ]
    rfl
theorem e_mkBn {call : CallF} {n : Nat} (h : n ≤ most) : evE call [] (.mkB 1 24 [.nilS]) [.int .i64 (n : Int), .int .i64 (n : Int)] = some (.sl 0 1 0 n, HP n []) := by
  have h2 : 0 ≤ (n : Int) ∧ (n : Int) = (n : Int) ∧ (n : Int) ≤ most := ⟨by omega, rfl, by omega⟩
  show (if 0 ≤ (n : Int) ∧ (n : Int) = (n : Int) ∧ (n : Int) ≤ most then some (newBox 1 (n : Int).toNat (repl (n : Int).toNat [.nilS]) []) else none) = _
  rw [if_pos h2]
  simp only [Int.toNat_natCast, newBox, repl_nil]
  simp [HP, refs, rowsH]
def MatB (n : Nat) (p : Int) (b rows : List (List Int)) (i : Nat) : Prop := ∀ u v : Nat, u < i → v < n → getI (getLL rows (u : Int)) (v : Int) = if u = v then deg b.length (ed b) (u + 1) else (p - ed b (u + 1) (v + 1)).tmod p
theorem getLL_app {rows : List (List Int)} {z : List Int} {u : Nat} (h : u < rows.length) : getLL (rows ++ [z]) (u : Int) = getLL rows (u : Int) := by
  rw [getLL_nat, getLL_nat]
  simp [List.getD, List.getElem?_append_left h]
theorem gau_mat {b rows : List (List Int)} {n : Nat} {p : Int} (hB : IsB b) (hbn : b.length = n + 1) (hp : 40 ≤ p) (hr : Rows n rows) (h : MatB n p b rows n) : Gau n p (trN b) 0 rows 1 := by
  have g := gr_of hB
  have hval : ∀ u v : Nat, u < n → v < n → 0 ≤ getI (getLL rows (u : Int)) (v : Int) ∧ getI (getLL rows (u : Int)) (v : Int) < p := fun u v hu hv => by
    rw [h u v hu hv]
    split
    · have := deg_nn g (i := u + 1) (by omega); omega
    · have he := (hB.ed (u + 1) (v + 1) (by omega) (by omega)).1
      have he2 : 0 ≤ ed b (u + 1) (v + 1) ∧ ed b (u + 1) (v + 1) ≤ 3 := ⟨he.1, he.2⟩
      have := tmod_in (p := p) (x := p - ed b (u + 1) (v + 1)) (by omega) (by omega)
      exact ⟨this.1, this.2.1⟩
  refine ⟨hr, hval, ⟨by omega, by omega⟩, ?_⟩
  unfold trN
  rw [hbn, show n + 1 - 1 = n by omega, Nat.sub_zero, Int.one_mul]
  refine det_mod fun u v hu hv => ?_
  unfold blk
  rw [Nat.zero_add, Nat.zero_add, h u v hu hv]
  unfold lap
  by_cases e : u = v
  · subst e
    rw [if_pos rfl, if_pos rfl, deg_wB hB (by omega), hbn, show n + 1 - 1 = n by omega, Int.sub_self]
    exact Int.dvd_zero _
  · rw [if_neg e, if_neg (fun h => e h.symm)]
    have he := (hB.ed (u + 1) (v + 1) (by omega) (by omega)).1
    have he2 : 0 ≤ ed b (u + 1) (v + 1) ∧ ed b (u + 1) (v + 1) ≤ 3 := ⟨he.1, he.2⟩
    obtain ⟨z, hz⟩ := (tmod_in (p := p) (x := p - ed b (u + 1) (v + 1)) (by omega) (by omega)).2.2
    unfold eB
    refine ⟨z - 1, ?_⟩
    rw [Int.mul_sub]
    omega
theorem f61 {x : AV} {b : List (List Int)} {p : Int} (hx : IsLL x b) (hB : IsB b) (hp : 40 ≤ p ∧ p ≤ 2147483647) (hnd : allND p.toNat 16 2 = true) {m : Nat} (hm : 400 ≤ m) :
    evF tab it m 61 [x, .int .i64 p] [] = some (.int .i64 (trN b % p), []) := by
  obtain ⟨m, rfl⟩ : ∃ j, m = j + 1 := ⟨m - 1, by omega⟩
  have fx := hx.free
  have hn1 := hB.n1
  have hn10 := hB.n2
  obtain ⟨n, hbn⟩ : ∃ n, b.length = n + 1 := ⟨b.length - 1, by omega⟩
  have lx : ∀ H, evP H .len [x] = some (.int .i64 ((b.length : Nat) : Int)) := fun H => by cases hx <;> rfl
  have sb : ∀ H, evP H (.bin .sub) [.int .i64 ((b.length : Nat) : Int), .int .i64 1] = some (.int .i64 (n : Int)) := fun H => by
    have e : ((b.length : Nat) : Int) - 1 = (n : Int) := by omega
    simp only [evP, binV, isShift, binInt, Bool.false_eq_true, if_false, if_true, e]
    rw [wrapI (by omega)]
  have mk := fun call => @e_mkBn call n (by unfold most; omega)
  have mkI := fun call H => @e_mkI call H n (by unfold most; omega)
  have e74 := fun (i : Nat) (hi : i < n) H => c74 hx hB.bd (i := i + 1) (by omega) (m := m) (by omega) H
  have hL29 := fun (K0 : KT) (X : Nat → KT) (Rt : KT) (res : R) (env : Env) (H : Heap) (rows : List (List Int)) (hr : Rows n rows) (h : MatB n p b rows n) => L29 (N := m) (m := m) (K0 := K0) (X := X) (Rt := Rt) (res := res) (env := env) (H := H) (n := n) (by omega) (by omega) (by omega) ⟨by omega, hp.2⟩ hnd (gau_mat hB hbn hp.1 hr h)
  have hres : ∀ r : Int, 0 ≤ r ∧ r < p → p ∣ trN b - r → r = trN b % p := fun r h1 h2 => by
    have := Int.emod_emod_of_dvd (trN b) (Int.dvd_refl p)
    rw [← Int.emod_eq_of_lt h1.1 h1.2]
    exact ((Int.emod_emod_of_dvd _ (Int.dvd_refl p)).symm.trans (Int.emod_emod_of_dvd _ (Int.dvd_refl p))).trans (Int.emod_eq_emod_iff_emod_sub_eq_zero.2 (by
      have : p ∣ r - trN b := by obtain ⟨z, hz⟩ := h2; exact ⟨-z, by rw [Int.mul_neg]; omega⟩
      exact Int.emod_eq_zero_of_dvd this))
  have hdeg := fun (i : Nat) (hi : i < n) => deg_nn (gr_of hB) (i := i + 1) (by omega)
  refine f_enter rfl rfl ?_
  generalize trN b % p = res0 at *
  have hfin : ∀ (env : Env) (H : Heap) (r : Int), look env 4 = .int .i64 r → r = res0 → finish 0 [.t 4] env H = some (.int .i64 res0, []) := fun env H r h1 h2 => fin_t h1 rfl (by rw [h2])
  have hLL : ∀ (K0 : KT) (X : Nat → KT) (env : Env) (H : Heap) (rows : List (List Int)) (hr : Rows n rows) (h : MatB n p b rows n), _ := fun K0 X env H rows hr h => hL29 K0 X (finish 0 [.t 4]) (some (.int .i64 res0, [])) env H rows hr h
  clear hL29
  generalize hcall : evF tab it m = call at *
  repeat' first
 | (apply s_mov; exact aW)
 | (apply c_nil)
 | (apply s_pn; exact aO; exact lx _)
 | (apply s_pn; exact aO; exact sb _)
 | (apply s_en; exact aO; exact mk _)
 | (apply s_lenSl; exact rfl)
 | (apply c_seq)
 | (apply c_reg)
 | (apply c_block)
 | (with_reducible apply k_c)
  refine c_loop ?_
  refine loop_gc (σ := Nat × List (List Int)) (fun s => [x, .int .i64 p, .int .i64 (n : Int), .sl 0 1 0 n, .int .i64 (n : Int), .int .i64 (s.1 : Int)]) (fun s => HP n s.2) (fun s => s.1 ≤ n ∧ RowsP s.1 n s.2 ∧ MatB n p b s.2 s.1) (fun s => n - s.1) ?_ _ (0, []) _ _ ⟨by dsimp only; omega, ⟨rfl, fun r hr => by cases hr⟩, fun u v hu hv => by dsimp only at hu; omega⟩ (by show n - 0 < _; omega) (gcHP (pre := [x, .int .i64 p, .int .i64 (n : Int)]) (gs := [.int .i64 (n : Int), .int .i64 0]) (M := n) (i := 0) ⟨rfl, fun r hr => by cases hr⟩ (by omega) (by omega) (by simp [idFreeL, AV.idFree, fx]) (by simp) rfl)
  intro ⟨i, rows⟩ ⟨hi, hr, hv⟩ K hKl
  dsimp only at hi hr hv hKl ⊢
  by_cases hin : i < n
  · have hlen : (HP n rows).length = 1 + i := by simp [HP, rowsH, hr.len]; omega
    have e1 : evE call (HP n rows) (.mkS 1 8 [.int .i64 0]) [.int .i64 (n : Int), .int .i64 (n : Int)] = some (.sl (1 + i) 1 0 n, HP n rows ++ [some (.data (iL (List.replicate n 0)))]) := by rw [mkI, hlen]
    have e2 := fun call => hp_new (call := call) hr hin
    have hr1 : RowsP (i + 1) n (rows ++ [List.replicate n 0]) := ⟨by simp [hr.len], fun r h => by
      rcases List.mem_append.1 h with h | h
      · exact hr.each r h
      · rw [List.mem_singleton.1 h]; simp⟩
    have l1 := hp_ld hr1 (i := i) (by omega)
    have hK1 := fun rows => hKl (i + 1, rows)
    dsimp only at hK1
    have hd := hdeg i hin
    have e74i := e74 i hin
    have hgl : ∀ u : Nat, u < i → getLL (rows ++ [List.replicate n 0]) (u : Int) = getLL rows (u : Int) := fun u hu => getLL_app (by rw [hr.len]; exact hu)
    have hnx : ∀ rows', RowsP (i + 1) n rows' → (∀ u v : Nat, u < i → v < n → getI (getLL rows' (u : Int)) (v : Int) = getI (getLL (rows ++ [List.replicate n 0]) (u : Int)) (v : Int)) → (∀ v : Nat, v < n → getI (getLL rows' (i : Int)) (v : Int) = (p - ed b (i + 1) (v + 1)).tmod p) → MatB n p b (setLL rows' i i (deg b.length (ed b) (i + 1))) (i + 1) := fun rows' h1 h2 h3 u v hu hv' => by
      rw [h1.setget (by omega) hin]
      by_cases c1 : u = i
      · subst c1
        by_cases c2 : v = u
        · rw [if_pos ⟨rfl, c2⟩, if_pos c2.symm]
        · rw [if_neg (fun h => c2 h.2), if_neg (fun h => c2 h.symm)]
          exact h3 v hv'
      · rw [if_neg (fun h => c1 h.1), h2 u v (by omega) hv', hgl u (by omega)]
        exact hv u v (by omega) hv'
    have hB3 := fun (K0 : KT) (X : Nat → KT) (Rt : KT) (res : R) (env : Env) (H : Heap) => LB3 (call := call) (N := m) (K0 := K0) (X := X) (Rt := Rt) (res := res) (env := env) (H := H) (i := i) (by omega) hx hB hbn hin ⟨by omega, hp.2⟩ hr1
    clear hv hLL hKl hres hfin hgl hdeg
    repeat' first
 | (apply s_mov; exact aW)
 | (apply c_nil)
 | (apply s_lss; exact rfl; all_goals (intro _; try (exfalso; omega)))
 | (apply s_en; exact aO; exact e1)
 | (apply s_pn; exact aO; exact p_ixO hin)
 | (apply s_st; exact aO; exact (e2 _))
 | (apply s_pn; exact aO; exact l1)
 | (apply s_lenSl; exact rfl)
 | (apply c_seq)
 | (apply c_reg)
 | (apply c_block)
 | (apply c_skip)
 | (apply c_condT; exact rfl)
 | (with_reducible apply k_c)
    refine c_loop ?_
    refine hB3 _ _ _ _ _ _ ?_ ?_
    · exact gcHP (pre := [x, .int .i64 p, .int .i64 (n : Int)]) (gs := [.int .i64 (i : Int), .int .i64 (n : Int), .int .i64 (i : Int), .int .i64 (n : Int), .int .i64 0]) (M := n) hr1 (by omega) (by omega) (by simp [idFreeL, AV.idFree, fx]) (by simp) rfl
    · intro rows' hr' h2 h3 env' H' hgc
      refine k_c (c_pre hgc ?_)
      have l2 := hp_ld hr' (i := i) (by omega)
      have st := fun (v : Int) call => hp_st (call := call) (x := v) hr' (i := i) (by omega) hin
      have hr2 := hr'.set (x := deg b.length (ed b) (i + 1)) (j := i) (i := i) (by omega)
      have hM := hnx rows' hr' h2 h3
      repeat' first
 | (apply s_mov; exact aW)
 | (apply c_nil)
 | (apply s_add; exact rfl; omega)
 | (apply s_cn; exact aO; exact e74i _)
 | (apply s_pn; exact aO; exact p_ixO hin)
 | (apply s_pn; exact aO; exact l2)
 | (apply s_st; exact aO; exact (st _ _))
 | (apply c_reg)
 | (with_reducible apply k_c)
      refine c_pre (gcHP (pre := [x, .int .i64 p, .int .i64 (n : Int)]) (gs := [.int .i64 (n : Int), .int .i64 (i : Int)]) (M := n) hr2 (by omega) (by omega) (by simp [idFreeL, AV.idFree, fx]) (by simp) rfl) ?_
      repeat' first
 | (apply s_mov; exact aW)
 | (apply c_nil)
 | (apply s_add; exact rfl; omega)
 | (apply c_reg)
      refine hK1 _ _ _ ⟨by omega, hr2, hM⟩ (by omega) ?_
      exact gcHP (pre := [x, .int .i64 p, .int .i64 (n : Int)]) (gs := [.int .i64 (n : Int), .int .i64 ((i + 1 : Nat) : Int)]) (M := n) hr2 (by omega) (by omega) (by simp [idFreeL, AV.idFree, fx]) (by simp) rfl
  · obtain rfl : i = n := by omega
    have hrr : Rows i rows := ⟨hr.len, hr.each⟩
    have hg0 := hp_full hrr
    have hLr := fun K0 X env H => hLL K0 X env H rows hrr hv
    clear hKl hv hLL hdeg e74
    subst hcall
    repeat' first
 | (apply c_nil)
 | (apply s_lss; exact rfl; all_goals (intro _; try (exfalso; omega)))
 | (apply c_seq)
 | (apply c_reg)
 | (apply c_exitH)
 | (apply c_condF; exact rfl)
 | (with_reducible apply k_c)
    refine c_pre (gcHP (pre := [.int .i64 p, .int .i64 (i : Int)]) (gs := []) (M := i) hr (by omega) (by omega) rfl (by simp) rfl) ?_
    rw [hg0]
    repeat' first
 | (apply s_mov; exact aW)
 | (apply c_nil)
 | (apply c_seq)
 | (apply c_reg)
 | (apply c_block)
 | (with_reducible apply k_c)
    refine c_loop ?_
    refine hLr _ _ _ _ ?_ ?_ ?_
    · exact gcHB (pre := [.int .i64 p, .int .i64 (i : Int)]) (gs := [.int .i64 1, .int .i64 (i : Int), .int .i64 0]) (M := i) hrr (by omega) rfl (by simp) rfl
    · intro hd env' H' hl
      exact hfin _ _ 0 hl (hres 0 ⟨by omega, by omega⟩ hd)
    · intro rows' out hG env' H' hgc
      refine k_c (c_pre hgc ?_)
      have hd := hG.d
      rw [Nat.sub_self] at hd
      have e1 : det 0 (blk i rows') = 1 := rfl
      rw [e1, Int.mul_one] at hd
      repeat' first
 | (apply s_mov; exact aW)
 | (apply c_nil)
 | (apply c_seq)
 | (apply c_reg)
 | (apply c_ret)
 | (with_reducible apply k_c)
      exact hfin _ _ out rfl (hres out hG.o hd)
end Go.AM.Ch
