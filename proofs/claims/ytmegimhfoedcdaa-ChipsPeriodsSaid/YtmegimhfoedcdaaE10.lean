/- A part of the proof: D5 G1 U40 U41 U63 E10. -/
import Derived.Test.YtmegimhfoedcdaaU34
import Derived.Test.YtmegimhfoedcdaaU39
import Derived.Test.YtmegimhfoedcdaaM3
set_option linter.unusedSectionVars false
set_option linter.unusedVariables false
set_option linter.unusedSimpArgs false
namespace Go.AM.Ch
set_option maxHeartbeats 4000000
/-! ### the number of trees of a board -/
def wB (b : List (List Int)) (v : Nat) : Int := ed b 0 (v + 1)
def eB (b : List (List Int)) (v u : Nat) : Int := ed b (v + 1) (u + 1)
/-- the number of trees -/
def trN (b : List (List Int)) : Int := det (b.length - 1) (lap (b.length - 1) (wB b) (eB b))
theorem wg_of {b : List (List Int)} (hB : IsB b) : WG (b.length - 1) (wB b) (eB b) := by
  have g := gr_of hB
  have hn := hB.n1
  exact ⟨fun v hv => g.nn _ _ (by omega) (by omega), fun v u hv hu => g.nn _ _ (by omega) (by omega), fun v u hv hu => g.sy _ _ (by omega) (by omega), fun v hv => (hB.ed (v + 1) (v + 1) (by omega) (by omega)).2.2 rfl⟩
theorem deg_wB {b : List (List Int)} (hB : IsB b) {v : Nat} (hv : v < b.length - 1) : deg b.length (ed b) (v + 1) = wB b v + sumTo (fun t => eB b v t) (b.length - 1) := by
  have g := gr_of hB
  have hn := hB.n1
  have e : deg b.length (ed b) (v + 1) = sumTo (fun j => ed b (v + 1) j) (b.length - 1 + 1) := by unfold deg; congr 1; omega
  rw [e, sumTo_front', g.sy (v + 1) 0 (by omega) (by omega)]
  rfl
theorem red_ss {b : List (List Int)} (hB : IsB b) {c : Nat → Int} : Red b.length (ed b) 0 c ↔ (∀ v, v < b.length - 1 → 0 ≤ c (v + 1)) ∧ SS (b.length - 1) (wB b) (eB b) (fun v => c (v + 1)) := by
  have g := gr_of hB
  have hn := hB.n1
  have hout : ∀ S : Nat → Bool, S 0 = false → ∀ v, v < b.length - 1 → outE b.length (ed b) S (v + 1) = wB b v + outE (b.length - 1) (eB b) (fun i => S (i + 1)) v := fun S hS v hv => by
    have e : outE b.length (ed b) S (v + 1) = sumTo (fun j => if S j = true then 0 else ed b (v + 1) j) (b.length - 1 + 1) := by unfold outE; congr 1; omega
    rw [e, sumTo_front', if_neg (by rw [hS]; decide), g.sy (v + 1) 0 (by omega) (by omega)]
    rfl
  constructor
  · rintro ⟨h1, h2⟩
    refine ⟨fun v hv => h1 _ (by omega) (by omega), fun S ⟨v, hv, hSv⟩ => ?_⟩
    obtain ⟨S2, s1, s2⟩ : ∃ S2 : Nat → Bool, S2 0 = false ∧ ∀ i, S2 (i + 1) = S i := ⟨fun i => match i with
      | 0 => false
      | i + 1 => S i, rfl, fun _ => rfl⟩
    obtain ⟨x, x1, x2, x3⟩ := h2 S2 s1 ⟨v + 1, by omega, by rw [s2]; exact hSv⟩
    cases x with
    | zero => rw [s1] at x2; cases x2
    | succ x =>
      rw [s2] at x2
      rw [hout S2 s1 x (by omega), funext s2] at x3
      exact ⟨x, by omega, x2, x3⟩
  · rintro ⟨h1, h2⟩
    refine ⟨fun v hv h0 => ?_, fun S hS ⟨v, hv, hSv⟩ => ?_⟩
    · obtain ⟨v, rfl⟩ : ∃ j, v = j + 1 := ⟨v - 1, by omega⟩
      exact h1 v (by omega)
    · cases v with
      | zero => rw [hS] at hSv; cases hSv
      | succ v =>
        obtain ⟨x, x1, x2, x3⟩ := h2 (fun i => S (i + 1)) ⟨v, by omega, hSv⟩
        exact ⟨x + 1, by omega, x2, by rw [hout S hS x x1]; exact x3⟩
theorem red_zero {b : List (List Int)} (hB : IsB b) : Red b.length (ed b) 0 (fun _ => 0) := by
  obtain ⟨h1, h2⟩ := redL_red hB [] hB.n1
  refine ⟨fun _ _ _ => Int.le_refl _, fun S hS hex => ?_⟩
  obtain ⟨v, a, c, d⟩ := h2 S hS hex
  refine ⟨v, a, c, ?_⟩
  have h0 : v ≠ 0 := fun e => by subst e; rw [hS] at c; cases c
  have := h1 v a h0
  show (0 : Int) < _
  omega
/-- the reduced lists, without place 0 -/
noncomputable def redsL (b : List (List Int)) : List (List Int) := ssL 36 (b.length - 1) (wB b) (eB b)
theorem trN_len {b : List (List Int)} (hB : IsB b) : trN b = ((redsL b).length : Int) := by
  have g := gr_of hB
  have hn := hB.n1
  have h := wg_of hB
  unfold trN redsL
  rw [det_nSS 36 (b.length - 1) (sumTo (wB b) (b.length - 1)).toNat h (fun v hv => by
    rw [← deg_wB hB hv]
    exact (deg_nn g (by omega)).2) (by have := sumTo_nn h.w0; omega), len_ssL]
theorem allC_len (K : Nat) : ∀ m, (allC K m).length = K ^ m
  | 0 => rfl
  | m + 1 => by
    unfold allC
    rw [List.length_flatMap]
    have e : (List.range K).map (fun (x : Nat) => ((allC K m).map fun l => (x : Int) :: l).length) = (List.range K).map fun _ => K ^ m := List.map_congr_left fun x _ => by rw [List.length_map, allC_len K m]
    have e2 : ∀ L : List Nat, (L.map fun _ => K ^ m).sum = L.length * K ^ m := fun L => by
      induction L with
      | nil => simp
      | cons a L ih => simp only [List.map_cons, List.sum_cons, List.length_cons, ih]; rw [Nat.add_mul]; omega
    rw [e, e2, List.length_range, Nat.pow_succ, Nat.mul_comm]
theorem trN_le {b : List (List Int)} (hB : IsB b) : 1 ≤ trN b ∧ trN b ≤ 101559956668416 := by
  have hn := hB.n2
  rw [trN_len hB]
  constructor
  · have h0 := (red_ss hB).1 (red_zero hB)
    have hm : List.replicate (b.length - 1) (0 : Int) ∈ redsL b := mem_ssL.2 ⟨⟨by simp, fun x hx => by have := (List.mem_replicate.1 hx).2; omega⟩, by
      have e : gf (List.replicate (b.length - 1) 0) = fun _ => 0 := by
        funext i
        show getI _ (i : Int) = 0
        rw [getI_nat]
        by_cases h : i < b.length - 1
        · simp [List.getD, h]
        · simp [List.getD, h]
      rw [e]; exact h0.2⟩
    have := List.length_pos_of_mem hm
    omega
  · have h1 : (redsL b).length ≤ (allC 36 (b.length - 1)).length := by unfold redsL ssL; exact List.length_filter_le _ _
    rw [allC_len] at h1
    have h2 : 36 ^ (b.length - 1) ≤ 36 ^ 9 := Nat.pow_le_pow_right (by omega) (by omega)
    have h3 : (36 : Nat) ^ 9 = 101559956668416 := by decide
    omega
/-- a list of sum 0, from all but place 0 -/
def dv (m : Nat) (l : List Int) (v : Nat) : Int := match v with
  | 0 => - sumTo (gf l) m
  | v + 1 => gf l v
theorem dv_sum (m : Nat) (l : List Int) : sumTo (dv m l) (m + 1) = 0 := by
  rw [sumTo_front']
  show - sumTo (gf l) m + sumTo (gf l) m = 0
  omega
/-- the number of trees times any list of sum 0 is of the value of zeros -/
theorem trN_kill {b : List (List Int)} (hB : IsB b) {s : List Int} (hs : sumTo (gf s) b.length = 0) : ∃ T : Nat → Int, ∀ v, v < b.length → trN b * gf s v = net b.length (ed b) T v := by
  have g := gr_of hB
  have hn1 := hB.n1; have hn2 := hB.n2
  rw [trN_len hB]
  -- a reduced list and s
  let A : List Int → List Int := fun l => (List.range b.length).map fun v => dv (b.length - 1) l v + gf s v
  have hAl : ∀ l, (A l).length = b.length := fun l => by simp [A]
  have hAg : ∀ l v, v < b.length → gf (A l) v = dv (b.length - 1) l v + gf s v := fun l v hv => by
    show getI _ (v : Int) = _
    rw [getI_nat]; simp [A, List.getD, hv]
  let R : List Int → List Int := fun l => redL b (A l) 0
  have hRr : ∀ l, Red b.length (ed b) 0 (gf (R l)) := fun l => redL_red hB (A l) hn1
  have hRa : ∀ l v, v < b.length → gf (R l) v = ap b.length (ed b) (gf (A l)) (gf (redT b (A l) 0)) v := fun l v hv => apl_ap hB _ _ hv
  have hdv0 : ∀ l, sumTo (dv (b.length - 1) l) b.length = 0 := fun l => by
    have := dv_sum (b.length - 1) l
    rwa [show b.length - 1 + 1 = b.length by omega] at this
  have hRs : ∀ l, sumTo (gf (R l)) b.length = 0 := fun l => by
    have e1 : sumTo (gf (R l)) b.length = sumTo (gf (A l)) b.length := by
      rw [← ap_sum g (gf (A l)) (gf (redT b (A l) 0))]
      exact sumTo_congr (hRa l)
    have e2 : sumTo (gf (A l)) b.length = sumTo (fun v => dv (b.length - 1) l v + gf s v) b.length := sumTo_congr (hAg l)
    rw [e1, e2, sumTo_add, hdv0, hs]
    rfl
  let φ : List Int → List Int := fun l => (List.range (b.length - 1)).map fun v => gf (R l) (v + 1)
  have hφl : ∀ l, (φ l).length = b.length - 1 := fun l => by simp [φ]
  have hφg : ∀ l v, v < b.length - 1 → gf (φ l) v = gf (R l) (v + 1) := fun l v hv => by
    show getI _ (v : Int) = _
    rw [getI_nat]; simp [φ, List.getD, hv]
  have hdφ : ∀ l v, v < b.length → dv (b.length - 1) (φ l) v = gf (R l) v := fun l v hv => by
    cases v with
    | zero =>
      have h1 := hRs l
      rw [show b.length = b.length - 1 + 1 by omega, sumTo_front'] at h1
      have h2 : sumTo (gf (φ l)) (b.length - 1) = sumTo (fun j => gf (R l) (j + 1)) (b.length - 1) := sumTo_congr (hφg l)
      show - sumTo (gf (φ l)) (b.length - 1) = _
      omega
    | succ v => exact hφg l v (by omega)
  have hmem : ∀ l, φ l ∈ redsL b := fun l => by
    obtain ⟨r1, r2⟩ := (red_ss hB).1 (hRr l)
    refine mem_ssL.2 ⟨⟨hφl l, fun x hx => ?_⟩, fun S hex => ?_⟩
    · obtain ⟨v, hv, rfl⟩ := List.mem_map.1 hx
      have hv := List.mem_range.1 hv
      have := red_lt g (hRr l) (v := v + 1) (by omega) (by omega)
      omega
    · obtain ⟨v, a, c, d⟩ := r2 S hex
      exact ⟨v, a, c, by rw [hφg l v a]; exact d⟩
  have hred : ∀ l, l ∈ redsL b → Red b.length (ed b) 0 (dv (b.length - 1) l) := fun l hl => by
    obtain ⟨⟨h1, h2⟩, h3⟩ := mem_ssL.1 hl
    refine (red_ss hB).2 ⟨fun v hv => ?_, h3⟩
    show 0 ≤ getI l (v : Int)
    rw [getI_nat]
    have hvl : v < l.length := by omega
    have := h2 _ (List.getElem_mem hvl)
    simpa [List.getD, hvl] using this.1
  have hinj : ∀ a ∈ redsL b, ∀ c ∈ redsL b, φ a = φ c → a = c := fun a ha c hc e => by
    have hR : ∀ v, v < b.length → gf (R a) v = gf (R c) v := fun v hv => by rw [← hdφ a v hv, ← hdφ c v hv, e]
    have hu := fun v hv => (red_uniq g hn1 (hred a ha) (hred c hc) (t := fun j => gf (redT b (A a) 0) j + (- gf (redT b (A c) 0) j)) (fun v hv => by
      have h1 := hR v hv
      rw [hRa a v hv, hRa c v hv] at h1
      unfold ap at h1 ⊢
      rw [net_add, net_neg]
      rw [hAg a v hv, hAg c v hv] at h1
      omega) v hv).1
    obtain ⟨⟨la, -⟩, -⟩ := mem_ssL.1 ha
    obtain ⟨⟨lc, -⟩, -⟩ := mem_ssL.1 hc
    refine ext_getI (by omega) fun i hi => ?_
    have := hu (i + 1) (by omega)
    exact this.symm
  have hperm : ((redsL b).map φ).Perm (redsL b) := perm_of_sub (nodup_mapI (nodup_ssL _ _ _ _) hinj) (fun x hx => by
    obtain ⟨l, -, rfl⟩ := List.mem_map.1 hx
    exact hmem l) (List.length_map _)
  refine ⟨fun j => lsum ((redsL b).map fun l => gf (redT b (A l) 0) j), fun v hv => ?_⟩
  have h1 := lsum_perm (hperm.map fun l => dv (b.length - 1) l v)
  rw [List.map_map] at h1
  have h2 : lsum ((redsL b).map ((fun l => dv (b.length - 1) l v) ∘ φ)) = lsum ((redsL b).map fun l => (dv (b.length - 1) l v + gf s v) - net b.length (ed b) (gf (redT b (A l) 0)) v) := lsum_congr fun l _ => by
    show dv (b.length - 1) (φ l) v = _
    rw [hdφ l v hv, hRa l v hv]
    unfold ap
    rw [hAg l v hv]
  rw [h2, lsum_sub, lsum_add, lsum_const] at h1
  rw [net_lsum]
  omega
end Go.AM.Ch

set_option linter.unusedSectionVars false
set_option linter.unusedVariables false
set_option linter.unusedSimpArgs false
namespace Go.AM.Ch
set_option maxHeartbeats 4000000
/-! ### the order of a list of sum 0 -/
/-- of the value of zeros -/
def Eq0 (b : List (List Int)) (f : Nat → Int) : Prop := ∃ T : Nat → Int, ∀ v, v < b.length → f v = net b.length (ed b) T v
theorem Eq0.congr {b : List (List Int)} {f g : Nat → Int} (h : Eq0 b f) (e : ∀ v, v < b.length → f v = g v) : Eq0 b g := by
  obtain ⟨T, hT⟩ := h
  exact ⟨T, fun v hv => by rw [← e v hv]; exact hT v hv⟩
theorem Eq0.add {b : List (List Int)} {f g : Nat → Int} (h : Eq0 b f) (h' : Eq0 b g) : Eq0 b (fun v => f v + g v) := by
  obtain ⟨T, hT⟩ := h
  obtain ⟨U, hU⟩ := h'
  exact ⟨fun j => T j + U j, fun v hv => by dsimp only; rw [net_add, hT v hv, hU v hv]⟩
theorem Eq0.mul {b : List (List Int)} {f : Nat → Int} (k : Int) (h : Eq0 b f) : Eq0 b (fun v => k * f v) := by
  obtain ⟨T, hT⟩ := h
  exact ⟨fun j => k * T j, fun v hv => by dsimp only; rw [net_mul, hT v hv]⟩
theorem Eq0.zero (b : List (List Int)) : Eq0 b (fun _ => 0) := ⟨fun _ => 0, fun v _ => (net_const _ _ _ _).symm⟩
theorem Eq0.sub {b : List (List Int)} {f g : Nat → Int} (h : Eq0 b f) (h' : Eq0 b g) : Eq0 b (fun v => f v - g v) := by
  refine (h.add (h'.mul (-1))).congr fun v _ => ?_
  omega
/-- the reduced list is zeros -/
theorem zer_iff {b : List (List Int)} (hB : IsB b) (l : List Int) : (∀ v, v < b.length → gf (redL b l 0) v = 0) ↔ Eq0 b (gf l) := by
  have g := gr_of hB
  have hn := hB.n1
  have hap : ∀ v, v < b.length → gf (redL b l 0) v = ap b.length (ed b) (gf l) (gf (redT b l 0)) v := fun v hv => apl_ap hB _ _ hv
  constructor
  · intro h
    refine ⟨gf (redT b l 0), fun v hv => ?_⟩
    have h1 := h v hv
    rw [hap v hv] at h1
    unfold ap at h1
    omega
  · rintro ⟨T, hT⟩ v hv
    refine (red_uniq g hn (red_zero hB) (t := fun j => gf (redT b l 0) j + - T j) (redL_red hB l hn) (fun v hv => ?_) v hv).1
    rw [hap v hv]
    unfold ap
    rw [net_add, net_neg, hT v hv]
    dsimp only
    omega
/-- reduced, and of sum 0 -/
structure RZ (b : List (List Int)) (l : List Int) : Prop where
  len : l.length = b.length
  red : Red b.length (ed b) 0 (gf l)
  sum : sumTo (gf l) b.length = 0
theorem redL_sum {b : List (List Int)} (hB : IsB b) (l : List Int) : sumTo (gf (redL b l 0)) b.length = sumTo (gf l) b.length := by
  rw [← ap_sum (gr_of hB) (gf l) (gf (redT b l 0))]
  exact sumTo_congr fun v hv => apl_ap hB _ _ hv
theorem rz_of {b : List (List Int)} (hB : IsB b) {l : List Int} (h : sumTo (gf l) b.length = 0) : RZ b (redL b l 0) := ⟨redL_len _ _ _, redL_red hB l hB.n1, by rw [redL_sum hB, h]⟩
theorem redL_eq0 {b : List (List Int)} (hB : IsB b) (l : List Int) : Eq0 b (fun v => gf l v - gf (redL b l 0) v) := ⟨gf (redT b l 0), fun v hv => by
  have e : gf (redL b l 0) v = ap b.length (ed b) (gf l) (gf (redT b l 0)) v := apl_ap hB _ _ hv
  dsimp only
  rw [e]
  unfold ap
  omega⟩
theorem RZ.val {b : List (List Int)} (hB : IsB b) {l : List Int} (h : RZ b l) : (∀ v : Nat, v < b.length → v ≠ 0 → 0 ≤ getI l (v : Int) ∧ getI l (v : Int) ≤ 35) ∧ -400 ≤ getI l ((0 : Nat) : Int) ∧ getI l ((0 : Nat) : Int) ≤ 0 := by
  have hn1 := hB.n1; have hn2 := hB.n2
  have h1 : ∀ v : Nat, v < b.length → v ≠ 0 → 0 ≤ gf l v ∧ gf l v ≤ 35 := fun v hv h0 => by
    have a := h.red.1 v hv h0
    have c := red_lt (gr_of hB) h.red hv h0
    omega
  refine ⟨h1, ?_⟩
  have hs := h.sum
  rw [show b.length = b.length - 1 + 1 by omega, sumTo_front'] at hs
  have hb := sumTo_nn (f := fun j => gf l (j + 1)) (n := b.length - 1) fun j hj => (h1 (j + 1) (by omega) (by omega)).1
  have hc := sumTo_mono (f := fun j => gf l (j + 1)) (g := fun _ => 35) (n := b.length - 1) fun j hj => (h1 (j + 1) (by omega) (by omega)).2
  have hd : ∀ n : Nat, sumTo (fun _ => (35 : Int)) n = n * 35 := fun n => by
    induction n with
    | zero => rfl
    | succ n ih => show sumTo (fun _ => (35 : Int)) n + 35 = _; rw [ih]; push_cast; omega
  rw [hd] at hc
  show -400 ≤ gf l 0 ∧ gf l 0 ≤ 0
  omega
/-- how often until zeros -/
theorem ord_ex {b : List (List Int)} (hB : IsB b) {s : List Int} (hs : sumTo (gf s) b.length = 0) : ∃ o : Nat, 1 ≤ o ∧ ∀ k : Int, Eq0 b (fun v => k * gf s v) ↔ (o : Int) ∣ k := by
  have ht := trN_le hB
  have hk : Eq0 b (fun v => trN b * gf s v) := trN_kill hB hs
  have hex : ∃ n : Nat, 1 ≤ n ∧ Eq0 b (fun v => (n : Int) * gf s v) := ⟨(trN b).toNat, by omega, by rw [Int.toNat_of_nonneg (by omega)]; exact hk⟩
  have hmin : ∀ n : Nat, (1 ≤ n ∧ Eq0 b (fun v => (n : Int) * gf s v)) → ∃ o : Nat, (1 ≤ o ∧ Eq0 b (fun v => (o : Int) * gf s v)) ∧ ∀ r : Nat, r < o → ¬ (1 ≤ r ∧ Eq0 b (fun v => (r : Int) * gf s v)) := fun n => by
    induction n using Nat.strongRecOn with
    | _ n ih =>
      intro hn
      by_cases h : ∃ r, r < n ∧ (1 ≤ r ∧ Eq0 b (fun v => (r : Int) * gf s v))
      · obtain ⟨r, h1, h2⟩ := h
        exact ih r h1 h2
      · exact ⟨n, hn, fun r hr h2 => h ⟨r, hr, h2⟩⟩
  obtain ⟨n, hn⟩ := hex
  obtain ⟨o, ⟨o1, o2⟩, o3⟩ := hmin n hn
  refine ⟨o, o1, fun k => ⟨fun h => ?_, fun ⟨z, hz⟩ => ?_⟩⟩
  · have h1 : Eq0 b (fun v => (k % (o : Int)) * gf s v) := by
      refine (h.sub (o2.mul (k / (o : Int)))).congr fun v _ => ?_
      have e := Int.mul_ediv_add_emod k (o : Int)
      have e2 : k % (o : Int) = k - (k / (o : Int)) * (o : Int) := by rw [Int.mul_comm (k / (o : Int))]; omega
      rw [e2, Int.sub_mul, Int.mul_assoc]
    have h2 := Int.emod_nonneg k (show (o : Int) ≠ 0 by omega)
    have h3 := Int.emod_lt_of_pos k (show (0 : Int) < o by omega)
    have h4 := o3 (k % (o : Int)).toNat (by omega)
    rw [Int.toNat_of_nonneg h2] at h4
    apply Int.dvd_of_emod_eq_zero
    apply Classical.byContradiction
    intro hne
    exact h4 ⟨by omega, h1⟩
  · refine (o2.mul z).congr fun v _ => ?_
    rw [hz, ← Int.mul_assoc, Int.mul_comm z]
noncomputable def ordS (b : List (List Int)) (s : List Int) : Nat := open Classical in if h : ∃ o : Nat, 1 ≤ o ∧ ∀ k : Int, Eq0 b (fun v => k * gf s v) ↔ (o : Int) ∣ k then Classical.choose h else 0
theorem ordS_spec {b : List (List Int)} (hB : IsB b) {s : List Int} (hs : sumTo (gf s) b.length = 0) : 1 ≤ ordS b s ∧ ∀ k : Int, Eq0 b (fun v => k * gf s v) ↔ (ordS b s : Int) ∣ k := by
  have h := ord_ex hB hs
  unfold ordS
  rw [dif_pos h]
  exact Classical.choose_spec h
theorem ordS_tr {b : List (List Int)} (hB : IsB b) {s : List Int} (hs : sumTo (gf s) b.length = 0) : (ordS b s : Int) ∣ trN b := ((ordS_spec hB hs).2 _).1 (trN_kill hB hs)
theorem ordS_red {b : List (List Int)} (hB : IsB b) {s : List Int} (hs : sumTo (gf s) b.length = 0) (k : Int) : Eq0 b (fun v => k * gf (redL b s 0) v) ↔ (ordS b s : Int) ∣ k := by
  rw [← (ordS_spec hB hs).2 k]
  have h := (redL_eq0 hB s).mul k
  constructor
  · intro h2
    refine (h.add h2).congr fun v _ => ?_
    show k * (gf s v - gf (redL b s 0) v) + k * gf (redL b s 0) v = _
    rw [Int.mul_sub]; omega
  · intro h2
    refine (h2.sub h).congr fun v _ => ?_
    show k * gf s v - k * (gf s v - gf (redL b s 0) v) = _
    rw [Int.mul_sub]; omega
/-! ### the least divisor that is left, plain -/
structure Pd (o n q rest : Nat) : Prop where
  t : ∃ t, n = o * t ∧ t ∣ rest
  r1 : 1 ≤ rest
  q2 : 2 ≤ q
  nd : ∀ d, 2 ≤ d → d < q → ¬ d ∣ rest
theorem Pd.jump {o n q rest : Nat} (h : Pd o n q rest) (hr : 1 < rest) (hq : rest < q * q) : Pd o n rest rest := by
  refine ⟨h.t, h.r1, by omega, fun d h1 h2 h3 => ?_⟩
  obtain ⟨e, he⟩ := h3
  have a := h.nd d
  have c := h.nd e
  have hd : q ≤ d := Nat.le_of_not_lt fun hl => a h1 hl ⟨e, he⟩
  have he2 : 2 ≤ e := by
    rcases (by omega : e = 0 ∨ e = 1 ∨ 2 ≤ e) with rfl | rfl | h
    · omega
    · omega
    · exact h
  have hee : q ≤ e := Nat.le_of_not_lt fun hl => c he2 hl ⟨d, by rw [Nat.mul_comm]; exact he⟩
  have := Nat.mul_le_mul hd hee
  omega
theorem Pd.down {o n q rest : Nat} (h : Pd o n q rest) (ho1 : 1 ≤ o) (hq : q ∣ rest) : (q ∣ n → o ∣ n / q → Pd o (n / q) q (rest / q)) ∧ (¬ (q ∣ n ∧ o ∣ n / q) → Pd o n q (rest / q)) := by
  obtain ⟨r, hr⟩ := hq
  have q2 := h.q2
  have hrq : rest / q = r := by rw [hr]; exact Nat.mul_div_cancel_left r (by omega)
  have hr1 : 1 ≤ r := by
    have := h.r1
    rcases Nat.eq_zero_or_pos r with e | e
    · rw [e] at hr; omega
    · exact e
  have hnd : ∀ d, 2 ≤ d → d < q → ¬ d ∣ r := fun d h1 h2 h3 => h.nd d h1 h2 (by rw [hr]; exact Nat.dvd_trans h3 ⟨q, Nat.mul_comm _ _⟩)
  obtain ⟨t, ht, htr⟩ := h.t
  rw [hrq]
  constructor
  · rintro ⟨a, ha⟩ ho
    have e : n / q = a := by rw [ha]; exact Nat.mul_div_cancel_left a (by omega)
    rw [e] at ho ⊢
    obtain ⟨c, hc⟩ := ho
    refine ⟨⟨c, hc, ?_⟩, hr1, q2, hnd⟩
    have e1 : o * t = o * (q * c) := by rw [← ht, ha, hc, Nat.mul_left_comm]
    have e2 : t = q * c := Nat.eq_of_mul_eq_mul_left (by omega) e1
    obtain ⟨w, hw⟩ := htr
    rw [e2, hr, Nat.mul_assoc] at hw
    exact ⟨w, Nat.eq_of_mul_eq_mul_left (by omega) hw⟩
  · intro hno
    refine ⟨⟨t, ht, ?_⟩, hr1, q2, hnd⟩
    have hqt : ¬ q ∣ t := fun ⟨c, hc⟩ => hno ⟨⟨o * c, by rw [ht, hc, Nat.mul_left_comm]⟩, by
      have : n / q = o * c := by rw [ht, hc, Nat.mul_left_comm]; exact Nat.mul_div_cancel_left _ (by omega)
      rw [this]; exact ⟨c, rfl⟩⟩
    have hg : Nat.gcd t q = 1 := by
      apply Classical.byContradiction
      intro hg
      have g1 : Nat.gcd t q ∣ q := Nat.gcd_dvd_right _ _
      have g2 : Nat.gcd t q ∣ t := Nat.gcd_dvd_left _ _
      have g3 : 0 < Nat.gcd t q := Nat.gcd_pos_of_pos_right _ (by omega)
      have g4 := Nat.le_of_dvd (by omega) g1
      rcases Nat.lt_or_ge (Nat.gcd t q) q with c | c
      · exact h.nd _ (by omega) c (Nat.dvd_trans g2 htr)
      · have : Nat.gcd t q = q := by omega
        rw [this] at g2
        exact hqt g2
    rw [hr] at htr
    exact Nat.Coprime.dvd_of_dvd_mul_left hg htr
theorem Pd.next {o n q rest : Nat} (h : Pd o n q rest) (hq : ¬ q ∣ rest) : Pd o n (q + 1) rest := ⟨h.t, h.r1, by have := h.q2; omega, fun d h1 h2 h3 => by
  rcases Nat.lt_or_ge d q with c | c
  · exact h.nd d h1 c h3
  · have : d = q := by omega
    exact hq (this ▸ h3)⟩
theorem Pd.done {o n q : Nat} (h : Pd o n q 1) : n = o := by
  obtain ⟨t, ht, h1⟩ := h.t
  have : t = 1 := Nat.dvd_one.1 h1
  rw [ht, this, Nat.mul_one]
end Go.AM.Ch

set_option linter.unusedSectionVars false
set_option linter.unusedVariables false
set_option linter.unusedSimpArgs false
namespace Go.AM.Ch
attribute [local go_sem] gc subHeap reach_skip ren_free reach_new reach_newp reach_end rangeL roots boxCells nodupB posOf renL AV.ren pickO renH renO looks look bindEnv envOf reach_int reach_bool reach_nilS reach_rd putRow cells_sl cells_int cells_bool cells_nilS cells_rd cells_agg reach_agg reach_tup idFreeL idf_sl idf_ptr idf_int idf_bool idf_nilS idf_rd reach_fn reach_mp cells_fn cells_ptr cells_mp idf_mp idf_fn idf_agg idf_tup
set_option maxHeartbeats 8000000
theorem p_mul2 {H : Heap} {a : Int} (h : -4611686018427387904 ≤ a ∧ a < 4611686018427387904) : evP H (.bin .mul) [.int .i64 2, .int .i64 a] = some (.int .i64 (2 * a)) := p_mul (by omega)
/-- reduce, given that it does what it should on the half -/
theorem f54_core {b : List (List Int)} (hB : IsB b) {q : Nat} (hq : q < b.length) {x y : AV} {l : List Int} (hx : IsLL x b) (hy : IsL y l) (hln : l.length = b.length) (hb : ∀ v : Nat, v < b.length → -1099511627776 ≤ getI l (v : Int) ∧ getI l (v : Int) ≤ 1099511627776)
    {m : Nat} (hm : smK ≤ m) (hrec : ¬ (∀ v : Nat, v < b.length → (getI l (v : Int)).tdiv 2 = 0) → ∀ (args : List AV) (H : Heap), frzL H 40 args = some [x, .rd 1 b.length (iL (halfL l)), .int .i64 (q : Int)] → callPure (evF tab it m) true 54 args H = some (.rd 1 b.length (iL (redT b (halfL l) q)), H)) :
    evF tab it (m + 1) 54 [x, y, .int .i64 (q : Int)] [] = some (.sl 0 1 0 b.length, [some (.data (iL (redT b l q)))]) := by
  have fx := hx.free; have fy := hy.free
  have hn1 := hB.n1; have hn2 := hB.n2
  have hbd := hB.bd
  have hm2 : 2300 ≤ m := by have := smK_big; omega
  have ly : ∀ H, evP H .len [y] = some (.int .i64 ((b.length : Nat) : Int)) := fun H => by rw [← hln]; exact p_lenI hy
  have mk := fun call H => @e_mkI call H b.length (by unfold most; omega)
  have hhl := halfL_len l
  rw [hln] at hhl
  have hhg := fun (v : Nat) (hv : v < b.length) => halfL_get (l := l) (v := v) (by omega)
  obtain ⟨hs1, hs2, hs3⟩ := redT_ok hB (halfL l) hq
  have hsb := redT_le hB (l := halfL l) hq (M := 1099511627776) (by decide) fun v hv _ => by
    rw [hhg v hv]
    have := hb v hv
    have := tdiv2 (getI l (v : Int))
    omega
  have is := rd_isL hs1
  have hnear := fun (Z : List Int) (h1 : Z.length = b.length) (h2 : ∀ v : Nat, v < b.length → getI Z (v : Int) = 2 * getI (redT b (halfL l) q) (v : Int)) => near_half hB (l := l) (s := redT b (halfL l) q) (Z := Z) hq hln hb rfl h1 h2
  have hnear0 : (∀ v : Nat, v < b.length → (getI l (v : Int)).tdiv 2 = 0) → Near b.length q (apl b l (List.replicate b.length 0)) := fun h0 => by
    rw [apl_zero hB hln]
    refine ⟨hln, fun v hv _ => ?_, ?_⟩
    · have := h0 v hv
      have := tdiv2 (getI l (v : Int))
      omega
    · have := hb q hq
      omega
  have hfin := fun (Z : List Int) (h1 : Z.length = b.length) (h2 : getI Z (q : Int) = 0) => redT_pl hB (l := l) (Z := Z) hq h1 h2
  refine f_enter rfl rfl ?_
  have e55 := fun (Z : List Int) (hZ : Z.length = b.length) h1 (H : Heap) (ha : frzL H 40 [x, y, .sl 0 1 0 b.length] = some [x, y, .rd 1 b.length (iL Z)]) => c55p hx hy (rd_isL hZ) hbd hln hZ h1 (fun v hv => by have := hb v hv; omega) (m := m) (by omega) H ha
  have e81 := fun (Z : List Int) (hN : Near b.length q (apl b l Z)) (H : Heap) => c81 hx (rd_isL (apl_len b l Z)) hB hq hN hm H
  have e77 := fun (Z u : List Int) (hZ : Z.length = b.length) (hu : u.length = b.length) h1 h2 (H : Heap) (ha : frzL H 40 [.sl 0 1 0 b.length, .rd 1 b.length (iL u)] = some [.rd 1 b.length (iL Z), .rd 1 b.length (iL u)]) => c77o (rd_isL hZ) (rd_isL hu) (by omega) (by omega) (by omega) h1 h2 (m := m) (by omega) H ha
  clear hm
  generalize hcall : evF tab it m = call at *
  generalize hR : redT b l q = R at *
  generalize hS : redT b (halfL l) q = S at *
  have gcH : ∀ (z : Bool) (v : Nat) (C : List AV), gc 0 [x, y, .int .i64 (q : Int), .sl 0 1 0 b.length, .bool z, y, .int .i64 ((b.length : Nat) : Int), .int .i64 (v : Int)] [some (.data C)] = some ([x, y, .int .i64 (q : Int), .sl 0 1 0 b.length, .bool z, y, .int .i64 ((b.length : Nat) : Int), .int .i64 (v : Int)], [some (.data C)]) := fun z v C => by simp [go_sem, fx, fy]
  have gcZ : ∀ (v : Nat) (C D : List AV), gc 0 [x, y, .int .i64 (q : Int), .sl 1 1 0 b.length, .rd 1 b.length (iL S), .int .i64 ((b.length : Nat) : Int), .int .i64 (v : Int)] [some (.data C), some (.data D)] = some ([x, y, .int .i64 (q : Int), .sl 0 1 0 b.length, .rd 1 b.length (iL S), .int .i64 ((b.length : Nat) : Int), .int .i64 (v : Int)], [some (.data D)]) := fun v C D => by simp [go_sem, fx, fy]
  have gcY : ∀ (v : Nat) (D : List AV), gc 0 [x, y, .int .i64 (q : Int), .sl 0 1 0 b.length, .rd 1 b.length (iL S), .int .i64 ((b.length : Nat) : Int), .int .i64 (v : Int)] [some (.data D)] = some ([x, y, .int .i64 (q : Int), .sl 0 1 0 b.length, .rd 1 b.length (iL S), .int .i64 ((b.length : Nat) : Int), .int .i64 (v : Int)], [some (.data D)]) := fun v D => by simp [go_sem, fx, fy]
  -- the end, whatever the script
  have hend : ∀ (Z : List Int) (K : KT) (X : Nat → KT) (Rt : KT), Z.length = b.length → (∀ v : Nat, v < b.length → -1000000000000000 ≤ getI Z (v : Int) ∧ getI Z (v : Int) ≤ 1000000000000000) → getI Z (q : Int) = 0 → Near b.length q (apl b l Z) → Rt = finish 0 [.t 6] →
      RC call it m (.seq (.reg [⟨.inl .mov, [.t 11], some 57, none, []⟩, ⟨.inl .mov, [.t 0], some 58, none, []⟩, ⟨.inl .mov, [.t 0], some 59, none, []⟩, ⟨.inl .mov, [.t 1], some 60, none, []⟩, ⟨.inl .mov, [.t 11], some 61, none, []⟩, ⟨.inr (.call true true 55), [.t 59, .t 60, .t 61], some 62, none, []⟩, ⟨.inl .mov, [.t 2], some 63, none, []⟩, ⟨.inr (.call true true 81), [.t 58, .t 62, .t 63], some 64, none, []⟩, ⟨.inr (.call true false 77), [.t 57, .t 64], some 65, none, []⟩, ⟨.inl .mov, [.t 65], some 6, none, []⟩] none) .ret) 0 K X Rt (bindEnv [0, 1, 2, 11] 0 [x, y, .int .i64 (q : Int), .sl 0 1 0 b.length]) [some (.data (iL Z))] (some (.sl 0 1 0 b.length, [some (.data (iL R))])) := by
    intro Z K X Rt hZl hZb hZq hN hRt
    subst hRt
    obtain ⟨hu1, hu2, hu3⟩ := redT_ok hB (apl b l Z) hq
    have hub := redT_le hB (l := apl b l Z) hq (M := 100) (by omega) hN.oth
    have e55' := e55 Z hZl (fun v hv => by have := hZb v hv; omega) [some (.data (iL Z))] (frzL_cons (frzV_of fx) (frzL_cons (frzV_of fy) (frzL_cons (frz_sl rfl hZl) frzL_nil)))
    have e81' := e81 Z hN
    have e77' := e77 Z (redT b (apl b l Z) q) hZl hu1 (fun v hv => by have := hZb v (by omega); omega) (fun v hv => by have := hub v (by omega); omega) [some (.data (iL Z))] (frzL_cons (frz_sl rfl hZl) (frzL_cons rfl frzL_nil))
    rw [hZl, hfin Z hZl hZq] at e77'
    repeat' first
 | (apply s_mov; (focus ((conv => lhs; whnf); done)))
 | (apply c_nil)
 | (apply s_cn; (focus (repeat (first | apply opds_nil | (apply opds_cons; (first | (focus ((conv => lhs; whnf); done)) | exact rfl))))); exact e55')
 | (apply s_cn; (focus (repeat (first | apply opds_nil | (apply opds_cons; (first | (focus ((conv => lhs; whnf); done)) | exact rfl))))); exact e81' _)
 | (apply s_en; (focus (repeat (first | apply opds_nil | (apply opds_cons; (first | (focus ((conv => lhs; whnf); done)) | exact rfl))))); exact e77')
 | (apply c_seq)
 | (apply c_reg)
 | (apply c_ret)
 | (with_reducible apply k_c)
    simp [finish, ress, resOf, look, tupOf, go_sem]
  skip
  repeat' first
 | (apply s_mov; (focus ((conv => lhs; whnf); done)))
 | (apply c_nil)
 | (apply s_pn; (focus (repeat (first | apply opds_nil | (apply opds_cons; (first | (focus ((conv => lhs; whnf); done)) | exact rfl))))); exact ly _)
 | (apply s_en; (focus (repeat (first | apply opds_nil | (apply opds_cons; (first | (focus ((conv => lhs; whnf); done)) | exact rfl))))); exact mk _ _)
 | (apply c_seq)
 | (apply c_reg)
 | (apply c_block)
 | (with_reducible apply k_c)
  refine c_loop ?_
  refine loop_gc (σ := Nat × List Int × Bool) (fun p => [x, y, .int .i64 (q : Int), .sl 0 1 0 b.length, .bool p.2.2, y, .int .i64 ((b.length : Nat) : Int), .int .i64 (p.1 : Int)]) (fun p => [some (.data (iL p.2.1))]) (fun p => p.1 ≤ b.length ∧ p.2.1.length = b.length ∧ (∀ i : Nat, i < p.1 → getI p.2.1 (i : Int) = (getI l (i : Int)).tdiv 2) ∧ (p.2.2 = true ↔ ∀ i : Nat, i < p.1 → (getI l (i : Int)).tdiv 2 = 0)) (fun p => b.length - p.1) ?_ _ (0, List.replicate b.length 0, true) _ _ ⟨by omega, by simp, fun i hi => by omega, by simp⟩ (by show b.length - 0 < _; omega) (gcH true 0 _)
  intro ⟨v, h, z⟩ ⟨hv, hhl', hh, hz⟩ K hK
  dsimp only at hv hhl' hh hz hK ⊢
  by_cases hvn : v < b.length
  · have h1 := hb v hvn
    have h2 := tdiv2 (getI l (v : Int))
    have st := fun (vv : Int) call H h' => e_stO (call := call) (H := H) (id := 0) (l := h) (i := v) (v := vv) h' (by omega)
    have quo := fun H => p_quo2 (H := H) (a := getI l (v : Int)) (by omega)
    have hnext : ∀ i : Nat, i < v + 1 → getI (h.set v ((getI l (v : Int)).tdiv 2)) (i : Int) = (getI l (i : Int)).tdiv 2 := fun i hi => by
      rw [getI_set (by omega)]
      by_cases e : i = v
      · subst e; rw [if_pos rfl]
      · rw [if_neg e]; exact hh i (by omega)
    have hzn : (∀ i : Nat, i < v + 1 → (getI l (i : Int)).tdiv 2 = 0) ↔ (∀ i : Nat, i < v → (getI l (i : Int)).tdiv 2 = 0) ∧ (getI l (v : Int)).tdiv 2 = 0 := ⟨fun h => ⟨fun i hi => h i (by omega), h v (by omega)⟩, fun ⟨h1, h2⟩ i hi => by
      rcases (by omega : i < v ∨ i = v) with h | rfl
      · exact h1 i h
      · exact h2⟩
    cases z with
    | true =>
      have hz0 := hz.1 rfl
      repeat' first
 | (apply s_mov; (focus ((conv => lhs; whnf); done)))
 | (apply s_gT; exact rfl)
 | (apply c_nil)
 | (apply s_pickT; exact rfl; (focus ((conv => lhs; whnf); done)))
 | ((first | apply s_lss | apply s_leq | apply s_gtr | apply s_geq | apply s_eql | apply s_neq); exact rfl; all_goals (intro _; try (exfalso; omega)))
 | ((first | apply s_add | apply s_sub); exact rfl; omega)
 | (apply s_pn; (focus (repeat (first | apply opds_nil | (apply opds_cons; (first | (focus ((conv => lhs; whnf); done)) | exact rfl))))); exact quo _)
 | (apply s_pn; (focus (repeat (first | apply opds_nil | (apply opds_cons; (first | (focus ((conv => lhs; whnf); done)) | exact rfl))))); exact p_ixO hvn)
 | (apply s_st; (focus (repeat (first | apply opds_nil | (apply opds_cons; (first | (focus ((conv => lhs; whnf); done)) | exact rfl))))); exact st _ _ _ rfl)
 | (apply s_idx; (focus ((conv => lhs; whnf); done)); exact rfl; (first | assumption | (apply IsLL.at; assumption; omega)); omega)
 | (apply s_ldI; exact rfl; omega)
 | (apply c_seq)
 | (apply c_reg)
 | (apply c_block)
 | (apply c_skip)
 | (apply c_condT; exact rfl)
 | (with_reducible apply k_c)
      · refine hK (v + 1, _, true) _ _ ⟨by omega, by simpa using hhl', hnext, ?_⟩ (by show b.length - (v + 1) < _; omega) (gcH _ (v + 1) _)
        exact ⟨fun _ => hzn.2 ⟨hz0, by omega⟩, fun _ => rfl⟩
      · refine hK (v + 1, _, false) _ _ ⟨by omega, by simpa using hhl', hnext, ?_⟩ (by show b.length - (v + 1) < _; omega) (gcH _ (v + 1) _)
        exact ⟨fun e => (by cases e), fun h => absurd (hzn.1 h).2 (by omega)⟩
    | false =>
      repeat' first
 | (apply s_mov; (focus ((conv => lhs; whnf); done)))
 | (apply s_gF; exact rfl)
 | (apply c_nil)
 | (apply s_pickF; exact rfl; (focus ((conv => lhs; whnf); done)))
 | ((first | apply s_lss | apply s_leq | apply s_gtr | apply s_geq | apply s_eql | apply s_neq); exact rfl; all_goals (intro _; try (exfalso; omega)))
 | ((first | apply s_add | apply s_sub); exact rfl; omega)
 | (apply s_pn; (focus (repeat (first | apply opds_nil | (apply opds_cons; (first | (focus ((conv => lhs; whnf); done)) | exact rfl))))); exact quo _)
 | (apply s_pn; (focus (repeat (first | apply opds_nil | (apply opds_cons; (first | (focus ((conv => lhs; whnf); done)) | exact rfl))))); exact p_ixO hvn)
 | (apply s_st; (focus (repeat (first | apply opds_nil | (apply opds_cons; (first | (focus ((conv => lhs; whnf); done)) | exact rfl))))); exact st _ _ _ rfl)
 | (apply s_idx; (focus ((conv => lhs; whnf); done)); exact rfl; (first | assumption | (apply IsLL.at; assumption; omega)); omega)
 | (apply s_ldI; exact rfl; omega)
 | (apply c_seq)
 | (apply c_reg)
 | (apply c_block)
 | (apply c_skip)
 | (apply c_condT; exact rfl)
 | (with_reducible apply k_c)
      refine hK (v + 1, _, false) _ _ ⟨by omega, by simpa using hhl', hnext, ?_⟩ (by show b.length - (v + 1) < _; omega) (gcH _ (v + 1) _)
      exact ⟨fun e => (by cases e), fun h => hz.2 (hzn.1 h).1⟩
  · obtain rfl : v = b.length := by omega
    obtain rfl : h = halfL l := ext_getI (by omega) fun i hi => by rw [hh i (by omega), hhg i (by omega)]
    cases z with
    | true =>
      have hz0 := hz.1 rfl
      repeat' first
 | (apply c_nil)
 | ((first | apply s_lss | apply s_leq | apply s_gtr | apply s_geq | apply s_eql | apply s_neq); exact rfl; all_goals (intro _; try (exfalso; omega)))
 | (apply c_seq)
 | (apply c_reg)
 | (apply c_exitH)
 | (apply c_condF; exact rfl)
 | (with_reducible apply k_c)
      apply c_pre (vs := [x, y, .int .i64 (q : Int), .sl 0 1 0 b.length, .bool true]) (H' := [some (.data (iL (halfL l)))])
      · simp [go_sem, fx, fy]
      repeat' first
 | (apply s_mov; (focus ((conv => lhs; whnf); done)))
 | (apply c_nil)
 | (apply s_notT; exact rfl)
 | (apply s_pn; (focus (repeat (first | apply opds_nil | (apply opds_cons; (first | (focus ((conv => lhs; whnf); done)) | exact rfl))))); exact ly _)
 | (apply s_en; (focus (repeat (first | apply opds_nil | (apply opds_cons; (first | (focus ((conv => lhs; whnf); done)) | exact rfl))))); exact mk _ _)
 | (apply c_seq)
 | (apply c_reg)
 | (apply c_skip)
 | (apply c_condF; exact rfl)
 | (with_reducible apply k_c)
      apply c_pre (vs := [x, y, .int .i64 (q : Int), .sl 0 1 0 b.length]) (H' := [some (.data (iL (List.replicate b.length 0)))])
      · simp [go_sem, fx, fy]
      refine hend _ _ _ _ (by simp) (fun v hv => ?_) ?_ (hnear0 hz0) rfl
      · rw [getI_nat]; simp [List.getD, hv]
      · rw [getI_nat]; simp [List.getD, hq]
    | false =>
      have hz0 : ¬ (∀ v : Nat, v < b.length → (getI l (v : Int)).tdiv 2 = 0) := fun h => by have := hz.2 h; cases this
      have hrec' := hrec hz0 [x, .sl 0 1 0 b.length, .int .i64 (q : Int)] [some (.data (iL (halfL l))), some (.data (iL (List.replicate b.length 0)))] (frzL_cons (frzV_of fx) (frzL_cons (frz_sl rfl hhl) (frzL_cons rfl frzL_nil)))
      have lS : ∀ H, evP H .len [AV.rd 1 b.length (iL S)] = some (.int .i64 ((b.length : Nat) : Int)) := fun H => rfl
      repeat' first
 | (apply c_nil)
 | ((first | apply s_lss | apply s_leq | apply s_gtr | apply s_geq | apply s_eql | apply s_neq); exact rfl; all_goals (intro _; try (exfalso; omega)))
 | (apply c_seq)
 | (apply c_reg)
 | (apply c_exitH)
 | (apply c_condF; exact rfl)
 | (with_reducible apply k_c)
      apply c_pre (vs := [x, y, .int .i64 (q : Int), .sl 0 1 0 b.length, .bool false]) (H' := [some (.data (iL (halfL l)))])
      · simp [go_sem, fx, fy]
      repeat' first
 | (apply s_mov; (focus ((conv => lhs; whnf); done)))
 | (apply c_nil)
 | (apply s_notF; exact rfl)
 | (apply s_pn; (focus (repeat (first | apply opds_nil | (apply opds_cons; (first | (focus ((conv => lhs; whnf); done)) | exact rfl))))); exact ly _)
 | (apply s_en; (focus (repeat (first | apply opds_nil | (apply opds_cons; (first | (focus ((conv => lhs; whnf); done)) | exact rfl))))); exact mk _ _)
 | (apply s_cn; (focus (repeat (first | apply opds_nil | (apply opds_cons; (first | (focus ((conv => lhs; whnf); done)) | exact rfl))))); exact hrec')
 | (apply s_pn; (focus (repeat (first | apply opds_nil | (apply opds_cons; (first | (focus ((conv => lhs; whnf); done)) | exact rfl))))); exact lS _)
 | (apply c_seq)
 | (apply c_reg)
 | (apply c_block)
 | (apply c_condT; exact rfl)
 | (with_reducible apply k_c)
      refine c_loop ?_
      refine loop_gc (σ := Nat × List Int) (fun p => [x, y, .int .i64 (q : Int), .sl 0 1 0 b.length, .rd 1 b.length (iL S), .int .i64 ((b.length : Nat) : Int), .int .i64 (p.1 : Int)]) (fun p => [some (.data (iL p.2))]) (fun p => p.1 ≤ b.length ∧ p.2.length = b.length ∧ ∀ i : Nat, i < p.1 → getI p.2 (i : Int) = 2 * getI S (i : Int)) (fun p => b.length - p.1) ?_ _ (0, List.replicate b.length 0) _ _ ⟨by omega, by simp, fun i hi => by omega⟩ (by show b.length - 0 < _; omega) (gcZ 0 _ _)
      intro ⟨v, Z⟩ ⟨hv, hZl, hZ⟩ K2 hK2
      dsimp only at hv hZl hZ hK2 ⊢
      by_cases hvn : v < b.length
      · have h1 := hsb v hvn
        have st := fun (vv : Int) call H h' => e_stO (call := call) (H := H) (id := 0) (l := Z) (i := v) (v := vv) h' (by omega)
        have mu := fun H => p_mul2 (H := H) (a := getI S (v : Int)) (by omega)
        repeat' first
 | (apply s_mov; (focus ((conv => lhs; whnf); done)))
 | (apply c_nil)
 | ((first | apply s_lss | apply s_leq | apply s_gtr | apply s_geq | apply s_eql | apply s_neq); exact rfl; all_goals (intro _; try (exfalso; omega)))
 | ((first | apply s_add | apply s_sub); exact rfl; omega)
 | (apply s_pn; (focus (repeat (first | apply opds_nil | (apply opds_cons; (first | (focus ((conv => lhs; whnf); done)) | exact rfl))))); exact mu _)
 | (apply s_pn; (focus (repeat (first | apply opds_nil | (apply opds_cons; (first | (focus ((conv => lhs; whnf); done)) | exact rfl))))); exact p_ixO hvn)
 | (apply s_st; (focus (repeat (first | apply opds_nil | (apply opds_cons; (first | (focus ((conv => lhs; whnf); done)) | exact rfl))))); exact st _ _ _ rfl)
 | (apply s_idx; (focus ((conv => lhs; whnf); done)); exact rfl; (first | assumption | (apply IsLL.at; assumption; omega)); omega)
 | (apply s_ldI; exact rfl; omega)
 | (apply c_seq)
 | (apply c_reg)
 | (apply c_block)
 | (apply c_skip)
 | (apply c_condT; exact rfl)
 | (with_reducible apply k_c)
        refine hK2 (v + 1, _) _ _ ⟨by omega, by simpa using hZl, fun i hi => ?_⟩ (by show b.length - (v + 1) < _; omega) (gcY (v + 1) _)
        dsimp only
        rw [getI_set (by omega)]
        by_cases e : i = v
        · subst e; rw [if_pos rfl]
        · rw [if_neg e]; exact hZ i (by omega)
      · obtain rfl : v = b.length := by omega
        have hN := hnear Z hZl hZ
        repeat' first
 | (apply c_nil)
 | ((first | apply s_lss | apply s_leq | apply s_gtr | apply s_geq | apply s_eql | apply s_neq); exact rfl; all_goals (intro _; try (exfalso; omega)))
 | (apply c_seq)
 | (apply c_reg)
 | (apply c_exitH)
 | (apply c_condF; exact rfl)
 | (with_reducible apply k_c)
        apply c_pre (vs := [x, y, .int .i64 (q : Int), .sl 0 1 0 b.length]) (H' := [some (.data (iL Z))])
        · simp [go_sem, fx, fy]
        refine hend Z _ _ _ hZl (fun v hv => ?_) ?_ hN rfl
        · rw [hZ v hv]; have := hsb v hv; omega
        · rw [hZ q hq]; unfold gf at hs2; omega
theorem f54 {b : List (List Int)} (hB : IsB b) {q : Nat} (hq : q < b.length) : ∀ (k : Nat) {x y : AV} {l : List Int}, IsLL x b → IsL y l → l.length = b.length → (∀ v : Nat, v < b.length → -1099511627776 ≤ getI l (v : Int) ∧ getI l (v : Int) ≤ 1099511627776) → (∀ v : Nat, v < b.length → (getI l (v : Int)).natAbs < 2 ^ k) → ∀ {m : Nat}, smK + 1 + k ≤ m →
    evF tab it m 54 [x, y, .int .i64 (q : Int)] [] = some (.sl 0 1 0 b.length, [some (.data (iL (redT b l q)))])
  | 0, x, y, l, hx, hy, hln, hb, hk, m, hm => by
    obtain ⟨m, rfl⟩ : ∃ j, m = j + 1 := ⟨m - 1, by omega⟩
    refine f54_core hB hq hx hy hln hb (by omega) fun h => absurd (fun v hv => ?_) h
    have := hk v hv
    have := tdiv2 (getI l (v : Int))
    omega
  | k + 1, x, y, l, hx, hy, hln, hb, hk, m, hm => by
    obtain ⟨m, rfl⟩ : ∃ j, m = j + 1 := ⟨m - 1, by omega⟩
    refine f54_core hB hq hx hy hln hb (by omega) fun _ args H ha => ?_
    have hhl := halfL_len l
    rw [hln] at hhl
    have hhg := fun (v : Nat) (hv : v < b.length) => halfL_get (l := l) (v := v) (by omega)
    have ih := f54 hB hq k hx (rd_isL hhl) hhl (fun v hv => by
      rw [hhg v hv]
      have := hb v hv
      have := tdiv2 (getI l (v : Int))
      omega) (fun v hv => by
      rw [hhg v hv]
      have h1 := hk v hv
      rw [Nat.pow_succ] at h1
      have := tdiv2 (getI l (v : Int))
      omega) (m := m) (by omega)
    exact callPure_own ha ih rfl (by simp [HO.hasRd, iL_noRd]) (frz_sl rfl (redT_ok hB (halfL l) hq).1)
end Go.AM.Ch

set_option linter.unusedSectionVars false
set_option linter.unusedVariables false
set_option linter.unusedSimpArgs false
namespace Go.AM.Ch
attribute [local go_sem] gc subHeap reach_skip ren_free reach_new reach_newp reach_end rangeL roots boxCells nodupB posOf renL AV.ren pickO renH renO looks look bindEnv envOf reach_int reach_bool reach_nilS reach_rd putRow cells_sl cells_int cells_bool cells_nilS cells_rd cells_agg reach_agg reach_tup idFreeL idf_sl idf_ptr idf_int idf_bool idf_nilS idf_rd reach_fn reach_mp cells_fn cells_ptr cells_mp idf_mp idf_fn idf_agg idf_tup
set_option maxHeartbeats 8000000
theorem c54o {x y : AV} {b : List (List Int)} {s : List Int} {q : Nat} (hx : IsLL x b) (hy : IsL y s) (hB : IsB b) (hs : InR b.length 1048576 s) (hq : q < b.length) {m : Nat} (hm : smK + 22 ≤ m) (H : Heap) :
    callPure (evF tab it m) false 54 [x, y, .int .i64 (q : Int)] H = some (.sl H.length 1 0 b.length, H ++ [some (.data (iL (redT b s q)))]) := by
  have ff : idFreeL [x, y, .int .i64 (q : Int)] = true := by simp [idFreeL, AV.idFree, hx.free, hy.free]
  have f := f54 hB hq 21 hx hy hs.1 (fun v hv => by have := inR_get hs v hv; omega) (fun v hv => by
    have := inR_get hs v hv
    have e : (2 : Nat) ^ 21 = 2097152 := by decide
    omega) (m := m) hm
  simp [callPure, frzL_free H 40 [x, y, .int .i64 (q : Int)] (by simp) ff, f, ff, shiftH, AV.ren, renH, renO]
theorem c54 {x y : AV} {b : List (List Int)} {s : List Int} {q : Nat} (hx : IsLL x b) (hy : IsL y s) (hB : IsB b) (hs : InR b.length 1048576 s) (hq : q < b.length) {m : Nat} (hm : smK + 22 ≤ m) (H : Heap) :
    callPure (evF tab it m) true 54 [x, y, .int .i64 (q : Int)] H = some (.rd 1 b.length (iL (redT b s q)), H) := by
  have f := f54 hB hq 21 hx hy hs.1 (fun v hv => by have := inR_get hs v hv; omega) (fun v hv => by
    have := inR_get hs v hv
    have e : (2 : Nat) ^ 21 = 2097152 := by decide
    omega) (m := m) hm
  exact callPure_frz (by simp [idFreeL, AV.idFree, hx.free, hy.free]) (by simp) f (frz_sl rfl (redT_ok hB s hq).1)
/-- the scripts of states are small -/
theorem redT_st {b : List (List Int)} (hB : IsB b) {s : List Int} (hs : InR b.length 1048576 s) {q : Nat} (hq : q < b.length) : ∀ v : Nat, v < b.length → -104860600 ≤ getI (redT b s q) (v : Int) ∧ getI (redT b s q) (v : Int) ≤ 104860600 := fun v hv => by
  have := redT_le hB (l := s) hq (M := 1048576) (by decide) (fun w hw _ => inR_get hs w hw) v hv
  omega
/-- Reduce -/
theorem f20 {x y : AV} {b : List (List Int)} {s : List Int} {q : Nat} (hx : IsLL x b) (hy : IsL y s) (hB : IsB b) (hs : InR b.length 1048576 s) (hq : q < b.length) {m : Nat} (hm : smK + 23 ≤ m) :
    evF tab it m 20 [x, y, .int .i64 (q : Int)] [] = some (.tup [.sl 0 1 0 b.length, .sl 1 1 0 b.length, .int .i64 0], [some (.data (iL (apl b s (redT b s q)))), some (.data (iL (redT b s q)))]) := by
  have hm1 : 100000 ≤ m := by have := smK_big; omega
  obtain ⟨m, rfl⟩ : ∃ j, m = j + 1 := ⟨m - 1, by omega⟩
  have fx := hx.free; have fy := hy.free
  have hn1 := hB.n1; have hn2 := hB.n2
  have hsl := hs.1
  have e52 := fun H => c52 hx hy (by omega) (by omega) (m := m) (by omega) H
  rw [if_pos ⟨hB, hs⟩] at e52
  have e53 := fun (a lo hi : Int) H => c53 (m := m) (by omega) a lo hi H
  have lx : ∀ H, evP H .len [x] = some (.int .i64 ((b.length : Nat) : Int)) := fun H => by cases hx <;> rfl
  have e54 := fun H => c54o hx hy hB hs hq (m := m) (by omega) H
  have hRl := (redT_ok hB s hq).1
  have hRb := redT_st hB hs hq
  have e55 := c55q hx hy (rd_isL hRl) hB.bd hsl hRl (fun v hv => by have := hRb v hv; omega) (fun v hv => by have := inR_get hs v hv; omega) (m := m) (by omega) [some (.data (iL (redT b s q)))] (args := [x, y, .sl 0 1 0 b.length]) (frzL_cons (frzV_of fx) (frzL_cons (frzV_of fy) (frzL_cons (frz_sl rfl hRl) frzL_nil)))
  clear hm
  refine f_enter rfl rfl ?_
  generalize evF tab it m = call at *
  repeat' first
 | (apply s_mov; (focus ((conv => lhs; whnf); done)))
 | (apply s_gT; exact rfl)
 | (apply c_nil)
 | (apply s_pickF; exact rfl; (focus ((conv => lhs; whnf); done)))
 | (apply s_notT; exact rfl)
 | (apply s_notF; exact rfl)
 | ((first | apply s_lss | apply s_leq | apply s_gtr | apply s_geq | apply s_eql | apply s_neq); exact rfl; all_goals (intro _; try (exfalso; omega)))
 | ((first | apply s_add | apply s_sub); exact rfl; omega)
 | (apply s_cn; (focus (repeat (first | apply opds_nil | (apply opds_cons; (first | (focus ((conv => lhs; whnf); done)) | exact rfl))))); exact e52 _)
 | (apply isE; refine s_cB (by (focus (repeat (first | apply opds_nil | (apply opds_cons; (first | (focus ((conv => lhs; whnf); done)) | exact rfl)))))) (e53 _ _ _ _) (fun _ => ?_) (fun _ => ?_))
 | (apply s_pn; (focus (repeat (first | apply opds_nil | (apply opds_cons; (first | (focus ((conv => lhs; whnf); done)) | exact rfl))))); exact lx _)
 | (apply s_en; (focus (repeat (first | apply opds_nil | (apply opds_cons; (first | (focus ((conv => lhs; whnf); done)) | exact rfl))))); exact e54 _)
 | (apply s_en; (focus (repeat (first | apply opds_nil | (apply opds_cons; (first | (focus ((conv => lhs; whnf); done)) | exact rfl))))); exact e55)
 | (apply c_seq)
 | (apply c_reg)
 | (apply c_skip)
 | (apply c_ret)
 | (apply c_condT; exact rfl)
 | (apply c_condF; exact rfl)
 | (with_reducible apply k_c)
  all_goals first
    | (exfalso; omega)
    | (simp [finish, ress, resOf, look, tupOf, go_sem]; done)
theorem frz_setA {A T : List Int} {n : Nat} (hA : A.length = n) (hT : T.length = n) {e : Int} : frzV [some (.data (iL A)), some (.data (iL T))] 40 (.tup [.sl 0 1 0 n, .sl 1 1 0 n, .int .i64 e]) = some (.tup [.rd 1 n (iL A), .rd 1 n (iL T), .int .i64 e]) :=
  frzV_tup rfl (frzL_cons (frz_sl rfl hA) (frzL_cons (frz_sl rfl hT) (frzL_cons rfl frzL_nil)))
end Go.AM.Ch

set_option linter.unusedSectionVars false
set_option linter.unusedVariables false
set_option linter.unusedSimpArgs false
namespace Go.AM.Ch
attribute [local go_sem] gc subHeap reach_skip ren_free reach_new reach_newp reach_end rangeL roots boxCells nodupB posOf renL AV.ren pickO renH renO looks look bindEnv envOf reach_int reach_bool reach_nilS reach_rd putRow cells_sl cells_int cells_bool cells_nilS cells_rd cells_agg reach_agg reach_tup idFreeL idf_sl idf_ptr idf_int idf_bool idf_nilS idf_rd reach_fn reach_mp cells_fn cells_ptr cells_mp idf_mp idf_fn idf_agg idf_tup
set_option maxHeartbeats 8000000
/-- numbers from which k chips can be taken -/
structure Tk (n k : Nat) (l : List Int) : Prop where
  len : l.length = n
  oth : ∀ v : Nat, v < n → v ≠ 0 → -100 + (k : Int) ≤ getI l (v : Int) ∧ getI l (v : Int) ≤ 100
  own : -1125899906842624 + (k : Int) ≤ getI l ((0 : Nat) : Int) ∧ getI l ((0 : Nat) : Int) ≤ 1125899906842624
theorem Tk.near {n : Nat} {l : List Int} (h : Tk n 0 l) : Near n 0 l := ⟨h.len, fun v hv h0 => by have := h.oth v hv h0; omega, by have := h.own; omega⟩
theorem Tk.step {n k : Nat} {l : List Int} (h : Tk n (k + 1) l) {v : Nat} (hv : v < n) : Tk n k (l.set v (getI l (v : Int) - 1)) := by
  have hl := h.len
  refine ⟨by simp [hl], fun u hu h0 => ?_, ?_⟩
  · rw [getI_set (by omega)]
    have := h.oth u hu h0
    split
    · rename_i e; subst e; omega
    · omega
  · rw [getI_set (by omega)]
    have := h.own
    split
    · rename_i e; subst e; omega
    · omega
theorem Tk.all {n k : Nat} {l : List Int} (h : Tk n k l) : ∀ v : Nat, v < n → -1125899906842624 ≤ getI l (v : Int) ∧ getI l (v : Int) ≤ 1125899906842624 := fun v hv => by
  by_cases e : v = 0
  · subst e; have := h.own; omega
  · have := h.oth v hv e; omega
end Go.AM.Ch

set_option linter.unusedSectionVars false
set_option linter.unusedVariables false
set_option linter.unusedSimpArgs false
namespace Go.AM.Ch
set_option maxHeartbeats 8000000
/-! ### isZero -/
theorem eqCells_iL : ∀ (n : Nat) (a c : List Int), a.length = n → c.length = n → eqCells (List.replicate n (some .i64)) (iL a) (iL c) = some (decide (a = c))
  | 0, [], [], _, _ => rfl
  | 0, _ :: _, _, h, _ => by simp at h
  | 0, _, _ :: _, _, h => by simp at h
  | n + 1, [], _, h, _ => by simp at h
  | n + 1, _, [], _, h => by simp at h
  | n + 1, x :: a, y :: c, ha, hc => by
    have ih := eqCells_iL n a c (by simpa using ha) (by simpa using hc)
    show eqCells (some .i64 :: List.replicate n (some .i64)) (.int .i64 x :: iL a) (.int .i64 y :: iL c) = _
    simp only [eqCells, and_self, if_true, ih]
    by_cases e : x = y
    · subst e; simp
    · simp [e]
def zz : List Int := List.replicate 10 0
theorem zz_len : zz.length = 10 := by simp [zz]
def z10 (l : List Int) : List Int := l ++ List.replicate (10 - l.length) 0
theorem z10_len {l : List Int} (h : l.length ≤ 10) : (z10 l).length = 10 := by simp [z10]; omega
theorem z10_iff {l : List Int} (h : l.length ≤ 10) : z10 l = zz ↔ ∀ v ∈ l, v = 0 := by
  constructor
  · intro e v hv
    have : v ∈ z10 l := by unfold z10; exact List.mem_append_left _ hv
    rw [e] at this
    unfold zz at this
    exact (List.mem_replicate.1 this).2
  · intro h2
    unfold zz
    rw [List.eq_replicate_iff]
    refine ⟨z10_len h, fun v hv => ?_⟩
    unfold z10 at hv
    rcases List.mem_append.1 hv with hv | hv
    · exact h2 v hv
    · exact (List.mem_replicate.1 hv).2
theorem e_cpyZ {call : CallF} {x : AV} {l : List Int} (hx : IsL x l) (hl : l.length ≤ 10) : evE call [some (.data (iL zz))] (.cpy 1) [.sl 0 1 0 10, x] = some (.int .i64 (l.length : Int), [some (.data (iL (z10 l)))]) := by
  have hz : (iL zz).length = 10 := by rw [iL_len]; exact zz_len
  have hll := iL_len l
  cases hx with
  | nil => rfl
  | rd l =>
    have hm : min l.length 10 = l.length := by omega
    have e : putRow (iL zz) 0 (iL l) = iL (z10 l) := by
      have e2 : (iL zz).drop l.length = iL (List.replicate (10 - l.length) 0) := by unfold iL zz; rw [← List.map_drop, List.drop_replicate]
      unfold putRow z10
      rw [List.take_zero, List.nil_append, Nat.zero_add, hll, e2]
      simp only [iL, List.map_append]
    have h2 : (0 : Nat) + l.length ≤ (iL zz).length := by omega
    have h3 : min (List.length l) 10 = l.length := by omega
    have h5 : (iL l).take l.length = iL l := List.take_of_length_le (by omega)
    have h6 : (iL zz).length = 10 := hz
    have h7 : min (l.length : Int) 10 = l.length := by omega
    simp [evE, szOk, lenOf, rowOf, h3, h6, h7, hl, h5, e]
theorem f92 {x : AV} {l : List Int} (hx : IsL x l) (hl : l.length ≤ 10) {m : Nat} (hm : 2 ≤ m) : evF tab it m 92 [x] [] = some (.bool (decide (∀ v ∈ l, v = 0)), []) := by
  obtain ⟨m, rfl⟩ : ∃ j, m = j + 1 := ⟨m - 1, by omega⟩
  have al : ∀ call, evE call [] (.alloc true [.int .i64 0, .int .i64 0, .int .i64 0, .int .i64 0, .int .i64 0, .int .i64 0, .int .i64 0, .int .i64 0, .int .i64 0, .int .i64 0]) [] = some (.ptr 0 0, [some (.data (iL zz))]) := fun call => rfl
  have sp : evP [some (.data (iL zz))] (.slcP 10 1 false false) [.ptr 0 0] = some (.sl 0 1 0 10) := rfl
  have cp := fun call => e_cpyZ (call := call) hx hl
  have hz := z10_len hl
  have hi := z10_iff hl
  have ld : evP [some (.data (iL (z10 l)))] (.ld true 10) [.ptr 0 0] = some (.agg (iL (z10 l))) := by
    have hc : Heap.cells? [some (HO.data (iL (z10 l)))] 0 = some (iL (z10 l)) := rfl
    have h5 : 0 + 10 ≤ (iL (z10 l)).length := by rw [iL_len, hz]; omega
    have h6 : (iL (z10 l)).take 10 = iL (z10 l) := List.take_of_length_le (by rw [iL_len, hz]; omega)
    simp [evP, ldc, getRow, hc, iL_len, hz, h6, wholeOf]
  have bl : ∀ H, evP H (.bld [.int .i64 0, .int .i64 0, .int .i64 0, .int .i64 0, .int .i64 0, .int .i64 0, .int .i64 0, .int .i64 0, .int .i64 0, .int .i64 0] []) [] = some (.agg (iL zz)) := fun H => rfl
  have eqa : ∀ H, evP H (.eqagg false [some .i64, some .i64, some .i64, some .i64, some .i64, some .i64, some .i64, some .i64, some .i64, some .i64]) [.agg (iL (z10 l)), .agg (iL zz)] = some (.bool (decide (∀ v ∈ l, v = 0))) := fun H => by
    have h1 := eqCells_iL 10 (z10 l) zz hz zz_len
    have h2 : ([some .i64, some .i64, some .i64, some .i64, some .i64, some .i64, some .i64, some .i64, some .i64, some .i64] : List (Option IntKind)) = List.replicate 10 (some .i64) := rfl
    have h3 : (iL (z10 l)).length = 10 := by rw [iL_len, hz]
    rw [h2]
    simp only [evP, h1, Option.map_some, negIf, List.length_replicate, h3, if_true, Bool.false_eq_true, if_false]
    simp [hi]
  generalize decide (∀ v ∈ l, v = 0) = R at *
  generalize z10 l = Z at *
  refine f_enter rfl rfl ?_
  generalize evF tab it m = call at *
  repeat' first
 | (apply s_mov; (focus ((conv => lhs; whnf); done)))
 | (apply c_nil)
 | (apply s_en; (focus (repeat (first | apply opds_nil | (apply opds_cons; (first | (focus ((conv => lhs; whnf); done)) | exact rfl))))); exact al _)
 | (apply s_pn; (focus (repeat (first | apply opds_nil | (apply opds_cons; (first | (focus ((conv => lhs; whnf); done)) | exact rfl))))); exact sp)
 | (apply s_en; (focus (repeat (first | apply opds_nil | (apply opds_cons; (first | (focus ((conv => lhs; whnf); done)) | exact rfl))))); exact cp _)
 | (apply s_pn; (focus (repeat (first | apply opds_nil | (apply opds_cons; (first | (focus ((conv => lhs; whnf); done)) | exact rfl))))); exact ld)
 | (apply s_pn; (focus (repeat (first | apply opds_nil | (apply opds_cons; (first | (focus ((conv => lhs; whnf); done)) | exact rfl))))); exact bl _)
 | (apply s_pn; (focus (repeat (first | apply opds_nil | (apply opds_cons; (first | (focus ((conv => lhs; whnf); done)) | exact rfl))))); exact eqa _)
 | (apply c_seq)
 | (apply c_reg)
 | (apply c_ret)
 | (with_reducible apply k_c)
  exact fin_t (by (conv => lhs; whnf)) (by rfl) rfl
theorem c92 {x : AV} {l : List Int} (hx : IsL x l) (hl : l.length ≤ 10) {m : Nat} (hm : 2 ≤ m) (H : Heap) : callPure (evF tab it m) true 92 [x] H = some (.bool (decide (∀ v ∈ l, v = 0)), H) :=
  callPure_free (by simp [idFreeL, hx.free]) (by simp) (f92 hx hl hm) rfl
end Go.AM.Ch
