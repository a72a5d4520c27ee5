/- A part of the proof: D5 G1 J1 U40 U41 U63. -/
import Derived.Test.YtmegimhfoedcdaaU17
import Derived.Test.YtmegimhfoedcdaaU39
set_option linter.unusedVariables false
set_option linter.unusedSimpArgs false
set_option linter.unusedSectionVars false
namespace Go.AM.Ch
set_option maxHeartbeats 4000000
def wB (b : List (List Int)) (v : Nat) : Int := ed b 0 (v + 1)
def eB (b : List (List Int)) (v u : Nat) : Int := ed b (v + 1) (u + 1)
def trN (b : List (List Int)) : Int := det (b.length - 1) (lap (b.length - 1) (wB b) (eB b))
theorem wg_of {b : List (List Int)} (hB : IsB b) : WG (b.length - 1) (wB b) (eB b) := by
  have g := gr_of hB
  have hn := hB.n1
  exact ⟨fun v hv => g.nn _ _ (by omega) (by omega), fun v u hv hu => g.nn _ _ (by omega) (by omega), fun v u hv hu => g.sy _ _ (by omega) (by omega), fun v hv => (hB.ed (v + 1) (v + 1) (by omega) (by omega)).2.2 rfl⟩
theorem deg_wB {b : List (List Int)} (hB : IsB b) {v : Nat} (hv : v < b.length - 1) : deg b.length (ed b) (v + 1) = wB b v + sumTo (fun t => eB b v t) (b.length - 1) := by
  have g := gr_of hB
  have hn := hB.n1
  have e : deg b.length (ed b) (v + 1) = sumTo (fun j => ed b (v + 1) j) (b.length - 1 + 1) := by unfold deg; congr 1; omega
  rw [e, sumTo_front', g.sy (v + 1) 0 (by omega) (by omega)]
  rfl
theorem red_ss {b : List (List Int)} (hB : IsB b) {c : Nat → Int} : Red b.length (ed b) 0 c ↔ (∀ v, v < b.length - 1 → 0 ≤ c (v + 1)) ∧ SS (b.length - 1) (wB b) (eB b) (fun v => c (v + 1)) := by
  have g := gr_of hB
  have hn := hB.n1
  have hout : ∀ S : Nat → Bool, S 0 = false → ∀ v, v < b.length - 1 → outE b.length (ed b) S (v + 1) = wB b v + outE (b.length - 1) (eB b) (fun i => S (i + 1)) v := fun S hS v hv => by
    have e : outE b.length (ed b) S (v + 1) = sumTo (fun j => if S j = true then 0 else ed b (v + 1) j) (b.length - 1 + 1) := by unfold outE; congr 1; omega
    rw [e, sumTo_front', if_neg (by rw [hS]; decide), g.sy (v + 1) 0 (by omega) (by omega)]
    rfl
  constructor
  · rintro ⟨h1, h2⟩
    refine ⟨fun v hv => h1 _ (by omega) (by omega), fun S ⟨v, hv, hSv⟩ => ?_⟩
    obtain ⟨S2, s1, s2⟩ : ∃ S2 : Nat → Bool, S2 0 = false ∧ ∀ i, S2 (i + 1) = S i := ⟨fun i => match i with
      | 0 => false
      | i + 1 => S i, rfl, fun _ => rfl⟩
    obtain ⟨x, x1, x2, x3⟩ := h2 S2 s1 ⟨v + 1, by omega, by rw [s2]; exact hSv⟩
    cases x with
    | zero => rw [s1] at x2; cases x2
    | succ x =>
      rw [s2] at x2
      rw [hout S2 s1 x (by omega), funext s2] at x3
      exact ⟨x, by omega, x2, x3⟩
  · rintro ⟨h1, h2⟩
    refine ⟨fun v hv h0 => ?_, fun S hS ⟨v, hv, hSv⟩ => ?_⟩
    · obtain ⟨v, rfl⟩ : ∃ j, v = j + 1 := ⟨v - 1, by omega⟩
      exact h1 v (by omega)
    · cases v with
      | zero => rw [hS] at hSv; cases hSv
      | succ v =>
        obtain ⟨x, x1, x2, x3⟩ := h2 (fun i => S (i + 1)) ⟨v, by omega, hSv⟩
        exact ⟨x + 1, by omega, x2, by rw [hout S hS x x1]; exact x3⟩
theorem red_zero {b : List (List Int)} (hB : IsB b) : Red b.length (ed b) 0 (fun _ => 0) := by
  obtain ⟨h1, h2⟩ := redL_red hB [] hB.n1
  refine ⟨fun _ _ _ => Int.le_refl _, fun S hS hex => ?_⟩
  obtain ⟨v, a, c, d⟩ := h2 S hS hex
  refine ⟨v, a, c, ?_⟩
  have h0 : v ≠ 0 := fun e => by subst e; rw [hS] at c; cases c
  have := h1 v a h0
  show (0 : Int) < _
  omega
noncomputable def redsL (b : List (List Int)) : List (List Int) := ssL 36 (b.length - 1) (wB b) (eB b)
theorem trN_len {b : List (List Int)} (hB : IsB b) : trN b = ((redsL b).length : Int) := by
  have g := gr_of hB
  have hn := hB.n1
  have h := wg_of hB
  unfold trN redsL
  rw [det_nSS 36 (b.length - 1) (sumTo (wB b) (b.length - 1)).toNat h (fun v hv => by
    rw [← deg_wB hB hv]
    exact (deg_nn g (by omega)).2) (by have := sumTo_nn h.w0; omega), len_ssL]
theorem allC_len (K : Nat) : ∀ m, (allC K m).length = K ^ m
  | 0 => rfl
  | m + 1 => by
    unfold allC
    rw [List.length_flatMap]
    have e : (List.range K).map (fun (x : Nat) => ((allC K m).map fun l => (x : Int) :: l).length) = (List.range K).map fun _ => K ^ m := List.map_congr_left fun x _ => by rw [List.length_map, allC_len K m]
    have e2 : ∀ L : List Nat, (L.map fun _ => K ^ m).sum = L.length * K ^ m := fun L => by
      induction L with
      | nil => simp
      | cons a L ih => simp only [List.map_cons, List.sum_cons, List.length_cons, ih]; rw [Nat.add_mul]; omega
    rw [e, e2, List.length_range, Nat.pow_succ, Nat.mul_comm]
theorem trN_le {b : List (List Int)} (hB : IsB b) : 1 ≤ trN b ∧ trN b ≤ 101559956668416 := by
  have hn := hB.n2
  rw [trN_len hB]
  constructor
  · have h0 := (red_ss hB).1 (red_zero hB)
    have hm : List.replicate (b.length - 1) (0 : Int) ∈ redsL b := mem_ssL.2 ⟨⟨by simp, fun x hx => by have := (List.mem_replicate.1 hx).2; omega⟩, by
      have e : gf (List.replicate (b.length - 1) 0) = fun _ => 0 := by
        funext i
        show getI _ (i : Int) = 0
        rw [getI_nat]
        by_cases h : i < b.length - 1
        · simp [List.getD, h]
        · simp [List.getD, h]
      rw [e]; exact h0.2⟩
    have := List.length_pos_of_mem hm
    omega
  · have h1 : (redsL b).length ≤ (allC 36 (b.length - 1)).length := by unfold redsL ssL; exact List.length_filter_le _ _
    rw [allC_len] at h1
    have h2 : 36 ^ (b.length - 1) ≤ 36 ^ 9 := Nat.pow_le_pow_right (by omega) (by omega)
    have h3 : (36 : Nat) ^ 9 = 101559956668416 := by decide
    omega
def dv (m : Nat) (l : List Int) (v : Nat) : Int := match v with
  | 0 => - sumTo (gf l) m
  | v + 1 => gf l v
theorem dv_sum (m : Nat) (l : List Int) : sumTo (dv m l) (m + 1) = 0 := by
  rw [sumTo_front']
  show - sumTo (gf l) m + sumTo (gf l) m = 0
  omega
theorem trN_kill {b : List (List Int)} (hB : IsB b) {s : List Int} (hs : sumTo (gf s) b.length = 0) : ∃ T : Nat → Int, ∀ v, v < b.length → trN b * gf s v = net b.length (ed b) T v := by
  have g := gr_of hB
  have hn1 := hB.n1; have hn2 := hB.n2
  rw [trN_len hB]
  let A : List Int → List Int := fun l => (List.range b.length).map fun v => dv (b.length - 1) l v + gf s v
  have hAl : ∀ l, (A l).length = b.length := fun l => by simp [A]
  have hAg : ∀ l v, v < b.length → gf (A l) v = dv (b.length - 1) l v + gf s v := fun l v hv => by
    show getI _ (v : Int) = _
    rw [getI_nat]; simp [A, List.getD, hv]
  let R : List Int → List Int := fun l => redL b (A l) 0
  have hRr : ∀ l, Red b.length (ed b) 0 (gf (R l)) := fun l => redL_red hB (A l) hn1
  have hRa : ∀ l v, v < b.length → gf (R l) v = ap b.length (ed b) (gf (A l)) (gf (redT b (A l) 0)) v := fun l v hv => apl_ap hB _ _ hv
  have hdv0 : ∀ l, sumTo (dv (b.length - 1) l) b.length = 0 := fun l => by
    have := dv_sum (b.length - 1) l
    rwa [show b.length - 1 + 1 = b.length by omega] at this
  have hRs : ∀ l, sumTo (gf (R l)) b.length = 0 := fun l => by
    have e1 : sumTo (gf (R l)) b.length = sumTo (gf (A l)) b.length := by
      rw [← ap_sum g (gf (A l)) (gf (redT b (A l) 0))]
      exact sumTo_congr (hRa l)
    have e2 : sumTo (gf (A l)) b.length = sumTo (fun v => dv (b.length - 1) l v + gf s v) b.length := sumTo_congr (hAg l)
    rw [e1, e2, sumTo_add, hdv0, hs]
    rfl
  let φ : List Int → List Int := fun l => (List.range (b.length - 1)).map fun v => gf (R l) (v + 1)
  have hφl : ∀ l, (φ l).length = b.length - 1 := fun l => by simp [φ]
  have hφg : ∀ l v, v < b.length - 1 → gf (φ l) v = gf (R l) (v + 1) := fun l v hv => by
    show getI _ (v : Int) = _
    rw [getI_nat]; simp [φ, List.getD, hv]
  have hdφ : ∀ l v, v < b.length → dv (b.length - 1) (φ l) v = gf (R l) v := fun l v hv => by
    cases v with
    | zero =>
      have h1 := hRs l
      rw [show b.length = b.length - 1 + 1 by omega, sumTo_front'] at h1
      have h2 : sumTo (gf (φ l)) (b.length - 1) = sumTo (fun j => gf (R l) (j + 1)) (b.length - 1) := sumTo_congr (hφg l)
      show - sumTo (gf (φ l)) (b.length - 1) = _
      omega
    | succ v => exact hφg l v (by omega)
  have hmem : ∀ l, φ l ∈ redsL b := fun l => by
    obtain ⟨r1, r2⟩ := (red_ss hB).1 (hRr l)
    refine mem_ssL.2 ⟨⟨hφl l, fun x hx => ?_⟩, fun S hex => ?_⟩
    · obtain ⟨v, hv, rfl⟩ := List.mem_map.1 hx
      have hv := List.mem_range.1 hv
      have := red_lt g (hRr l) (v := v + 1) (by omega) (by omega)
      omega
    · obtain ⟨v, a, c, d⟩ := r2 S hex
      exact ⟨v, a, c, by rw [hφg l v a]; exact d⟩
  have hred : ∀ l, l ∈ redsL b → Red b.length (ed b) 0 (dv (b.length - 1) l) := fun l hl => by
    obtain ⟨⟨h1, h2⟩, h3⟩ := mem_ssL.1 hl
    refine (red_ss hB).2 ⟨fun v hv => ?_, h3⟩
    show 0 ≤ getI l (v : Int)
    rw [getI_nat]
    have hvl : v < l.length := by omega
    have := h2 _ (List.getElem_mem hvl)
    simpa [List.getD, hvl] using this.1
  have hinj : ∀ a ∈ redsL b, ∀ c ∈ redsL b, φ a = φ c → a = c := fun a ha c hc e => by
    have hR : ∀ v, v < b.length → gf (R a) v = gf (R c) v := fun v hv => by rw [← hdφ a v hv, ← hdφ c v hv, e]
    have hu := fun v hv => (red_uniq g hn1 (hred a ha) (hred c hc) (t := fun j => gf (redT b (A a) 0) j + (- gf (redT b (A c) 0) j)) (fun v hv => by
      have h1 := hR v hv
      rw [hRa a v hv, hRa c v hv] at h1
      unfold ap at h1 ⊢
      rw [net_add, net_neg]
      rw [hAg a v hv, hAg c v hv] at h1
      omega) v hv).1
    obtain ⟨⟨la, -⟩, -⟩ := mem_ssL.1 ha
    obtain ⟨⟨lc, -⟩, -⟩ := mem_ssL.1 hc
    refine ext_getI (by omega) fun i hi => ?_
    have := hu (i + 1) (by omega)
    exact this.symm
  have hperm : ((redsL b).map φ).Perm (redsL b) := perm_of_sub (nodup_mapI (nodup_ssL _ _ _ _) hinj) (fun x hx => by
    obtain ⟨l, -, rfl⟩ := List.mem_map.1 hx
    exact hmem l) (List.length_map _)
  refine ⟨fun j => lsum ((redsL b).map fun l => gf (redT b (A l) 0) j), fun v hv => ?_⟩
  have h1 := lsum_perm (hperm.map fun l => dv (b.length - 1) l v)
  rw [List.map_map] at h1
  have h2 : lsum ((redsL b).map ((fun l => dv (b.length - 1) l v) ∘ φ)) = lsum ((redsL b).map fun l => (dv (b.length - 1) l v + gf s v) - net b.length (ed b) (gf (redT b (A l) 0)) v) := lsum_congr fun l _ => by
    show dv (b.length - 1) (φ l) v = _
    rw [hdφ l v hv, hRa l v hv]
    unfold ap
    rw [hAg l v hv]
  rw [h2, lsum_sub, lsum_add, lsum_const] at h1
  rw [net_lsum]
  omega
set_option maxHeartbeats 4000000
def Eq0 (b : List (List Int)) (f : Nat → Int) : Prop := ∃ T : Nat → Int, ∀ v, v < b.length → f v = net b.length (ed b) T v
theorem Eq0.congr {b : List (List Int)} {f g : Nat → Int} (h : Eq0 b f) (e : ∀ v, v < b.length → f v = g v) : Eq0 b g := by
  obtain ⟨T, hT⟩ := h
  exact ⟨T, fun v hv => by rw [← e v hv]; exact hT v hv⟩
theorem Eq0.add {b : List (List Int)} {f g : Nat → Int} (h : Eq0 b f) (h' : Eq0 b g) : Eq0 b (fun v => f v + g v) := by
  obtain ⟨T, hT⟩ := h
  obtain ⟨U, hU⟩ := h'
  exact ⟨fun j => T j + U j, fun v hv => by dsimp only; rw [net_add, hT v hv, hU v hv]⟩
theorem Eq0.mul {b : List (List Int)} {f : Nat → Int} (k : Int) (h : Eq0 b f) : Eq0 b (fun v => k * f v) := by
  obtain ⟨T, hT⟩ := h
  exact ⟨fun j => k * T j, fun v hv => by dsimp only; rw [net_mul, hT v hv]⟩
theorem Eq0.zero (b : List (List Int)) : Eq0 b (fun _ => 0) := ⟨fun _ => 0, fun v _ => (net_const _ _ _ _).symm⟩
theorem Eq0.sub {b : List (List Int)} {f g : Nat → Int} (h : Eq0 b f) (h' : Eq0 b g) : Eq0 b (fun v => f v - g v) := by
  refine (h.add (h'.mul (-1))).congr fun v _ => ?_
  omega
theorem zer_iff {b : List (List Int)} (hB : IsB b) (l : List Int) : (∀ v, v < b.length → gf (redL b l 0) v = 0) ↔ Eq0 b (gf l) := by
  have g := gr_of hB
  have hn := hB.n1
  have hap : ∀ v, v < b.length → gf (redL b l 0) v = ap b.length (ed b) (gf l) (gf (redT b l 0)) v := fun v hv => apl_ap hB _ _ hv
  constructor
  · intro h
    refine ⟨gf (redT b l 0), fun v hv => ?_⟩
    have h1 := h v hv
    rw [hap v hv] at h1
    unfold ap at h1
    omega
  · rintro ⟨T, hT⟩ v hv
    refine (red_uniq g hn (red_zero hB) (t := fun j => gf (redT b l 0) j + - T j) (redL_red hB l hn) (fun v hv => ?_) v hv).1
    rw [hap v hv]
    unfold ap
    rw [net_add, net_neg, hT v hv]
    dsimp only
    omega
structure RZ (b : List (List Int)) (l : List Int) : Prop where
  len : l.length = b.length
  red : Red b.length (ed b) 0 (gf l)
  sum : sumTo (gf l) b.length = 0
theorem redL_sum {b : List (List Int)} (hB : IsB b) (l : List Int) : sumTo (gf (redL b l 0)) b.length = sumTo (gf l) b.length := by
  rw [← ap_sum (gr_of hB) (gf l) (gf (redT b l 0))]
  exact sumTo_congr fun v hv => apl_ap hB _ _ hv
theorem rz_of {b : List (List Int)} (hB : IsB b) {l : List Int} (h : sumTo (gf l) b.length = 0) : RZ b (redL b l 0) := ⟨redL_len _ _ _, redL_red hB l hB.n1, by rw [redL_sum hB, h]⟩
theorem redL_eq0 {b : List (List Int)} (hB : IsB b) (l : List Int) : Eq0 b (fun v => gf l v - gf (redL b l 0) v) := ⟨gf (redT b l 0), fun v hv => by
  have e : gf (redL b l 0) v = ap b.length (ed b) (gf l) (gf (redT b l 0)) v := apl_ap hB _ _ hv
  dsimp only
  rw [e]
  unfold ap
  omega⟩
theorem RZ.val {b : List (List Int)} (hB : IsB b) {l : List Int} (h : RZ b l) : (∀ v : Nat, v < b.length → v ≠ 0 → 0 ≤ getI l (v : Int) ∧ getI l (v : Int) ≤ 35) ∧ -400 ≤ getI l ((0 : Nat) : Int) ∧ getI l ((0 : Nat) : Int) ≤ 0 := by
  have hn1 := hB.n1; have hn2 := hB.n2
  have h1 : ∀ v : Nat, v < b.length → v ≠ 0 → 0 ≤ gf l v ∧ gf l v ≤ 35 := fun v hv h0 => by
    have a := h.red.1 v hv h0
    have c := red_lt (gr_of hB) h.red hv h0
    omega
  refine ⟨h1, ?_⟩
  have hs := h.sum
  rw [show b.length = b.length - 1 + 1 by omega, sumTo_front'] at hs
  have hb := sumTo_nn (f := fun j => gf l (j + 1)) (n := b.length - 1) fun j hj => (h1 (j + 1) (by omega) (by omega)).1
  have hc := sumTo_mono (f := fun j => gf l (j + 1)) (g := fun _ => 35) (n := b.length - 1) fun j hj => (h1 (j + 1) (by omega) (by omega)).2
  have hd : ∀ n : Nat, sumTo (fun _ => (35 : Int)) n = n * 35 := fun n => by
    induction n with
    | zero => rfl
    | succ n ih => show sumTo (fun _ => (35 : Int)) n + 35 = _; rw [ih]; push_cast; omega
  rw [hd] at hc
  show -400 ≤ gf l 0 ∧ gf l 0 ≤ 0
  omega
theorem ord_ex {b : List (List Int)} (hB : IsB b) {s : List Int} (hs : sumTo (gf s) b.length = 0) : ∃ o : Nat, 1 ≤ o ∧ ∀ k : Int, Eq0 b (fun v => k * gf s v) ↔ (o : Int) ∣ k := by
  have ht := trN_le hB
  have hk : Eq0 b (fun v => trN b * gf s v) := trN_kill hB hs
  have hex : ∃ n : Nat, 1 ≤ n ∧ Eq0 b (fun v => (n : Int) * gf s v) := ⟨(trN b).toNat, by omega, by rw [Int.toNat_of_nonneg (by omega)]; exact hk⟩
  have hmin : ∀ n : Nat, (1 ≤ n ∧ Eq0 b (fun v => (n : Int) * gf s v)) → ∃ o : Nat, (1 ≤ o ∧ Eq0 b (fun v => (o : Int) * gf s v)) ∧ ∀ r : Nat, r < o → ¬ (1 ≤ r ∧ Eq0 b (fun v => (r : Int) * gf s v)) := fun n => by
    induction n using Nat.strongRecOn with
    | _ n ih =>
      intro hn
      by_cases h : ∃ r, r < n ∧ (1 ≤ r ∧ Eq0 b (fun v => (r : Int) * gf s v))
      · obtain ⟨r, h1, h2⟩ := h
        exact ih r h1 h2
      · exact ⟨n, hn, fun r hr h2 => h ⟨r, hr, h2⟩⟩
  obtain ⟨n, hn⟩ := hex
  obtain ⟨o, ⟨o1, o2⟩, o3⟩ := hmin n hn
  refine ⟨o, o1, fun k => ⟨fun h => ?_, fun ⟨z, hz⟩ => ?_⟩⟩
  · have h1 : Eq0 b (fun v => (k % (o : Int)) * gf s v) := by
      refine (h.sub (o2.mul (k / (o : Int)))).congr fun v _ => ?_
      have e := Int.mul_ediv_add_emod k (o : Int)
      have e2 : k % (o : Int) = k - (k / (o : Int)) * (o : Int) := by rw [Int.mul_comm (k / (o : Int))]; omega
      rw [e2, Int.sub_mul, Int.mul_assoc]
    have h2 := Int.emod_nonneg k (show (o : Int) ≠ 0 by omega)
    have h3 := Int.emod_lt_of_pos k (show (0 : Int) < o by omega)
    have h4 := o3 (k % (o : Int)).toNat (by omega)
    rw [Int.toNat_of_nonneg h2] at h4
    apply Int.dvd_of_emod_eq_zero
    apply Classical.byContradiction
    intro hne
    exact h4 ⟨by omega, h1⟩
  · refine (o2.mul z).congr fun v _ => ?_
    rw [hz, ← Int.mul_assoc, Int.mul_comm z]
noncomputable def ordS (b : List (List Int)) (s : List Int) : Nat := open Classical in if h : ∃ o : Nat, 1 ≤ o ∧ ∀ k : Int, Eq0 b (fun v => k * gf s v) ↔ (o : Int) ∣ k then Classical.choose h else 0
theorem ordS_spec {b : List (List Int)} (hB : IsB b) {s : List Int} (hs : sumTo (gf s) b.length = 0) : 1 ≤ ordS b s ∧ ∀ k : Int, Eq0 b (fun v => k * gf s v) ↔ (ordS b s : Int) ∣ k := by
  have h := ord_ex hB hs
  unfold ordS
  rw [dif_pos h]
  exact Classical.choose_spec h
theorem ordS_tr {b : List (List Int)} (hB : IsB b) {s : List Int} (hs : sumTo (gf s) b.length = 0) : (ordS b s : Int) ∣ trN b := ((ordS_spec hB hs).2 _).1 (trN_kill hB hs)
theorem ordS_red {b : List (List Int)} (hB : IsB b) {s : List Int} (hs : sumTo (gf s) b.length = 0) (k : Int) : Eq0 b (fun v => k * gf (redL b s 0) v) ↔ (ordS b s : Int) ∣ k := by
  rw [← (ordS_spec hB hs).2 k]
  have h := (redL_eq0 hB s).mul k
  constructor
  · intro h2
    refine (h.add h2).congr fun v _ => ?_
    show k * (gf s v - gf (redL b s 0) v) + k * gf (redL b s 0) v = _
    rw [Int.mul_sub]; omega
  · intro h2
    refine (h2.sub h).congr fun v _ => ?_
    show k * gf s v - k * (gf s v - gf (redL b s 0) v) = _
    rw [Int.mul_sub]; omega
structure Pd (o n q rest : Nat) : Prop where
  t : ∃ t, n = o * t ∧ t ∣ rest
  r1 : 1 ≤ rest
  q2 : 2 ≤ q
  nd : ∀ d, 2 ≤ d → d < q → ¬ d ∣ rest
theorem Pd.jump {o n q rest : Nat} (h : Pd o n q rest) (hr : 1 < rest) (hq : rest < q * q) : Pd o n rest rest := by
  refine ⟨h.t, h.r1, by omega, fun d h1 h2 h3 => ?_⟩
  obtain ⟨e, he⟩ := h3
  have a := h.nd d
  have c := h.nd e
  have hd : q ≤ d := Nat.le_of_not_lt fun hl => a h1 hl ⟨e, he⟩
  have he2 : 2 ≤ e := by
    rcases (by omega : e = 0 ∨ e = 1 ∨ 2 ≤ e) with rfl | rfl | h
    · omega
    · omega
    · exact h
  have hee : q ≤ e := Nat.le_of_not_lt fun hl => c he2 hl ⟨d, by rw [Nat.mul_comm]; exact he⟩
  have := Nat.mul_le_mul hd hee
  omega
theorem Pd.down {o n q rest : Nat} (h : Pd o n q rest) (ho1 : 1 ≤ o) (hq : q ∣ rest) : (q ∣ n → o ∣ n / q → Pd o (n / q) q (rest / q)) ∧ (¬ (q ∣ n ∧ o ∣ n / q) → Pd o n q (rest / q)) := by
  obtain ⟨r, hr⟩ := hq
  have q2 := h.q2
  have hrq : rest / q = r := by rw [hr]; exact Nat.mul_div_cancel_left r (by omega)
  have hr1 : 1 ≤ r := by
    have := h.r1
    rcases Nat.eq_zero_or_pos r with e | e
    · rw [e] at hr; omega
    · exact e
  have hnd : ∀ d, 2 ≤ d → d < q → ¬ d ∣ r := fun d h1 h2 h3 => h.nd d h1 h2 (by rw [hr]; exact Nat.dvd_trans h3 ⟨q, Nat.mul_comm _ _⟩)
  obtain ⟨t, ht, htr⟩ := h.t
  rw [hrq]
  constructor
  · rintro ⟨a, ha⟩ ho
    have e : n / q = a := by rw [ha]; exact Nat.mul_div_cancel_left a (by omega)
    rw [e] at ho ⊢
    obtain ⟨c, hc⟩ := ho
    refine ⟨⟨c, hc, ?_⟩, hr1, q2, hnd⟩
    have e1 : o * t = o * (q * c) := by rw [← ht, ha, hc, Nat.mul_left_comm]
    have e2 : t = q * c := Nat.eq_of_mul_eq_mul_left (by omega) e1
    obtain ⟨w, hw⟩ := htr
    rw [e2, hr, Nat.mul_assoc] at hw
    exact ⟨w, Nat.eq_of_mul_eq_mul_left (by omega) hw⟩
  · intro hno
    refine ⟨⟨t, ht, ?_⟩, hr1, q2, hnd⟩
    have hqt : ¬ q ∣ t := fun ⟨c, hc⟩ => hno ⟨⟨o * c, by rw [ht, hc, Nat.mul_left_comm]⟩, by
      have : n / q = o * c := by rw [ht, hc, Nat.mul_left_comm]; exact Nat.mul_div_cancel_left _ (by omega)
      rw [this]; exact ⟨c, rfl⟩⟩
    have hg : Nat.gcd t q = 1 := by
      apply Classical.byContradiction
      intro hg
      have g1 : Nat.gcd t q ∣ q := Nat.gcd_dvd_right _ _
      have g2 : Nat.gcd t q ∣ t := Nat.gcd_dvd_left _ _
      have g3 : 0 < Nat.gcd t q := Nat.gcd_pos_of_pos_right _ (by omega)
      have g4 := Nat.le_of_dvd (by omega) g1
      rcases Nat.lt_or_ge (Nat.gcd t q) q with c | c
      · exact h.nd _ (by omega) c (Nat.dvd_trans g2 htr)
      · have : Nat.gcd t q = q := by omega
        rw [this] at g2
        exact hqt g2
    rw [hr] at htr
    exact Nat.Coprime.dvd_of_dvd_mul_left hg htr
theorem Pd.next {o n q rest : Nat} (h : Pd o n q rest) (hq : ¬ q ∣ rest) : Pd o n (q + 1) rest := ⟨h.t, h.r1, by have := h.q2; omega, fun d h1 h2 h3 => by
  rcases Nat.lt_or_ge d q with c | c
  · exact h.nd d h1 c h3
  · have : d = q := by omega
    exact hq (this ▸ h3)⟩
theorem Pd.done {o n q : Nat} (h : Pd o n q 1) : n = o := by
  obtain ⟨t, ht, h1⟩ := h.t
  have : t = 1 := Nat.dvd_one.1 h1
  rw [ht, this, Nat.mul_one]
set_option maxHeartbeats 4000000
def valL : List Int → List Int → Int
  | d :: ds, a :: t => a + d * valL ds t
  | _, _ => 0
def prodL : List Int → Int
  | [] => 1
  | d :: ds => d * prodL ds
def BoxL : List Int → List Int → Prop
  | [], [] => True
  | d :: ds, a :: t => (0 ≤ a ∧ a < d) ∧ BoxL ds t
  | _, _ => False
theorem getI_cons (a : Int) (t : List Int) (j : Nat) : getI (a :: t) ((j + 1 : Nat) : Int) = getI t (j : Int) := by rw [getI_nat, getI_nat]; rfl
theorem getI_cons0 (a : Int) (t : List Int) : getI (a :: t) ((0 : Nat) : Int) = a := by rw [getI_nat]; rfl
theorem boxL_iff : ∀ {ds t : List Int}, BoxL ds t ↔ t.length = ds.length ∧ ∀ i : Nat, i < ds.length → 0 ≤ getI t (i : Int) ∧ getI t (i : Int) < getI ds (i : Int)
  | [], [] => by simp [BoxL]
  | [], _ :: _ => by simp [BoxL]
  | _ :: _, [] => by simp [BoxL]
  | d :: ds, a :: t => by
    simp only [BoxL, List.length_cons, boxL_iff (ds := ds) (t := t)]
    constructor
    · rintro ⟨h1, h2, h3⟩
      refine ⟨by omega, fun i hi => ?_⟩
      cases i with
      | zero => rw [getI_cons0, getI_cons0]; exact h1
      | succ i => rw [getI_cons, getI_cons]; exact h3 i (by omega)
    · rintro ⟨h1, h2⟩
      refine ⟨?_, by omega, fun i hi => ?_⟩
      · have := h2 0 (by omega); rwa [getI_cons0, getI_cons0] at this
      · have := h2 (i + 1) (by omega); rwa [getI_cons, getI_cons] at this
theorem val_rng : ∀ {ds t : List Int}, BoxL ds t → 0 ≤ valL ds t ∧ valL ds t + 1 ≤ prodL ds
  | [], [], _ => by simp [valL, prodL]
  | d :: ds, a :: t, h => by
    obtain ⟨h1, h2⟩ := h
    obtain ⟨i1, i2⟩ := val_rng h2
    have a1 : 0 ≤ d * valL ds t := Int.mul_nonneg (by omega) i1
    have a2 : d * (valL ds t + 1) ≤ d * prodL ds := Int.mul_le_mul_of_nonneg_left i2 (by omega)
    rw [Int.mul_add, Int.mul_one] at a2
    show 0 ≤ a + d * valL ds t ∧ a + d * valL ds t + 1 ≤ d * prodL ds
    omega
theorem val_inj : ∀ {ds s t : List Int}, BoxL ds s → BoxL ds t → valL ds s = valL ds t → s = t
  | [], [], [], _, _, _ => rfl
  | d :: ds, a :: s, c :: t, h, h', e => by
    obtain ⟨h1, h2⟩ := h
    obtain ⟨h3, h4⟩ := h'
    have e1 : a + d * valL ds s = c + d * valL ds t := e
    have key : ∀ {x y z w : Int}, 0 ≤ z → w < d → 0 ≤ d → z + d * x = w + d * y → x ≤ y := fun {x y z w} hz hw hd he => by
      apply Int.le_of_not_gt
      intro hlt
      have h5 : d * (y + 1) ≤ d * x := Int.mul_le_mul_of_nonneg_left (by omega) hd
      rw [Int.mul_add, Int.mul_one] at h5
      omega
    have v1 := key (by omega) (by omega) (by omega) e1
    have v2 := key (by omega) (by omega) (by omega) e1.symm
    have v : valL ds s = valL ds t := by omega
    rw [v] at e1
    rw [val_inj h2 h4 v, show a = c by omega]
def zsL (t : List Int) (k : Nat) : List Int := List.replicate k 0 ++ t.drop k
theorem zsL_len {t : List Int} {k : Nat} (h : k ≤ t.length) : (zsL t k).length = t.length := by simp [zsL]; omega
theorem zsL_get {t : List Int} {k : Nat} (h : k ≤ t.length) (i : Nat) : getI (zsL t k) (i : Int) = if i < k then 0 else getI t (i : Int) := by
  rw [getI_nat, getI_nat]
  unfold zsL List.getD
  by_cases e : i < k
  · rw [if_pos e, List.getElem?_append_left (by simpa using e)]
    simp [e]
  · rw [if_neg e, List.getElem?_append_right (by simp; omega)]
    simp only [List.length_replicate, List.getElem?_drop]
    rw [show k + (i - k) = i by omega]
theorem zsL_succ {t : List Int} {k : Nat} (h : k < t.length) : (zsL t k).set k 0 = zsL t (k + 1) := by
  refine ext_getI (by rw [List.length_set, zsL_len (by omega), zsL_len (by omega)]) fun i hi => ?_
  rw [getI_set (by rw [zsL_len (by omega)]; exact h), zsL_get (by omega), zsL_get (by omega)]
  by_cases e : i = k
  · rw [if_pos e, if_pos (by omega)]
  · rw [if_neg e]
    by_cases e2 : i < k
    · rw [if_pos e2, if_pos (by omega)]
    · rw [if_neg e2, if_neg (by omega)]
theorem val_inc : ∀ (k : Nat) {ds t : List Int}, t.length = ds.length → k < t.length → (∀ j : Nat, j < k → getI t (j : Int) = getI ds (j : Int) - 1) → valL ds ((zsL t k).set k (getI t (k : Int) + 1)) = valL ds t + 1
  | 0, d :: ds, a :: t, _, _, _ => by
    rw [getI_cons0]
    show a + 1 + d * valL ds t = a + d * valL ds t + 1
    omega
  | k + 1, d :: ds, a :: t, h1, h2, h3 => by
    have h0 := h3 0 (by omega)
    rw [getI_cons0, getI_cons0] at h0
    have ih := val_inc k (ds := ds) (t := t) (by simpa using h1) (by simpa using h2) fun j hj => by
      have := h3 (j + 1) (by omega)
      rwa [getI_cons, getI_cons] at this
    rw [getI_cons]
    have e : (zsL (a :: t) (k + 1)).set (k + 1) (getI t (k : Int) + 1) = 0 :: (zsL t k).set k (getI t (k : Int) + 1) := by
      unfold zsL
      rw [List.replicate_succ]
      rfl
    rw [e]
    show 0 + d * valL ds ((zsL t k).set k (getI t (k : Int) + 1)) = a + d * valL ds t + 1
    rw [ih, Int.mul_add, Int.mul_one]
    omega
  | _, [], t, h1, h2, _ => by simp at h1; subst h1; simp at h2
  | _, _ :: _, [], h1, h2, _ => by simp at h2
theorem val_max : ∀ {ds t : List Int}, t.length = ds.length → (∀ j : Nat, j < ds.length → getI t (j : Int) = getI ds (j : Int) - 1) → valL ds t + 1 = prodL ds
  | [], [], _, _ => rfl
  | [], _ :: _, h, _ => by simp at h
  | _ :: _, [], h, _ => by simp at h
  | d :: ds, a :: t, h, h2 => by
    have h0 := h2 0 (by simp)
    rw [getI_cons0, getI_cons0] at h0
    have ih := val_max (ds := ds) (t := t) (by simpa using h) fun j hj => by
      have := h2 (j + 1) (by simpa using hj)
      rwa [getI_cons, getI_cons] at this
    show a + d * valL ds t + 1 = d * prodL ds
    rw [← ih, Int.mul_add, Int.mul_one]
    omega
def cntL (L : List (List Int)) (f : List Int → Int) (V : Int) : Nat := (L.filter fun x => decide (f x < V)).length
theorem cntL_cons (x : List Int) (L : List (List Int)) (f : List Int → Int) (V : Int) : cntL (x :: L) f V = cntL L f V + if f x < V then 1 else 0 := by
  unfold cntL
  rw [List.filter_cons]
  by_cases h : f x < V
  · simp [h]
  · simp [h]
theorem cnt_step {f : List Int → Int} {t : List Int} : ∀ {L : List (List Int)}, L.Nodup → (∀ x ∈ L, f x = f t → x = t) → cntL L f (f t + 1) = cntL L f (f t) + (open Classical in if t ∈ L then 1 else 0)
  | [], _, _ => by simp [cntL]
  | x :: L, hn, hi => by
    obtain ⟨n1, n2⟩ := List.nodup_cons.1 hn
    have ih := cnt_step (f := f) (t := t) n2 fun y hy => hi y (List.mem_cons_of_mem _ hy)
    rw [cntL_cons, cntL_cons, ih]
    by_cases e : x = t
    · subst e
      rw [if_neg n1, if_pos (List.mem_cons_self), if_pos (show f x < f x + 1 by omega), if_neg (show ¬ f x < f x by omega)]
    · have hne : f x ≠ f t := fun h => e (hi x List.mem_cons_self h)
      have hm : (t ∈ x :: L) ↔ t ∈ L := by simp [Ne.symm e]
      by_cases h1 : t ∈ L
      · rw [if_pos h1, if_pos (hm.2 h1)]
        by_cases h2 : f x < f t
        · rw [if_pos h2, if_pos (by omega)]; try omega
        · rw [if_neg h2, if_neg (by omega)]; try omega
      · rw [if_neg h1, if_neg (fun h => h1 (hm.1 h))]
        by_cases h2 : f x < f t
        · rw [if_pos h2, if_pos (by omega)]; try omega
        · rw [if_neg h2, if_neg (by omega)]; try omega
theorem cnt_all {L : List (List Int)} {f : List Int → Int} {V : Int} (h : ∀ x ∈ L, f x < V) : cntL L f V = L.length := by
  unfold cntL
  rw [List.filter_eq_self.2 fun x hx => by simpa using h x hx]
theorem cnt_none {L : List (List Int)} {f : List Int → Int} {V : Int} (h : ∀ x ∈ L, V ≤ f x) : cntL L f V = 0 := by
  unfold cntL
  rw [List.filter_eq_nil_iff.2 fun x hx => by have := h x hx; simp; omega]
  rfl
def dgL (b : List (List Int)) : List Int := (List.range (b.length - 1)).map fun (v : Nat) => deg b.length (ed b) (v + 1)
theorem dgL_len (b : List (List Int)) : (dgL b).length = b.length - 1 := by simp [dgL]
theorem dgL_get {b : List (List Int)} {v : Nat} (h : v < b.length - 1) : getI (dgL b) (v : Int) = deg b.length (ed b) (v + 1) := by
  rw [getI_nat]; simp [dgL, List.getD, h]
theorem red_deg {b : List (List Int)} (hB : IsB b) {c : Nat → Int} (h : Red b.length (ed b) 0 c) {v : Nat} (hv : v < b.length) (h0 : v ≠ 0) : c v < deg b.length (ed b) v := by
  obtain ⟨w, hw, hS, hlt⟩ := h.2 (fun u => u == v) (by simpa using Ne.symm h0) ⟨v, hv, by simp⟩
  have e : w = v := by simpa using hS
  subst e
  have h1 : outE b.length (ed b) (fun u => u == w) w ≤ deg b.length (ed b) w := sumTo_mono fun j hj => by
    have := (gr_of hB).nn w j hw hj
    split <;> omega
  omega
theorem deg_pos {b : List (List Int)} (hB : IsB b) {v : Nat} (hv : v < b.length) (h0 : v ≠ 0) : 1 ≤ deg b.length (ed b) v := by
  have := red_deg hB (red_zero hB) hv h0
  omega
theorem mem_red {b : List (List Int)} (hB : IsB b) {t : List Int} (ht : BoxL (dgL b) t) : t ∈ redsL b ↔ Red b.length (ed b) 0 (gf (0 :: t)) := by
  obtain ⟨h1, h2⟩ := boxL_iff.1 ht
  rw [dgL_len] at h1 h2
  have hg : ∀ v, gf (0 :: t) (v + 1) = gf t v := fun v => getI_cons 0 t v
  unfold redsL
  rw [mem_ssL, red_ss hB, funext hg]
  constructor
  · rintro ⟨-, h⟩
    exact ⟨fun v hv => by rw [hg]; exact (h2 v hv).1, h⟩
  · rintro ⟨-, h⟩
    refine ⟨⟨h1, fun x hx => ?_⟩, h⟩
    obtain ⟨i, hi, rfl⟩ := List.mem_iff_getElem.1 hx
    have a := h2 i (by omega)
    rw [dgL_get (by omega)] at a
    have c := (deg_nn (gr_of hB) (i := i + 1) (by omega)).2
    have e : getI t (i : Int) = t[i] := by rw [getI_nat]; simp [List.getD, hi]
    rw [e] at a
    omega
theorem red_box {b : List (List Int)} (hB : IsB b) {t : List Int} (h : t ∈ redsL b) : BoxL (dgL b) t := by
  unfold redsL at h
  rw [mem_ssL] at h
  obtain ⟨⟨h1, h2⟩, h3⟩ := h
  have hg : ∀ v, gf (0 :: t) (v + 1) = gf t v := fun v => getI_cons 0 t v
  have hnn : ∀ v, v < b.length - 1 → 0 ≤ gf t v := fun v hv => by
    show 0 ≤ getI t (v : Int)
    rw [getI_nat]
    have hvl : v < t.length := by omega
    simp only [List.getD, List.getElem?_eq_getElem hvl, Option.getD_some]
    exact (h2 _ (List.getElem_mem hvl)).1
  have hr : Red b.length (ed b) 0 (gf (0 :: t)) := by
    rw [red_ss hB, funext hg]
    exact ⟨fun v hv => by rw [hg]; exact hnn v hv, h3⟩
  refine boxL_iff.2 ⟨by rw [dgL_len]; exact h1, fun i hi => ?_⟩
  rw [dgL_len] at hi
  rw [dgL_get hi]
  have := red_deg hB hr (v := i + 1) (by omega) (by omega)
  rw [hg] at this
  exact ⟨hnn i hi, this⟩
theorem red_self {b : List (List Int)} (hB : IsB b) {l : List Int} (hl : l.length = b.length) : redL b l 0 = l ↔ Red b.length (ed b) 0 (gf l) := by
  constructor
  · intro h
    have := redL_red hB l hB.n1
    rwa [h] at this
  · intro h
    refine ext_getI (by rw [redL_len, hl]) fun i hi => ?_
    rw [redL_len] at hi
    exact (red_uniq (gr_of hB) hB.n1 h (t := gf (redT b l 0)) (redL_red hB l hB.n1) (fun v hv => apl_ap hB _ _ hv) i hi).1
noncomputable def cntB (b : List (List Int)) (t : List Int) : Nat := cntL (redsL b) (valL (dgL b)) (valL (dgL b) t)
theorem cntB_next {b : List (List Int)} (hB : IsB b) {t t' : List Int} (ht : BoxL (dgL b) t) (he : valL (dgL b) t' = valL (dgL b) t + 1) : cntB b t' = cntB b t + (open Classical in if redL b (0 :: t) 0 = 0 :: t then 1 else 0) := by
  have hl : (0 :: t).length = b.length := by
    have := (boxL_iff.1 ht).1
    rw [dgL_len] at this
    have := hB.n1
    simp only [List.length_cons]; omega
  unfold cntB
  rw [he, cnt_step (show (redsL b).Nodup from nodup_ssL _ _ _ _) fun x hx e => val_inj (red_box hB hx) ht e]
  congr 1
  have e : (t ∈ redsL b) ↔ (redL b (0 :: t) 0 = 0 :: t) := (mem_red hB ht).trans (red_self hB hl).symm
  simp only [e]
theorem cntB_zero {b : List (List Int)} (hB : IsB b) {t : List Int} (h : valL (dgL b) t = 0) : cntB b t = 0 := by
  unfold cntB
  rw [h]
  exact cnt_none fun x hx => (val_rng (red_box hB hx)).1
theorem cntB_last {b : List (List Int)} (hB : IsB b) {t : List Int} (ht : BoxL (dgL b) t) (h : valL (dgL b) t + 1 = prodL (dgL b)) : ((cntB b t + (open Classical in if redL b (0 :: t) 0 = 0 :: t then 1 else 0) : Nat) : Int) = trN b := by
  have hl : (0 :: t).length = b.length := by
    have := (boxL_iff.1 ht).1
    rw [dgL_len] at this
    have := hB.n1
    simp only [List.length_cons]; omega
  have h1 : cntL (redsL b) (valL (dgL b)) (valL (dgL b) t + 1) = (redsL b).length := cnt_all fun x hx => by
    have := (val_rng (red_box hB hx)).2
    omega
  rw [trN_len hB, ← h1, cnt_step (show (redsL b).Nodup from nodup_ssL _ _ _ _) fun x hx e => val_inj (red_box hB hx) ht e]
  unfold cntB
  congr 2
  have e : (t ∈ redsL b) ↔ (redL b (0 :: t) 0 = 0 :: t) := (mem_red hB ht).trans (red_self hB hl).symm
  simp only [e]
theorem prodL_le : ∀ {ds : List Int} {k : Nat}, ds.length ≤ k → (∀ d ∈ ds, 0 ≤ d ∧ d ≤ 36) → 0 ≤ prodL ds ∧ prodL ds ≤ 36 ^ k
  | [], k, _, _ => by
    refine ⟨by decide, ?_⟩
    show (1 : Int) ≤ 36 ^ k
    have : (0 : Int) < 36 ^ k := Int.pow_pos (by decide)
    omega
  | d :: ds, 0, h, _ => by simp at h
  | d :: ds, k + 1, h, hd => by
    obtain ⟨i1, i2⟩ := prodL_le (ds := ds) (k := k) (by simpa using h) fun x hx => hd x (List.mem_cons_of_mem _ hx)
    have h0 := hd d List.mem_cons_self
    refine ⟨Int.mul_nonneg h0.1 i1, ?_⟩
    show d * prodL ds ≤ 36 ^ (k + 1)
    have h1 : d * prodL ds ≤ 36 * prodL ds := Int.mul_le_mul_of_nonneg_right h0.2 i1
    have h2 : (36 : Int) * prodL ds ≤ 36 * 36 ^ k := Int.mul_le_mul_of_nonneg_left i2 (by omega)
    rw [Int.pow_succ, Int.mul_comm _ 36]
    omega
attribute [local go_sem] gc subHeap reach_skip ren_free reach_new reach_newp reach_end rangeL roots boxCells nodupB posOf renL AV.ren pickO renH renO looks look bindEnv envOf reach_int reach_bool reach_nilS reach_rd putRow cells_sl cells_int cells_bool cells_nilS cells_rd cells_agg reach_agg reach_tup idFreeL idf_sl idf_ptr idf_int idf_bool idf_nilS idf_rd reach_fn reach_mp cells_fn cells_ptr cells_mp idf_mp idf_fn idf_agg idf_tup
set_option maxHeartbeats 8000000
theorem p_mul2 {H : Heap} {a : Int} (h : -4611686018427387904 ≤ a ∧ a < 4611686018427387904) : evP H (.bin .mul) [.int .i64 2, .int .i64 a] = some (.int .i64 (2 * a)) := p_mul (by omega)
theorem f54_core {b : List (List Int)} (hB : IsB b) {q : Nat} (hq : q < b.length) {x y : AV} {l : List Int} (hx : IsLL x b) (hy : IsL y l) (hln : l.length = b.length) (hb : ∀ v : Nat, v < b.length → -1099511627776 ≤ getI l (v : Int) ∧ getI l (v : Int) ≤ 1099511627776)
    {m : Nat} (hm : smK ≤ m) (hrec : ¬ (∀ v : Nat, v < b.length → (getI l (v : Int)).tdiv 2 = 0) → ∀ (args : List AV) (H : Heap), frzL H 40 args = some [x, .rd 1 b.length (iL (halfL l)), .int .i64 (q : Int)] → callPure (evF tab it m) true 54 args H = some (.rd 1 b.length (iL (redT b (halfL l) q)), H)) :
    evF tab it (m + 1) 54 [x, y, .int .i64 (q : Int)] [] = some (.sl 0 1 0 b.length, [some (.data (iL (redT b l q)))]) := by
  have fx := hx.free; have fy := hy.free
  have hn1 := hB.n1; have hn2 := hB.n2
  have hbd := hB.bd
  have hm2 : 2300 ≤ m := by have := smK_big; omega
  have ly : ∀ H, evP H .len [y] = some (.int .i64 ((b.length : Nat) : Int)) := fun H => by rw [← hln]; exact p_lenI hy
  have mk := fun call H => @e_mkI call H b.length (by unfold most; omega)
  have hhl := halfL_len l
  rw [hln] at hhl
  have hhg := fun (v : Nat) (hv : v < b.length) => halfL_get (l := l) (v := v) (by omega)
  obtain ⟨hs1, hs2, hs3⟩ := redT_ok hB (halfL l) hq
  have hsb := redT_le hB (l := halfL l) hq (M := 1099511627776) (by decide) fun v hv _ => by
    rw [hhg v hv]
    have := hb v hv
    have := tdiv2 (getI l (v : Int))
    omega
  have is := rd_isL hs1
  have hnear := fun (Z : List Int) (h1 : Z.length = b.length) (h2 : ∀ v : Nat, v < b.length → getI Z (v : Int) = 2 * getI (redT b (halfL l) q) (v : Int)) => near_half hB (l := l) (s := redT b (halfL l) q) (Z := Z) hq hln hb rfl h1 h2
  have hnear0 : (∀ v : Nat, v < b.length → (getI l (v : Int)).tdiv 2 = 0) → Near b.length q (apl b l (List.replicate b.length 0)) := fun h0 => by
    rw [apl_zero hB hln]
    refine ⟨hln, fun v hv _ => ?_, ?_⟩
    · have := h0 v hv
      have := tdiv2 (getI l (v : Int))
      omega
    · have := hb q hq
      omega
  have hfin := fun (Z : List Int) (h1 : Z.length = b.length) (h2 : getI Z (q : Int) = 0) => redT_pl hB (l := l) (Z := Z) hq h1 h2
  refine f_enter rfl rfl ?_
  have e55 := fun (Z : List Int) (hZ : Z.length = b.length) h1 (H : Heap) (ha : frzL H 40 [x, y, .sl 0 1 0 b.length] = some [x, y, .rd 1 b.length (iL Z)]) => c55p hx hy (rd_isL hZ) hbd hln hZ h1 (fun v hv => by have := hb v hv; omega) (m := m) (by omega) H ha
  have e81 := fun (Z : List Int) (hN : Near b.length q (apl b l Z)) (H : Heap) => c81 hx (rd_isL (apl_len b l Z)) hB hq hN hm H
  have e77 := fun (Z u : List Int) (hZ : Z.length = b.length) (hu : u.length = b.length) h1 h2 (H : Heap) (ha : frzL H 40 [.sl 0 1 0 b.length, .rd 1 b.length (iL u)] = some [.rd 1 b.length (iL Z), .rd 1 b.length (iL u)]) => c77o (rd_isL hZ) (rd_isL hu) (by omega) (by omega) (by omega) h1 h2 (m := m) (by omega) H ha
  clear hm
  generalize hcall : evF tab it m = call at *
  generalize hR : redT b l q = R at *
  generalize hS : redT b (halfL l) q = S at *
  have gcH : ∀ (z : Bool) (v : Nat) (C : List AV), gc 0 [x, y, .int .i64 (q : Int), .sl 0 1 0 b.length, .bool z, y, .int .i64 ((b.length : Nat) : Int), .int .i64 (v : Int)] [some (.data C)] = some ([x, y, .int .i64 (q : Int), .sl 0 1 0 b.length, .bool z, y, .int .i64 ((b.length : Nat) : Int), .int .i64 (v : Int)], [some (.data C)]) := fun z v C => by simp [go_sem, fx, fy]
  have gcZ : ∀ (v : Nat) (C D : List AV), gc 0 [x, y, .int .i64 (q : Int), .sl 1 1 0 b.length, .rd 1 b.length (iL S), .int .i64 ((b.length : Nat) : Int), .int .i64 (v : Int)] [some (.data C), some (.data D)] = some ([x, y, .int .i64 (q : Int), .sl 0 1 0 b.length, .rd 1 b.length (iL S), .int .i64 ((b.length : Nat) : Int), .int .i64 (v : Int)], [some (.data D)]) := fun v C D => by simp [go_sem, fx, fy]
  have gcY : ∀ (v : Nat) (D : List AV), gc 0 [x, y, .int .i64 (q : Int), .sl 0 1 0 b.length, .rd 1 b.length (iL S), .int .i64 ((b.length : Nat) : Int), .int .i64 (v : Int)] [some (.data D)] = some ([x, y, .int .i64 (q : Int), .sl 0 1 0 b.length, .rd 1 b.length (iL S), .int .i64 ((b.length : Nat) : Int), .int .i64 (v : Int)], [some (.data D)]) := fun v D => by simp [go_sem, fx, fy]
  have hend : ∀ (Z : List Int) (K : KT) (X : Nat → KT) (Rt : KT), Z.length = b.length → (∀ v : Nat, v < b.length → -1000000000000000 ≤ getI Z (v : Int) ∧ getI Z (v : Int) ≤ 1000000000000000) → getI Z (q : Int) = 0 → Near b.length q (apl b l Z) → Rt = finish 0 [.t 6] →
      RC call it m (.seq (.reg [⟨.inl .mov, [.t 11], some 57, none, []⟩, ⟨.inl .mov, [.t 0], some 58, none, []⟩, ⟨.inl .mov, [.t 0], some 59, none, []⟩, ⟨.inl .mov, [.t 1], some 60, none, []⟩, ⟨.inl .mov, [.t 11], some 61, none, []⟩, ⟨.inr (.call true true 55), [.t 59, .t 60, .t 61], some 62, none, []⟩, ⟨.inl .mov, [.t 2], some 63, none, []⟩, ⟨.inr (.call true true 81), [.t 58, .t 62, .t 63], some 64, none, []⟩, ⟨.inr (.call true false 77), [.t 57, .t 64], some 65, none, []⟩, ⟨.inl .mov, [.t 65], some 6, none, []⟩] none) .ret) 0 K X Rt (bindEnv [0, 1, 2, 11] 0 [x, y, .int .i64 (q : Int), .sl 0 1 0 b.length]) [some (.data (iL Z))] (some (.sl 0 1 0 b.length, [some (.data (iL R))])) := by
    intro Z K X Rt hZl hZb hZq hN hRt
    subst hRt
    obtain ⟨hu1, hu2, hu3⟩ := redT_ok hB (apl b l Z) hq
    have hub := redT_le hB (l := apl b l Z) hq (M := 100) (by omega) hN.oth
    have e55' := e55 Z hZl (fun v hv => by have := hZb v hv; omega) [some (.data (iL Z))] (frzL_cons (frzV_of fx) (frzL_cons (frzV_of fy) (frzL_cons (frz_sl rfl hZl) frzL_nil)))
    have e81' := e81 Z hN
    have e77' := e77 Z (redT b (apl b l Z) q) hZl hu1 (fun v hv => by have := hZb v (by omega); omega) (fun v hv => by have := hub v (by omega); omega) [some (.data (iL Z))] (frzL_cons (frz_sl rfl hZl) (frzL_cons rfl frzL_nil))
    rw [hZl, hfin Z hZl hZq] at e77'
    repeat' first
 | (apply s_mov; exact aW)
 | (apply c_nil)
 | (apply s_cn; exact aO; exact e55')
 | (apply s_cn; exact aO; exact e81' _)
 | (apply s_en; exact aO; exact e77')
 | (apply c_seq)
 | (apply c_reg)
 | (apply c_ret)
 | (with_reducible apply k_c)
    simp [finish, ress, resOf, look, tupOf, go_sem]
  skip
  repeat' first
 | (apply s_mov; exact aW)
 | (apply c_nil)
 | (apply s_pn; exact aO; exact ly _)
 | (apply s_en; exact aO; exact mk _ _)
 | (apply c_seq)
 | (apply c_reg)
 | (apply c_block)
 | (with_reducible apply k_c)
  refine c_loop ?_
  refine loop_gc (σ := Nat × List Int × Bool) (fun p => [x, y, .int .i64 (q : Int), .sl 0 1 0 b.length, .bool p.2.2, y, .int .i64 ((b.length : Nat) : Int), .int .i64 (p.1 : Int)]) (fun p => [some (.data (iL p.2.1))]) (fun p => p.1 ≤ b.length ∧ p.2.1.length = b.length ∧ (∀ i : Nat, i < p.1 → getI p.2.1 (i : Int) = (getI l (i : Int)).tdiv 2) ∧ (p.2.2 = true ↔ ∀ i : Nat, i < p.1 → (getI l (i : Int)).tdiv 2 = 0)) (fun p => b.length - p.1) ?_ _ (0, List.replicate b.length 0, true) _ _ ⟨by omega, by simp, fun i hi => by omega, by simp⟩ (by show b.length - 0 < _; omega) (gcH true 0 _)
  intro ⟨v, h, z⟩ ⟨hv, hhl', hh, hz⟩ K hK
  dsimp only at hv hhl' hh hz hK ⊢
  by_cases hvn : v < b.length
  · have h1 := hb v hvn
    have h2 := tdiv2 (getI l (v : Int))
    have st := fun (vv : Int) call H h' => e_stO (call := call) (H := H) (id := 0) (l := h) (i := v) (v := vv) h' (by omega)
    have quo := fun H => p_quo2 (H := H) (a := getI l (v : Int)) (by omega)
    have hnext : ∀ i : Nat, i < v + 1 → getI (h.set v ((getI l (v : Int)).tdiv 2)) (i : Int) = (getI l (i : Int)).tdiv 2 := fun i hi => by
      rw [getI_set (by omega)]
      by_cases e : i = v
      · subst e; rw [if_pos rfl]
      · rw [if_neg e]; exact hh i (by omega)
    have hzn : (∀ i : Nat, i < v + 1 → (getI l (i : Int)).tdiv 2 = 0) ↔ (∀ i : Nat, i < v → (getI l (i : Int)).tdiv 2 = 0) ∧ (getI l (v : Int)).tdiv 2 = 0 := ⟨fun h => ⟨fun i hi => h i (by omega), h v (by omega)⟩, fun ⟨h1, h2⟩ i hi => by
      rcases (by omega : i < v ∨ i = v) with h | rfl
      · exact h1 i h
      · exact h2⟩
    cases z with
    | true =>
      have hz0 := hz.1 rfl
      repeat' first
 | (apply s_mov; exact aW)
 | (apply s_gT; exact rfl)
 | (apply c_nil)
 | (apply s_pickT; exact rfl; exact aW)
 | (apply s_lss; exact rfl; all_goals (intro _; try (exfalso; omega)))
 | (apply s_eql; exact rfl; all_goals (intro _; try (exfalso; omega)))
 | (apply s_add; exact rfl; omega)
 | (apply s_pn; exact aO; exact quo _)
 | (apply s_pn; exact aO; exact p_ixO hvn)
 | (apply s_st; exact aO; exact st _ _ _ rfl)
 | (apply s_idx; exact aW; exact rfl; exact aI; omega)
 | (apply s_ldI; exact rfl; omega)
 | (apply c_seq)
 | (apply c_reg)
 | (apply c_block)
 | (apply c_skip)
 | (apply c_condT; exact rfl)
 | (with_reducible apply k_c)
      · refine hK (v + 1, _, true) _ _ ⟨by omega, by simpa using hhl', hnext, ?_⟩ (by show b.length - (v + 1) < _; omega) (gcH _ (v + 1) _)
        exact ⟨fun _ => hzn.2 ⟨hz0, by omega⟩, fun _ => rfl⟩
      · refine hK (v + 1, _, false) _ _ ⟨by omega, by simpa using hhl', hnext, ?_⟩ (by show b.length - (v + 1) < _; omega) (gcH _ (v + 1) _)
        exact ⟨fun e => (by cases e), fun h => absurd (hzn.1 h).2 (by omega)⟩
    | false =>
      repeat' first
 | (apply s_mov; exact aW)
 | (apply s_gF; exact rfl)
 | (apply c_nil)
 | (apply s_pickF; exact rfl; exact aW)
 | (apply s_lss; exact rfl; all_goals (intro _; try (exfalso; omega)))
 | (apply s_add; exact rfl; omega)
 | (apply s_pn; exact aO; exact quo _)
 | (apply s_pn; exact aO; exact p_ixO hvn)
 | (apply s_st; exact aO; exact st _ _ _ rfl)
 | (apply s_idx; exact aW; exact rfl; exact aI; omega)
 | (apply s_ldI; exact rfl; omega)
 | (apply c_seq)
 | (apply c_reg)
 | (apply c_block)
 | (apply c_skip)
 | (apply c_condT; exact rfl)
 | (with_reducible apply k_c)
      refine hK (v + 1, _, false) _ _ ⟨by omega, by simpa using hhl', hnext, ?_⟩ (by show b.length - (v + 1) < _; omega) (gcH _ (v + 1) _)
      exact ⟨fun e => (by cases e), fun h => hz.2 (hzn.1 h).1⟩
  · obtain rfl : v = b.length := by omega
    obtain rfl : h = halfL l := ext_getI (by omega) fun i hi => by rw [hh i (by omega), hhg i (by omega)]
    cases z with
    | true =>
      have hz0 := hz.1 rfl
      repeat' first
 | (apply c_nil)
 | (apply s_lss; exact rfl; all_goals (intro _; try (exfalso; omega)))
 | (apply c_seq)
 | (apply c_reg)
 | (apply c_exitH)
 | (apply c_condF; exact rfl)
 | (with_reducible apply k_c)
      apply c_pre (vs := [x, y, .int .i64 (q : Int), .sl 0 1 0 b.length, .bool true]) (H' := [some (.data (iL (halfL l)))])
      · simp [go_sem, fx, fy]
      repeat' first
 | (apply s_mov; exact aW)
 | (apply c_nil)
 | (apply s_notT; exact rfl)
 | (apply s_pn; exact aO; exact ly _)
 | (apply s_en; exact aO; exact mk _ _)
 | (apply c_seq)
 | (apply c_reg)
 | (apply c_skip)
 | (apply c_condF; exact rfl)
 | (with_reducible apply k_c)
      apply c_pre (vs := [x, y, .int .i64 (q : Int), .sl 0 1 0 b.length]) (H' := [some (.data (iL (List.replicate b.length 0)))])
      · simp [go_sem, fx, fy]
      refine hend _ _ _ _ (by simp) (fun v hv => ?_) ?_ (hnear0 hz0) rfl
      · rw [getI_nat]; simp [List.getD, hv]
      · rw [getI_nat]; simp [List.getD, hq]
    | false =>
      have hz0 : ¬ (∀ v : Nat, v < b.length → (getI l (v : Int)).tdiv 2 = 0) := fun h => by have := hz.2 h; cases this
      have hrec' := hrec hz0 [x, .sl 0 1 0 b.length, .int .i64 (q : Int)] [some (.data (iL (halfL l))), some (.data (iL (List.replicate b.length 0)))] (frzL_cons (frzV_of fx) (frzL_cons (frz_sl rfl hhl) (frzL_cons rfl frzL_nil)))
      have lS : ∀ H, evP H .len [AV.rd 1 b.length (iL S)] = some (.int .i64 ((b.length : Nat) : Int)) := fun H => rfl
      repeat' first
 | (apply c_nil)
 | (apply s_lss; exact rfl; all_goals (intro _; try (exfalso; omega)))
 | (apply c_seq)
 | (apply c_reg)
 | (apply c_exitH)
 | (apply c_condF; exact rfl)
 | (with_reducible apply k_c)
      apply c_pre (vs := [x, y, .int .i64 (q : Int), .sl 0 1 0 b.length, .bool false]) (H' := [some (.data (iL (halfL l)))])
      · simp [go_sem, fx, fy]
      repeat' first
 | (apply s_mov; exact aW)
 | (apply c_nil)
 | (apply s_notF; exact rfl)
 | (apply s_pn; exact aO; exact ly _)
 | (apply s_en; exact aO; exact mk _ _)
 | (apply s_cn; exact aO; exact hrec')
 | (apply s_pn; exact aO; exact lS _)
 | (apply c_seq)
 | (apply c_reg)
 | (apply c_block)
 | (apply c_condT; exact rfl)
 | (with_reducible apply k_c)
      refine c_loop ?_
      refine loop_gc (σ := Nat × List Int) (fun p => [x, y, .int .i64 (q : Int), .sl 0 1 0 b.length, .rd 1 b.length (iL S), .int .i64 ((b.length : Nat) : Int), .int .i64 (p.1 : Int)]) (fun p => [some (.data (iL p.2))]) (fun p => p.1 ≤ b.length ∧ p.2.length = b.length ∧ ∀ i : Nat, i < p.1 → getI p.2 (i : Int) = 2 * getI S (i : Int)) (fun p => b.length - p.1) ?_ _ (0, List.replicate b.length 0) _ _ ⟨by omega, by simp, fun i hi => by omega⟩ (by show b.length - 0 < _; omega) (gcZ 0 _ _)
      intro ⟨v, Z⟩ ⟨hv, hZl, hZ⟩ K2 hK2
      dsimp only at hv hZl hZ hK2 ⊢
      by_cases hvn : v < b.length
      · have h1 := hsb v hvn
        have st := fun (vv : Int) call H h' => e_stO (call := call) (H := H) (id := 0) (l := Z) (i := v) (v := vv) h' (by omega)
        have mu := fun H => p_mul2 (H := H) (a := getI S (v : Int)) (by omega)
        repeat' first
 | (apply s_mov; exact aW)
 | (apply c_nil)
 | (apply s_lss; exact rfl; all_goals (intro _; try (exfalso; omega)))
 | (apply s_add; exact rfl; omega)
 | (apply s_pn; exact aO; exact mu _)
 | (apply s_pn; exact aO; exact p_ixO hvn)
 | (apply s_st; exact aO; exact st _ _ _ rfl)
 | (apply s_idx; exact aW; exact rfl; exact aI; omega)
 | (apply s_ldI; exact rfl; omega)
 | (apply c_seq)
 | (apply c_reg)
 | (apply c_block)
 | (apply c_skip)
 | (apply c_condT; exact rfl)
 | (with_reducible apply k_c)
        refine hK2 (v + 1, _) _ _ ⟨by omega, by simpa using hZl, fun i hi => ?_⟩ (by show b.length - (v + 1) < _; omega) (gcY (v + 1) _)
        dsimp only
        rw [getI_set (by omega)]
        by_cases e : i = v
        · subst e; rw [if_pos rfl]
        · rw [if_neg e]; exact hZ i (by omega)
      · obtain rfl : v = b.length := by omega
        have hN := hnear Z hZl hZ
        repeat' first
 | (apply c_nil)
 | (apply s_lss; exact rfl; all_goals (intro _; try (exfalso; omega)))
 | (apply c_seq)
 | (apply c_reg)
 | (apply c_exitH)
 | (apply c_condF; exact rfl)
 | (with_reducible apply k_c)
        apply c_pre (vs := [x, y, .int .i64 (q : Int), .sl 0 1 0 b.length]) (H' := [some (.data (iL Z))])
        · simp [go_sem, fx, fy]
        refine hend Z _ _ _ hZl (fun v hv => ?_) ?_ hN rfl
        · rw [hZ v hv]; have := hsb v hv; omega
        · rw [hZ q hq]; unfold gf at hs2; omega
theorem f54 {b : List (List Int)} (hB : IsB b) {q : Nat} (hq : q < b.length) : ∀ (k : Nat) {x y : AV} {l : List Int}, IsLL x b → IsL y l → l.length = b.length → (∀ v : Nat, v < b.length → -1099511627776 ≤ getI l (v : Int) ∧ getI l (v : Int) ≤ 1099511627776) → (∀ v : Nat, v < b.length → (getI l (v : Int)).natAbs < 2 ^ k) → ∀ {m : Nat}, smK + 1 + k ≤ m →
    evF tab it m 54 [x, y, .int .i64 (q : Int)] [] = some (.sl 0 1 0 b.length, [some (.data (iL (redT b l q)))])
  | 0, x, y, l, hx, hy, hln, hb, hk, m, hm => by
    obtain ⟨m, rfl⟩ : ∃ j, m = j + 1 := ⟨m - 1, by omega⟩
    refine f54_core hB hq hx hy hln hb (by omega) fun h => absurd (fun v hv => ?_) h
    have := hk v hv
    have := tdiv2 (getI l (v : Int))
    omega
  | k + 1, x, y, l, hx, hy, hln, hb, hk, m, hm => by
    obtain ⟨m, rfl⟩ : ∃ j, m = j + 1 := ⟨m - 1, by omega⟩
    refine f54_core hB hq hx hy hln hb (by omega) fun _ args H ha => ?_
    have hhl := halfL_len l
    rw [hln] at hhl
    have hhg := fun (v : Nat) (hv : v < b.length) => halfL_get (l := l) (v := v) (by omega)
    have ih := f54 hB hq k hx (rd_isL hhl) hhl (fun v hv => by
      rw [hhg v hv]
      have := hb v hv
      have := tdiv2 (getI l (v : Int))
      omega) (fun v hv => by
      rw [hhg v hv]
      have h1 := hk v hv
      rw [Nat.pow_succ] at h1
      have := tdiv2 (getI l (v : Int))
      omega) (m := m) (by omega)
    exact callPure_own ha ih rfl (by simp [HO.hasRd, iL_noRd]) (frz_sl rfl (redT_ok hB (halfL l) hq).1)
set_option maxHeartbeats 8000000
theorem c54o {x y : AV} {b : List (List Int)} {s : List Int} {q : Nat} (hx : IsLL x b) (hy : IsL y s) (hB : IsB b) (hs : InR b.length 1048576 s) (hq : q < b.length) {m : Nat} (hm : smK + 22 ≤ m) (H : Heap) :
    callPure (evF tab it m) false 54 [x, y, .int .i64 (q : Int)] H = some (.sl H.length 1 0 b.length, H ++ [some (.data (iL (redT b s q)))]) := by
  have ff : idFreeL [x, y, .int .i64 (q : Int)] = true := by simp [idFreeL, AV.idFree, hx.free, hy.free]
  have f := f54 hB hq 21 hx hy hs.1 (fun v hv => by have := inR_get hs v hv; omega) (fun v hv => by
    have := inR_get hs v hv
    have e : (2 : Nat) ^ 21 = 2097152 := by decide
    omega) (m := m) hm
  simp [callPure, frzL_free H 40 [x, y, .int .i64 (q : Int)] (by simp) ff, f, ff, shiftH, AV.ren, renH, renO]
theorem c54 {x y : AV} {b : List (List Int)} {s : List Int} {q : Nat} (hx : IsLL x b) (hy : IsL y s) (hB : IsB b) (hs : InR b.length 1048576 s) (hq : q < b.length) {m : Nat} (hm : smK + 22 ≤ m) (H : Heap) :
    callPure (evF tab it m) true 54 [x, y, .int .i64 (q : Int)] H = some (.rd 1 b.length (iL (redT b s q)), H) := by
  have f := f54 hB hq 21 hx hy hs.1 (fun v hv => by have := inR_get hs v hv; omega) (fun v hv => by
    have := inR_get hs v hv
    have e : (2 : Nat) ^ 21 = 2097152 := by decide
    omega) (m := m) hm
  exact callPure_frz (by simp [idFreeL, AV.idFree, hx.free, hy.free]) (by simp) f (frz_sl rfl (redT_ok hB s hq).1)
theorem redT_st {b : List (List Int)} (hB : IsB b) {s : List Int} (hs : InR b.length 1048576 s) {q : Nat} (hq : q < b.length) : ∀ v : Nat, v < b.length → -104860600 ≤ getI (redT b s q) (v : Int) ∧ getI (redT b s q) (v : Int) ≤ 104860600 := fun v hv => by
  have := redT_le hB (l := s) hq (M := 1048576) (by decide) (fun w hw _ => inR_get hs w hw) v hv
  omega
theorem f20 {x y : AV} {b : List (List Int)} {s : List Int} {q : Nat} (hx : IsLL x b) (hy : IsL y s) (hB : IsB b) (hs : InR b.length 1048576 s) (hq : q < b.length) {m : Nat} (hm : smK + 23 ≤ m) :
    evF tab it m 20 [x, y, .int .i64 (q : Int)] [] = some (.tup [.sl 0 1 0 b.length, .sl 1 1 0 b.length, .int .i64 0], [some (.data (iL (apl b s (redT b s q)))), some (.data (iL (redT b s q)))]) := by
  have hm1 : 100000 ≤ m := by have := smK_big; omega
  obtain ⟨m, rfl⟩ : ∃ j, m = j + 1 := ⟨m - 1, by omega⟩
  have fx := hx.free; have fy := hy.free
  have hn1 := hB.n1; have hn2 := hB.n2
  have hsl := hs.1
  have e52 := fun H => c52 hx hy (by omega) (by omega) (m := m) (by omega) H
  rw [if_pos ⟨hB, hs⟩] at e52
  have e53 := fun (a lo hi : Int) H => c53 (m := m) (by omega) a lo hi H
  have lx : ∀ H, evP H .len [x] = some (.int .i64 ((b.length : Nat) : Int)) := fun H => by cases hx <;> rfl
  have e54 := fun H => c54o hx hy hB hs hq (m := m) (by omega) H
  have hRl := (redT_ok hB s hq).1
  have hRb := redT_st hB hs hq
  have e55 := c55q hx hy (rd_isL hRl) hB.bd hsl hRl (fun v hv => by have := hRb v hv; omega) (fun v hv => by have := inR_get hs v hv; omega) (m := m) (by omega) [some (.data (iL (redT b s q)))] (args := [x, y, .sl 0 1 0 b.length]) (frzL_cons (frzV_of fx) (frzL_cons (frzV_of fy) (frzL_cons (frz_sl rfl hRl) frzL_nil)))
  clear hm
  refine f_enter rfl rfl ?_
  generalize evF tab it m = call at *
  repeat' first
 | (apply s_mov; exact aW)
 | (apply s_gT; exact rfl)
 | (apply c_nil)
 | (apply s_pickF; exact rfl; exact aW)
 | (apply s_notT; exact rfl)
 | (apply s_notF; exact rfl)
 | (apply s_neq; exact rfl; all_goals (intro _; try (exfalso; omega)))
 | (apply s_sub; exact rfl; omega)
 | (apply s_cn; exact aO; exact e52 _)
 | (apply isE; refine s_cB (by exact aO) (e53 _ _ _ _) (fun _ => ?_) (fun _ => ?_))
 | (apply s_pn; exact aO; exact lx _)
 | (apply s_en; exact aO; exact e54 _)
 | (apply s_en; exact aO; exact e55)
 | (apply c_seq)
 | (apply c_reg)
 | (apply c_skip)
 | (apply c_ret)
 | (apply c_condT; exact rfl)
 | (apply c_condF; exact rfl)
 | (with_reducible apply k_c)
  all_goals first
    | (exfalso; omega)
    | (simp [finish, ress, resOf, look, tupOf, go_sem]; done)
theorem frz_setA {A T : List Int} {n : Nat} (hA : A.length = n) (hT : T.length = n) {e : Int} : frzV [some (.data (iL A)), some (.data (iL T))] 40 (.tup [.sl 0 1 0 n, .sl 1 1 0 n, .int .i64 e]) = some (.tup [.rd 1 n (iL A), .rd 1 n (iL T), .int .i64 e]) :=
  frzV_tup rfl (frzL_cons (frz_sl rfl hA) (frzL_cons (frz_sl rfl hT) (frzL_cons rfl frzL_nil)))
set_option maxHeartbeats 8000000
structure Tk (n k : Nat) (l : List Int) : Prop where
  len : l.length = n
  oth : ∀ v : Nat, v < n → v ≠ 0 → -100 + (k : Int) ≤ getI l (v : Int) ∧ getI l (v : Int) ≤ 100
  own : -1125899906842624 + (k : Int) ≤ getI l ((0 : Nat) : Int) ∧ getI l ((0 : Nat) : Int) ≤ 1125899906842624
theorem Tk.near {n : Nat} {l : List Int} (h : Tk n 0 l) : Near n 0 l := ⟨h.len, fun v hv h0 => by have := h.oth v hv h0; omega, by have := h.own; omega⟩
theorem Tk.step {n k : Nat} {l : List Int} (h : Tk n (k + 1) l) {v : Nat} (hv : v < n) : Tk n k (l.set v (getI l (v : Int) - 1)) := by
  have hl := h.len
  refine ⟨by simp [hl], fun u hu h0 => ?_, ?_⟩
  · rw [getI_set (by omega)]
    have := h.oth u hu h0
    split
    · rename_i e; subst e; omega
    · omega
  · rw [getI_set (by omega)]
    have := h.own
    split
    · rename_i e; subst e; omega
    · omega
theorem Tk.all {n k : Nat} {l : List Int} (h : Tk n k l) : ∀ v : Nat, v < n → -1125899906842624 ≤ getI l (v : Int) ∧ getI l (v : Int) ≤ 1125899906842624 := fun v hv => by
  by_cases e : v = 0
  · subst e; have := h.own; omega
  · have := h.oth v hv e; omega
end Go.AM.Ch
