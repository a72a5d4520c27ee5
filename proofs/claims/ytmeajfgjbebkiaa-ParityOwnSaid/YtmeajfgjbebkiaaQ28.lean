/- A part of the proof: Q28. -/
import Derived.Test.YtmeajfgjbebkiaaQ27
set_option linter.unusedSectionVars false
set_option linter.unusedVariables false
set_option linter.unusedSimpArgs false
namespace Go.AM.Pa
theorem sol_empty {g : Gm} {inn : List Bool} {mv : List Int} (h : inn = z24) : Sol g inn inn mv := by
  subst h
  have no : ∀ p v, ¬ Side z24 z24 p v := fun p v h => by have := h.1; rw [getB_z24] at this; cases this
  exact ⟨fun p _ v h => absurd h (no p v), fun p _ v h => absurd h (no p v), fun p _ f h => absurd (h 0).1 (no p _)⟩
/-- where nothing is lost -/
theorem sol_all {g : Gm} (hg : Good g) {n : Nat} (hnn : g.next.length = n) {inn hds : List Bool} {mv0 : List Int} {r p : Int} (ha : Area g inn) (hp : p = 0 ∨ p = 1) (hrp : r.tmod 2 = p) (hle : ∀ i : Nat, getB inn i = true → getI g.rank i ≤ r)
    (hhl : hds.length = 24) (hh : ∀ i : Nat, getB hds i = (getB inn i && decide (getI g.rank i = r))) {near : List Bool} {mv1 mv2 : List Int} {d : Nat → Nat} {B : Nat} (gn : Grown g inn p hds mv0 near mv1 d B) (an : IsAttr g inn p hds near) (hm2 : mv2.length = n)
    {z2 : List Bool} (hz : z2.length = 24) (s2 : Sol g (woB inn near) z2 mv2) (hall : ∀ v : Nat, getB (woB inn near) v = true → Side (woB inn near) z2 p v) (hk : ∀ v : Nat, getB (woB inn near) v = false → getI mv2 v = getI mv1 v) :
    Sol g inn (asB inn p inn) (setMv g inn p (trues hds) mv2) := by
  have hn24 : n ≤ 24 := by have := hg.1; omega
  have hlt : ∀ v : Nat, getB inn v = true → v < n := fun v h => by have := ha.lt v h; omega
  have hw := getB_wo ha.len an.len
  have sm : ∀ v : Nat, Side inn (asB inn p inn) p v ↔ getB inn v = true := side_own hp ha.len ha.len fun _ h => h
  have so : ∀ v : Nat, ¬ Side inn (asB inn p inn) (1 - p) v := fun v h => by
    have := (side_other hp ha.len ha.len v).1 h
    rw [this.1] at this; cases this.2
  have hht : ∀ v : Nat, v ∈ trues hds ↔ getB hds v = true := fun v => ⟨fun h => (trues_mem h).2, fun h => trues_of (by have := hlt v (by rw [hh] at h; simp at h; exact h.1); omega) h⟩
  have gm : ∀ v : Nat, getI (setMv g inn p (trues hds) mv2) v = if v ∈ trues hds ∧ getI g.owner v = p then firstIn g inn v else getI mv2 v := fun v => setMv_get _ _ _ fun w hw => by
    have := (hht w).1 hw
    have := hlt w (by rw [hh] at this; simp at this; exact this.1)
    omega
  have q01 : ∀ q : Int, (q = 0 ∨ q = 1) → q = p ∨ q = 1 - p := fun q hq => by omega
  refine ⟨fun q hq v hv ho => ?_, fun q hq v hv ho u hu1 hu2 => ?_, fun q hq f hf r0 hr0 => ?_⟩
  · rcases q01 q hq with rfl | rfl
    · have hvi := (sm v).1 hv
      have hvn := hlt v hvi
      rw [gm]
      by_cases hvh : getB hds v = true
      · rw [if_pos ⟨(hht v).2 hvh, ho⟩]
        obtain ⟨f1, f2⟩ := first_spec (ha.go v hvi)
        have := row_mem hg hnn hvn _ f1
        refine ⟨(firstIn g inn v).toNat, by omega, ?_, (sm _).2 ?_⟩
        · rw [show (((firstIn g inn v).toNat : Nat) : Int) = firstIn g inn v by omega]; exact f1
        · rw [show (((firstIn g inn v).toNat : Nat) : Int) = firstIn g inn v by omega]; exact f2
      · rw [if_neg (fun h => hvh ((hht v).1 h.1))]
        by_cases hvnr : getB near v = true
        · have hwv : getB (woB inn near) v = false := by rw [hw, hvnr]; simp
          rw [hk v hwv]
          obtain ⟨u, u1, u2, u3, u4, u5⟩ := gn.mine v hvnr (by simpa using hvh) ho
          exact ⟨u, u1, u2, (sm u).2 u3⟩
        · have hwv : getB (woB inn near) v = true := by rw [hw, hvi]; simpa using hvnr
          obtain ⟨u, u1, u2, u3⟩ := s2.mem q hq v (hall v hwv) ho
          have := u3.1
          rw [hw] at this
          simp at this
          exact ⟨u, u1, u2, (sm u).2 this.1⟩
    · exact absurd hv (so v)
  · rcases q01 q hq with rfl | rfl
    · exact (sm u).2 hu2
    · exact absurd hv (so v)
  · rcases q01 q hq with rfl | rfl
    · have hfi : ∀ i, getB inn (f i : Nat) = true := fun i => (sm _).1 (hf i).1
      by_cases hev : ∃ N, ∀ i, N ≤ i → getB near (f i : Nat) = false
      · obtain ⟨N, hN⟩ := hev
        have hw2 : ∀ i, N ≤ i → getB (woB inn near) (f i : Nat) = true := fun i hi => by rw [hw, hfi i, hN i hi]; rfl
        refine s2.win q hq (fun i => f (i + N)) (fun i => ⟨hall _ (hw2 _ (by omega)), ?_⟩) r0 (lim_shift hr0 N)
        obtain ⟨e1, e2, e3⟩ := (hf (i + N)).2
        have hidx : i + 1 + N = i + N + 1 := by omega
        simp only [hidx]
        refine ⟨e1, hw2 _ (by omega), fun ho => ?_⟩
        rw [e3 ho, gm, if_neg]
        intro h
        have := an.sub _ ((hht _).1 h.1)
        rw [hN (i + N) (by omega)] at this; cases this
      · have hio : ∀ N, ∃ i, N ≤ i ∧ getB near (f i : Nat) = true := fun N => Classical.byContradiction fun hx => hev ⟨N, fun i hi => by
          cases hy : getB near (f i : Nat)
          · rfl
          · exact absurd ⟨i, hi, hy⟩ hx⟩
        have toh : ∀ (m i : Nat), d (f i) < m → getB near (f i : Nat) = true → ∃ j, i ≤ j ∧ getB hds (f j : Nat) = true := by
          intro m
          induction m with
          | zero => intro i h; omega
          | succ m ih =>
            intro i hd hnr
            by_cases hhi : getB hds (f i : Nat) = true
            · exact ⟨i, Nat.le_refl _, hhi⟩
            · have hhi' : getB hds (f i : Nat) = false := by simpa using hhi
              obtain ⟨e1, e2, e3⟩ := (hf i).2
              have hwv : getB (woB inn near) (f i : Nat) = false := by rw [hw, hnr]; simp
              have nxt : getB near (f (i + 1) : Nat) = true ∧ d (f (i + 1)) < d (f i) := by
                by_cases ho : getI g.owner (f i : Nat) = q
                · obtain ⟨u, u1, u2, u3, u4, u5⟩ := gn.mine _ hnr hhi' ho
                  have e4 := e3 ho
                  rw [gm, if_neg (fun h => hhi ((hht _).1 h.1)), hk _ hwv, ← u1] at e4
                  have : f (i + 1) = u := by omega
                  rw [this]
                  exact ⟨u4, u5⟩
                · exact gn.thine _ hnr hhi' ho _ e1 e2
              obtain ⟨j, hj1, hj2⟩ := ih (i + 1) (by omega) nxt.1
              exact ⟨j, by omega, hj2⟩
        obtain ⟨h1, M, h2⟩ := hr0
        obtain ⟨i, hi, hin⟩ := hio M
        obtain ⟨j, hj1, hj2⟩ := toh _ i (Nat.lt_succ_self _) hin
        rw [hh] at hj2
        simp at hj2
        have b1 := h2 j (by omega)
        obtain ⟨i2, -, e2⟩ := h1 0
        have b2 := hle (f i2) (hfi i2)
        have : r0 = r := by omega
        rw [this]; exact hrp
    · exact absurd (hf 0).1 (so _)
/-- where the other player has won something -/
theorem sol_some {g : Gm} (hg : Good g) {n : Nat} (hnn : g.next.length = n) {inn near : List Bool} {p : Int} (ha : Area g inn) (hp : p = 0 ∨ p = 1) {hds : List Bool} (an : IsAttr g inn p hds near)
    {z2 : List Bool} {mv2 : List Int} (s2 : Sol g (woB inn near) z2 mv2) {lost : List Bool} (hll : lost.length = 24) (hl : ∀ v : Nat, getB lost v = true ↔ Side (woB inn near) z2 (1 - p) v)
    {far : List Bool} {mv3 : List Int} {d : Nat → Nat} {B : Nat} (gf : Grown g inn (1 - p) lost mv2 far mv3 d B) (af : IsAttr g inn (1 - p) lost far)
    {z3 : List Bool} {mv4 : List Int} (hz3 : z3.length = 24) (hs3 : ∀ v : Nat, getB z3 v = true → getB (woB inn far) v = true) (s3 : Sol g (woB inn far) z3 mv4) (hk : ∀ v : Nat, getB (woB inn far) v = false → getI mv4 v = getI mv3 v) :
    Sol g inn (asB inn p (asB (woB inn far) p z3)) mv4 := by
  have hn24 : n ≤ 24 := by have := hg.1; omega
  have hlt : ∀ v : Nat, getB inn v = true → v < n := fun v h => by have := ha.lt v h; omega
  have hw := getB_wo ha.len an.len
  have hwf := getB_wo ha.len af.len
  have hl3 := wo_len (b := far) ha.len
  have hrl := as_len (p := p) hl3 hz3
  have sr := side_as hp hl3 hz3 hs3
  have hrs : ∀ v : Nat, getB (asB (woB inn far) p z3) v = true → getB inn v = true := fun v h => by
    have := ((sr v).1 h).1
    rw [hwf] at this; simp at this; exact this.1
  have sm : ∀ v : Nat, Side inn (asB inn p (asB (woB inn far) p z3)) p v ↔ Side (woB inn far) z3 p v := fun v => (side_own hp ha.len hrl hrs v).trans (sr v)
  have split3 : ∀ v : Nat, getB (woB inn far) v = true → Side (woB inn far) z3 p v ∨ Side (woB inn far) z3 (1 - p) v := fun v h => by
    unfold Side
    rcases hp with rfl | rfl
    · cases hx : getB z3 v <;> simp [h]
    · cases hx : getB z3 v <;> simp [h]
  have excl : ∀ v : Nat, Side (woB inn far) z3 p v → Side (woB inn far) z3 (1 - p) v → False := fun v h1 h2 => by
    unfold Side at h1 h2
    rcases hp with rfl | rfl
    · have a := h1.2; have b := h2.2; simp at a b; rw [a] at b; cases b
    · have a := h1.2; have b := h2.2; simp at a b; rw [a] at b; cases b
  have so : ∀ v : Nat, Side inn (asB inn p (asB (woB inn far) p z3)) (1 - p) v ↔ getB inn v = true ∧ (getB far v = true ∨ Side (woB inn far) z3 (1 - p) v) := fun v => by
    rw [side_other hp ha.len hrl v]
    constructor
    · intro ⟨h1, h2⟩
      refine ⟨h1, ?_⟩
      by_cases hf : getB far v = true
      · exact .inl hf
      · right
        have h3 : getB (woB inn far) v = true := by rw [hwf, h1]; simpa using hf
        rcases split3 v h3 with h | h
        · rw [(sr v).2 h] at h2; cases h2
        · exact h
    · intro ⟨h1, h2⟩
      refine ⟨h1, ?_⟩
      cases hx : getB (asB (woB inn far) p z3) v
      · rfl
      · have h3 := (sr v).1 hx
        rcases h2 with h2 | h2
        · have := h3.1
          rw [hwf, h2] at this; simp at this
        · exact (excl v h3 h2).elim
  have q1 : (1 - p = 0 ∨ 1 - p = 1) := by omega
  have own01 : ∀ v : Nat, getB inn v = true → getI g.owner v = p ∨ getI g.owner v = 1 - p := fun v h => by
    have := (hg.2.2.2 v (by have := hlt v h; omega)).1
    omega
  have q01 : ∀ q : Int, (q = 0 ∨ q = 1) → q = p ∨ q = 1 - p := fun q hq => by omega
  -- a place of the lost ones is kept among them
  have lin : ∀ v : Nat, getB lost v = true → getB (woB inn near) v = true ∧ getB inn v = true ∧ getB near v = false := fun v h => by
    have h1 := ((hl v).1 h).1
    have h2 := h1
    rw [hw] at h2; simp at h2
    exact ⟨h1, h2.1, h2.2⟩
  have lmv : ∀ v : Nat, getB lost v = true → getI mv4 v = getI mv2 v := fun v h => by
    have hf := af.sub v h
    rw [hk v (by rw [hwf, hf]; simp), gf.keep v (.inr h)]
  have fmv : ∀ v : Nat, getB far v = true → getI mv4 v = getI mv3 v := fun v h => hk v (by rw [hwf, h]; simp)
  have ltrap : ∀ v : Nat, getB lost v = true → getI g.owner v ≠ 1 - p → ∀ u : Nat, (u : Int) ∈ getLL g.next v → getB inn u = true → getB lost u = true := fun v h ho u hu1 hu2 => by
    obtain ⟨h1, h2, h3⟩ := lin v h
    have hop : getI g.owner v = p := (own01 v h2).resolve_right ho
    have hnd := (an.fix v h2).resolve_left (by rw [h3]; simp)
    have hun : getB near u = false := by
      cases hx : getB near u
      · rfl
      · exact absurd (.inl ⟨hop, List.any_eq_true.2 ⟨u, hu1, by rw [hu2, hx]; rfl⟩⟩) hnd
    have hu3 : getB (woB inn near) u = true := by rw [hw, hu2, hun]; rfl
    exact (hl u).2 (s2.trap _ q1 v ((hl v).1 h) ho u hu1 hu3)
  refine ⟨fun q hq v hv ho => ?_, fun q hq v hv ho u hu1 hu2 => ?_, fun q hq f hf r0 hr0 => ?_⟩
  · rcases q01 q hq with rfl | rfl
    · obtain ⟨u, u1, u2, u3⟩ := s3.mem q hq v ((sm v).1 hv) ho
      exact ⟨u, u1, u2, (sm u).2 u3⟩
    · obtain ⟨hvi, h⟩ := (so v).1 hv
      rcases h with h | h
      · by_cases hlo : getB lost v = true
        · obtain ⟨u, u1, u2, u3⟩ := s2.mem _ q1 v ((hl v).1 hlo) ho
          have hlu := (hl u).2 u3
          exact ⟨u, by rw [u1, lmv v hlo], u2, (so u).2 ⟨(lin u hlu).2.1, .inl (af.sub u hlu)⟩⟩
        · obtain ⟨u, u1, u2, u3, u4, u5⟩ := gf.mine v h (by simpa using hlo) ho
          exact ⟨u, by rw [u1, fmv v h], u2, (so u).2 ⟨u3, .inl u4⟩⟩
      · obtain ⟨u, u1, u2, u3⟩ := s3.mem _ q1 v h ho
        have := u3.1
        rw [hwf] at this; simp at this
        exact ⟨u, u1, u2, (so u).2 ⟨this.1, .inr u3⟩⟩
  · rcases q01 q hq with rfl | rfl
    · have h3 := (sm v).1 hv
      have hv3 := h3.1
      rw [hwf] at hv3; simp at hv3
      have hnd := (af.fix v hv3.1).resolve_left (by rw [hv3.2]; simp)
      have hop : getI g.owner v = 1 - q := (own01 v hv3.1).resolve_left ho
      have huf : getB far u = false := by
        cases hx : getB far u
        · rfl
        · exact absurd (.inl ⟨hop, List.any_eq_true.2 ⟨u, hu1, by rw [hu2, hx]; rfl⟩⟩) hnd
      exact (sm u).2 (s3.trap q hq v h3 ho u hu1 (by rw [hwf, hu2, huf]; rfl))
    · obtain ⟨hvi, h⟩ := (so v).1 hv
      rcases h with h | h
      · by_cases hlo : getB lost v = true
        · exact (so u).2 ⟨hu2, .inl (af.sub u (ltrap v hlo ho u hu1 hu2))⟩
        · exact (so u).2 ⟨hu2, .inl (gf.thine v h (by simpa using hlo) ho u hu1 hu2).1⟩
      · by_cases huf : getB far u = true
        · exact (so u).2 ⟨hu2, .inl huf⟩
        · exact (so u).2 ⟨hu2, .inr (s3.trap _ q1 v h ho u hu1 (by rw [hwf, hu2]; simpa using huf))⟩
  · rcases q01 q hq with rfl | rfl
    · refine s3.win q hq f (fun i => ⟨(sm _).1 (hf i).1, ?_⟩) r0 hr0
      obtain ⟨e1, e2, e3⟩ := (hf i).2
      exact ⟨e1, ((sm _).1 (hf (i + 1)).1).1, e3⟩
    · by_cases hev : ∃ i, getB far (f i : Nat) = true
      · obtain ⟨i0, hi0⟩ := hev
        have tol : ∀ (m i : Nat), d (f i) < m → getB far (f i : Nat) = true → ∃ j, getB lost (f j : Nat) = true := by
          intro m
          induction m with
          | zero => intro i h; omega
          | succ m ih =>
            intro i hd hfa
            by_cases hlo : getB lost (f i : Nat) = true
            · exact ⟨i, hlo⟩
            · have hlo' : getB lost (f i : Nat) = false := by simpa using hlo
              obtain ⟨e1, e2, e3⟩ := (hf i).2
              have nxt : getB far (f (i + 1) : Nat) = true ∧ d (f (i + 1)) < d (f i) := by
                by_cases ho : getI g.owner (f i : Nat) = 1 - p
                · obtain ⟨u, u1, u2, u3, u4, u5⟩ := gf.mine _ hfa hlo' ho
                  have e4 := e3 ho
                  rw [fmv _ hfa, ← u1] at e4
                  have : f (i + 1) = u := by omega
                  rw [this]
                  exact ⟨u4, u5⟩
                · exact gf.thine _ hfa hlo' ho _ e1 e2
              exact ih (i + 1) (by omega) nxt.1
        obtain ⟨j, hj⟩ := tol _ i0 (Nat.lt_succ_self _) hi0
        have stay : ∀ i, getB lost (f (i + j) : Nat) = true := by
          intro i
          induction i with
          | zero => simpa using hj
          | succ i ih =>
            obtain ⟨e1, e2, e3⟩ := (hf (i + j)).2
            rw [show i + 1 + j = i + j + 1 by omega]
            by_cases ho : getI g.owner (f (i + j) : Nat) = 1 - p
            · obtain ⟨u, u1, u2, u3⟩ := s2.mem _ q1 _ ((hl _).1 ih) ho
              have e4 := e3 ho
              rw [lmv _ ih, ← u1] at e4
              have : f (i + j + 1) = u := by omega
              rw [this]
              exact (hl u).2 u3
            · exact ltrap _ ih ho _ e1 e2
        refine s2.win _ q1 (fun i => f (i + j)) (fun i => ⟨(hl _).1 (stay i), ?_⟩) r0 (lim_shift hr0 j)
        obtain ⟨e1, e2, e3⟩ := (hf (i + j)).2
        have hidx : i + 1 + j = i + j + 1 := by omega
        have := stay (i + 1)
        simp only [hidx] at this ⊢
        exact ⟨e1, (lin _ this).1, fun ho => by rw [e3 ho, lmv _ (stay i)]⟩
      · have hnf : ∀ i, getB far (f i : Nat) = false := fun i => by
          cases hx : getB far (f i : Nat)
          · rfl
          · exact absurd ⟨i, hx⟩ hev
        have h3 : ∀ i, Side (woB inn far) z3 (1 - p) (f i) := fun i => (((so _).1 (hf i).1).2).resolve_left (by rw [hnf i]; simp)
        refine s3.win _ q1 f (fun i => ⟨h3 i, ?_⟩) r0 hr0
        obtain ⟨e1, e2, e3⟩ := (hf i).2
        exact ⟨e1, (h3 (i + 1)).1, e3⟩
/-- what zsol finds is right -/
theorem zsol_sol {g : Gm} (hg : Good g) {n : Nat} (hnn : g.next.length = n) : ∀ (k : Nat) (inn : List Bool) (mv : List Int), Area g inn → mv.length = n → ct inn < k → Sol g inn (zsol g k inn mv).1 (zsol g k inn mv).2
  | 0, _, _, _, _, h => by omega
  | k + 1, inn, mv, ha, hm, hct => by
    simp only [zsol]
    split
    · rename_i h; exact sol_empty h
    · rename_i hne
      obtain ⟨⟨hd, hd1, hd2⟩, hr0, hr9, hle⟩ := top_head hg ha hne
      have hin : ∀ i : Nat, getB inn i = true → i < n := fun i h => by have := ha.lt i h; omega
      have hhl : (heads g inn (topRank g inn)).length = 24 := by rw [heads, heads_len, z24_len]
      have hh := fun i => getB_heads g inn (topRank g inn) ha.len i
      have hp : (topRank g inn).tmod 2 = 0 ∨ (topRank g inn).tmod 2 = 1 := by
        rw [Int.tmod_eq_emod_of_nonneg hr0]; omega
      generalize heads g inn (topRank g inn) = hds at *
      generalize hpr : (topRank g inn).tmod 2 = p at *
      obtain ⟨a1, m1⟩ := runN_attr (g := g) (p := p) ha.len 26 hds mv hhl hm (by have := cf_le hds; omega)
      obtain ⟨d1, B1, g1⟩ := grown_run (p := p) hg hnn hin 26 hds mv _ _ hhl hm grown_zero
      have c2 : ct (woB inn (runN g inn p 26 hds mv).1) < ct inn := ct_wo ha.len a1.len hd1 (a1.sub hd hd2)
      generalize runN g inn p 26 hds mv = N1 at *
      have ar2 := area_wo ha a1
      obtain ⟨l2, m2, s2⟩ := zsol_sub hg k _ _ ar2 m1
      have ih2 := zsol_sol hg hnn k _ _ ar2 m1 (by omega)
      have kp2 := zsol_keep hg hnn k _ _ ar2 m1
      generalize zsol g k (woB inn N1.1) N1.2 = Z2 at *
      have q1 : (1 - p = 0 ∨ 1 - p = 1) := by omega
      have hl := side_as q1 ar2.len l2 s2
      have hll := as_len (p := 1 - p) ar2.len l2
      split
      · rename_i hle2
        rw [hle2] at hl
        refine sol_all hg hnn ha hp hpr hle hhl hh g1 a1 m2 l2 ih2 (fun v hv => ?_) kp2
        have hno : ¬ Side (woB inn N1.1) Z2.1 (1 - p) v := fun h => by have := (hl v).2 h; rw [getB_z24] at this; cases this
        unfold Side at hno ⊢
        refine ⟨hv, ?_⟩
        rcases hp with rfl | rfl
        · cases hx : getB Z2.1 v
          · exact absurd ⟨hv, by simp [hx]⟩ hno
          · simp
        · cases hx : getB Z2.1 v
          · simp
          · exact absurd ⟨hv, by simp [hx]⟩ hno
      · rename_i hle2
        have hlsub : ∀ i : Nat, getB (asB (woB inn N1.1) (1 - p) Z2.1) i = true → getB inn i = true := fun i h => by
          have := as_sub ar2.len l2 s2 i h
          rw [getB_wo ha.len a1.len] at this; simp at this; exact this.1
        generalize asB (woB inn N1.1) (1 - p) Z2.1 = lost at *
        obtain ⟨hq, hq1⟩ := ne_z hll hle2
        obtain ⟨a3, m3⟩ := runN_attr (g := g) (p := 1 - p) ha.len 26 lost Z2.2 hll m2 (by have := cf_le lost; omega)
        obtain ⟨d3, B3, g3⟩ := grown_run (p := 1 - p) hg hnn hin 26 lost Z2.2 _ _ hll m2 grown_zero
        have c3 : ct (woB inn (runN g inn (1 - p) 26 lost Z2.2).1) < ct inn := ct_wo ha.len a3.len (hlsub hq hq1) (a3.sub hq hq1)
        generalize runN g inn (1 - p) 26 lost Z2.2 = N3 at *
        have ar3 := area_wo ha a3
        obtain ⟨l4, m4, s4⟩ := zsol_sub hg k _ _ ar3 m3
        have ih3 := zsol_sol hg hnn k _ _ ar3 m3 (by omega)
        have kp3 := zsol_keep hg hnn k _ _ ar3 m3
        exact sol_some hg hnn ha hp a1 ih2 hll hl g3 a3 l4 s4 ih3 kp3
/-- the whole game -/
theorem zAll_sol {g : Gm} (hg : Good g) : Sol g (fl g.next.length) (zAll g).1 (zAll g).2 :=
  zsol_sol hg rfl 25 _ _ (area_fl hg) (by simp) (by have := ct_le (fl g.next.length); rw [(area_fl hg).len] at this; omega)
end Go.AM.Pa
