/- A part of the proof: TC2 TC4 TN1 TN2 T1 T3 T4 T6 T20 T21 T7 TG1 TG2 T9. -/
import Derived.Test.YtdgkchedoooffaaM3
import Derived.Test.YtdgkchedoooffaaPc
set_option linter.unusedVariables false
set_option linter.unusedSimpArgs false
set_option linter.unusedSectionVars false
namespace Go.AM.Tb
def pN : Nat → (Nat → Nat) → Nat
  | 0, _ => 1
  | n + 1, f => pN n f * f n
def sN : Nat → (Nat → Nat) → Nat
  | 0, _ => 0
  | n + 1, f => sN n f + f n
def cN (l : Nat → Nat) (i : Nat) : Nat → Nat → Nat
  | 0, _ => 0
  | m + 1, k => cN l i m k + (if i < m ∧ k < l m then 1 else 0)
def rN (l : Nat → Nat) (i m : Nat) : Nat := pN (l i) fun k => l i - k + cN l i m k
def eN (l : Nat → Nat) (i : Nat) : Nat → Nat
  | 0 => 1
  | m + 1 => eN l i m * (if i < m then l i - l m + (m - i) else 1)
def hN (l : Nat → Nat) (m : Nat) : Nat := pN m fun i => rN l i m
def Mono (l : Nat → Nat) (m : Nat) : Prop := ∀ i j, i ≤ j → j < m → l j ≤ l i
def IsSh (l : List Int) : Prop := ∀ j : Nat, j < l.length → 1 ≤ getI l (j : Int) ∧ (0 < j → getI l (j : Int) ≤ getI l ((j - 1 : Nat) : Int))
instance (l : List Int) : Decidable (IsSh l) := by unfold IsSh; exact inferInstance
def lam (l : List Int) (i : Nat) : Nat := (getI l (i : Int)).toNat
theorem getI_out {l : List Int} {i : Nat} (h : l.length ≤ i) : getI l (i : Int) = 0 := by rw [getI_nat]; simp [List.getD, h]
theorem lam_out {l : List Int} {i : Nat} (h : l.length ≤ i) : lam l i = 0 := by unfold lam; rw [getI_out h]; rfl
theorem IsSh.pos {l : List Int} (h : IsSh l) {i : Nat} (hi : i < l.length) : 1 ≤ lam l i ∧ (lam l i : Int) = getI l (i : Int) := by
  have := (h i hi).1
  unfold lam
  omega
theorem IsSh.mono {l : List Int} (h : IsSh l) : ∀ m, Mono (lam l) m := by
  have key : ∀ d i, lam l (i + d) ≤ lam l i := by
    intro d
    induction d with
    | zero => intro i; exact Nat.le_refl _
    | succ d ih =>
      intro i
      refine Nat.le_trans ?_ (ih i)
      rcases Nat.lt_or_ge (i + (d + 1)) l.length with h1 | h1
      · have := (h (i + (d + 1)) h1).2 (by omega)
        rw [show i + (d + 1) - 1 = i + d by omega] at this
        unfold lam; omega
      · rw [lam_out h1]; omega
  intro m i j hij _
  have := key (j - i) i
  rwa [show i + (j - i) = j by omega] at this
theorem set_get {l : List Int} {k i : Nat} {v : Int} (h : k < l.length) : getI (l.set k v) (i : Int) = if i = k then v else getI l (i : Int) := by
  rw [getI_nat, getI_nat]
  by_cases e : i = k
  · subst e; simp [List.getD, h]
  · rw [if_neg e]; simp [List.getD, List.getElem?_set_ne (Ne.symm e)]
structure Ed where
  u : Nat
  v : Nat
  c : Int
  g : Int
def eg (E : List Ed) (e : Nat) : Ed := E.getD e ⟨0, 0, 0, 0⟩
def aS (E : List Ed) (k : Nat) : Nat := if k % 2 = 0 then (eg E (k / 2)).u else (eg E (k / 2)).v
def aD (E : List Ed) (k : Nat) : Nat := if k % 2 = 0 then (eg E (k / 2)).v else (eg E (k / 2)).u
def aG (E : List Ed) (k : Nat) : Int := if k % 2 = 0 then (eg E (k / 2)).g else -(eg E (k / 2)).g
def mate (k : Nat) : Nat := if k % 2 = 0 then k + 1 else k - 1
def arcs (E : List Ed) (R : Nat → Int) (n : Nat) : List Int := (List.range n).flatMap fun k => [(aS E k : Int), (aD E k : Int), R k, aG E k]
theorem arcs_succ (E R n) : arcs E R (n + 1) = arcs E R n ++ [(aS E n : Int), (aD E n : Int), R n, aG E n] := by simp [arcs, List.range_succ]
theorem arcs_len (E R) : ∀ n, (arcs E R n).length = 4 * n
  | 0 => rfl
  | n + 1 => by rw [arcs_succ, List.length_append, arcs_len E R n]; simp; omega
theorem arcs_at (E R) : ∀ n k, k < n → ((arcs E R n).drop (4 * k)).take 4 = [(aS E k : Int), (aD E k : Int), R k, aG E k]
  | 0, k, h => by omega
  | n + 1, k, h => by
    rw [arcs_succ]
    have hl := arcs_len E R n
    by_cases e : k = n
    · subst e
      rw [List.drop_append_of_le_length (by omega), List.drop_of_length_le (by omega)]
      rfl
    · rw [List.drop_append_of_le_length (by omega), List.take_append_of_le_length (by rw [List.length_drop]; omega)]
      exact arcs_at E R n k (by omega)
theorem arcs_get (E R) {n k t : Nat} (h : k < n) (ht : t < 4) : getI (arcs E R n) ((4 * k + t : Nat) : Int) = getI [(aS E k : Int), (aD E k : Int), R k, aG E k] (t : Int) := by
  have := arcs_at E R n k h
  rw [getI_nat, getI_nat, ← this]
  simp [List.getD, List.getElem?_take, ht, List.getElem?_drop]
theorem arcs_set (E R) : ∀ n k x, k < n → (arcs E R n).set (4 * k + 2) x = arcs E (fun j => if j = k then x else R j) n
  | 0, k, x, h => by omega
  | n + 1, k, x, h => by
    rw [arcs_succ, arcs_succ]
    have hl := arcs_len E R n
    by_cases e : k = n
    · subst e
      rw [List.set_append_right _ _ (by omega), hl, show 4 * k + 2 - 4 * k = 2 by omega]
      have : arcs E (fun j => if j = k then x else R j) k = arcs E R k := by
        unfold arcs
        have : ∀ l : List Nat, (∀ j ∈ l, j ≠ k) → (l.flatMap fun j => [(aS E j : Int), (aD E j : Int), if j = k then x else R j, aG E j]) = l.flatMap fun j => [(aS E j : Int), (aD E j : Int), R j, aG E j] := by
          intro l
          induction l with
          | nil => intro _; rfl
          | cons a l ih => intro h; simp only [List.flatMap_cons]; rw [ih fun j hj => h j (by simp [hj]), if_neg (h a (by simp))]
        exact this _ fun j hj => by simp at hj; omega
      rw [this, if_pos rfl]
      rfl
    · rw [List.set_append_left _ _ (by omega), arcs_set E R n k x (by omega), if_neg (fun e' => e e'.symm)]
theorem sN_lt2 {f g : Nat → Nat} : ∀ {m i : Nat}, (∀ k, k < m → f k ≤ g k) → f i < g i → i < m → sN m f < sN m g
  | 0, i, _, _, h => by omega
  | m + 1, i, h, hi, hm => by
    have le : ∀ q, q ≤ m → sN q f ≤ sN q g := by
      intro q
      induction q with
      | zero => intro _; exact Nat.le_refl _
      | succ q ih => intro hq; have := ih (by omega); have := h q (by omega); simp only [sN]; omega
    simp only [sN]
    by_cases e : i = m
    · subst e; have := le i (Nat.le_refl _); omega
    · have := sN_lt2 (m := m) (fun k hk => h k (by omega)) hi (by omega); have := h m (by omega); omega
def far : Int := -1048576
structure GI (E : List Ed) (R : Nat → Int) (M N : Nat) (p : Nat → Int) (gn by_ : List Int) (T : Nat → Nat) (t : Nat) : Prop where
  gl : gn.length = N
  bl : by_.length = N
  g0 : getI gn ((0 : Nat) : Int) = 0
  lo : ∀ v, v < N → far ≤ getI gn (v : Int) ∧ (getI gn (v : Int) = far ∨ getI gn (v : Int) ≤ p v)
  bk : ∀ v, 0 < v → v < N → far < getI gn (v : Int) → ∃ k : Nat, getI by_ (v : Int) = (k : Int) ∧ k < 2 * M ∧ 0 < R k ∧ aD E k = v ∧ aS E k < N ∧ far < getI gn (aS E k : Int) ∧ getI gn (v : Int) ≤ getI gn (aS E k : Int) + aG E k ∧ (getI gn (v : Int) = getI gn (aS E k : Int) + aG E k → T (aS E k) < T v)
  tm : ∀ v, T v ≤ t
def Ph (N : Nat) (p : Nat → Int) (gn : List Int) : Nat := sN N fun v => (p v - getI gn (v : Int)).toNat
theorem GI.step {E R M N p gn by_ T t} (h : GI E R M N p gn by_ T t) (hp : ∀ k, k < 2 * M → 0 < R k → p (aS E k) + aG E k ≤ p (aD E k)) (hp0 : p 0 = 0) (hpb : ∀ v, v < N → -200 ≤ p v) (hN : ∀ k, k < 2 * M → aS E k < N ∧ aD E k < N ∧ aS E k ≠ aD E k) {k : Nat} (hk : k < 2 * M) (hR : 0 < R k) (hf : far < getI gn (aS E k : Int)) (hgt : getI gn (aD E k : Int) < getI gn (aS E k : Int) + aG E k) :
    GI E R M N p (gn.set (aD E k) (getI gn (aS E k : Int) + aG E k)) (by_.set (aD E k) (k : Int)) (fun v => if v = aD E k then t + 1 else T v) (t + 1) ∧ Ph N p (gn.set (aD E k) (getI gn (aS E k : Int) + aG E k)) + 1 ≤ Ph N p gn := by
  obtain ⟨n1, n2, n3⟩ := hN k hk
  have hle : getI gn (aS E k : Int) + aG E k ≤ p (aD E k) := by
    have h1 := hp k hk hR
    rcases (h.lo _ n1).2 with h2 | h2
    · omega
    · omega
  have hd0 : aD E k ≠ 0 := fun e => by
    rw [e] at hle hgt
    have := h.g0
    rw [hp0] at hle
    omega
  have hgl := h.gl
  have hbl := h.bl
  have hg : ∀ v : Nat, getI (gn.set (aD E k) (getI gn (aS E k : Int) + aG E k)) (v : Int) = if v = aD E k then getI gn (aS E k : Int) + aG E k else getI gn (v : Int) := fun v => set_get (by omega)
  have hb : ∀ v : Nat, getI (by_.set (aD E k) (k : Int)) (v : Int) = if v = aD E k then (k : Int) else getI by_ (v : Int) := fun v => set_get (by omega)
  have hfar := (h.lo _ n2).1
  refine ⟨⟨by simpa using hgl, by simpa using hbl, ?_, fun v hv => ?_, fun v h0 hv hfv => ?_, fun v => ?_⟩, ?_⟩
  · rw [hg, if_neg (fun e => hd0 e.symm)]; exact h.g0
  · rw [hg]
    split
    · rename_i e; subst e; exact ⟨by omega, .inr hle⟩
    · exact h.lo v hv
  · rw [hg] at hfv ⊢
    rw [hb]
    by_cases e : v = aD E k
    · subst e
      refine ⟨k, if_pos rfl, hk, hR, rfl, n1, ?_, ?_, fun _ => ?_⟩
      · rw [hg, if_neg n3]; exact hf
      · rw [if_pos rfl, hg, if_neg n3]; exact Int.le_refl _
      · rw [if_neg n3, if_pos rfl]; have := h.tm (aS E k); omega
    · rw [if_neg e] at hfv ⊢
      rw [if_neg e]
      obtain ⟨j, j1, j2, j3, j4, j5, j6, j7, j8⟩ := h.bk v h0 hv hfv
      refine ⟨j, j1, j2, j3, j4, j5, ?_, ?_, fun he => ?_⟩
      · rw [hg]; split
        · omega
        · exact j6
      · rw [hg]; split
        · rename_i e2; rw [e2] at j7; omega
        · exact j7
      · rw [hg] at he
        rw [if_neg e]
        split at he
        · rename_i e2; rw [e2] at j7; omega
        · rename_i e2; rw [if_neg e2]; exact j8 he
  · show (if v = aD E k then t + 1 else T v) ≤ t + 1
    split
    · omega
    · have := h.tm v; omega
  · unfold Ph
    have := sN_lt2 (f := fun v => (p v - getI (gn.set (aD E k) (getI gn (aS E k : Int) + aG E k)) (v : Int)).toNat) (g := fun v => (p v - getI gn (v : Int)).toNat) (i := aD E k) (m := N) (fun v hv => by
      rw [hg]
      split
      · rename_i e; subst e; omega
      · exact Nat.le_refl _) (by rw [hg, if_pos rfl]; omega) n2
    omega
structure GD (E : List Ed) (R : Nat → Int) (M N : Nat) (gn by_ : List Int) (T : Nat → Nat) : Prop where
  gl : gn.length = N
  bl : by_.length = N
  g0 : getI gn ((0 : Nat) : Int) = 0
  lo : ∀ v, v < N → far ≤ getI gn (v : Int) ∧ getI gn (v : Int) ≤ 200
  bk : ∀ v, 0 < v → v < N → far < getI gn (v : Int) → ∃ k : Nat, getI by_ (v : Int) = (k : Int) ∧ k < 2 * M ∧ 0 < R k ∧ aD E k = v ∧ aS E k < N ∧ far < getI gn (aS E k : Int) ∧ getI gn (v : Int) = getI gn (aS E k : Int) + aG E k ∧ T (aS E k) < T v
  ok : ∀ k, k < 2 * M → 0 < R k → far < getI gn (aS E k : Int) → getI gn (aS E k : Int) + aG E k ≤ getI gn (aD E k : Int)
  tm : ∀ v, T v ≤ 500000000
theorem GI.done {E R M N p gn by_ T t} (h : GI E R M N p gn by_ T t) (hpb : ∀ v, v < N → p v ≤ 200) (ht : t ≤ 500000000) (hok : ∀ k, k < 2 * M → 0 < R k → far < getI gn (aS E k : Int) → getI gn (aS E k : Int) + aG E k ≤ getI gn (aD E k : Int)) : GD E R M N gn by_ T := by
  refine ⟨h.gl, h.bl, h.g0, fun v hv => ⟨(h.lo v hv).1, ?_⟩, fun v h0 hv hf => ?_, hok, fun v => Nat.le_trans (h.tm v) ht⟩
  · rcases (h.lo v hv).2 with e | e
    · rw [e]; unfold far; omega
    · have := hpb v hv; omega
  · obtain ⟨k, j1, j2, j3, j4, j5, j6, j7, j8⟩ := h.bk v h0 hv hf
    have := hok k j2 j3 j6
    rw [j4] at this
    exact ⟨k, j1, j2, j3, j4, j5, j6, by omega, j8 (by omega)⟩
def sZ : Nat → (Nat → Int) → Int
  | 0, _ => 0
  | n + 1, f => sZ n f + f n
theorem sZ_congr {f g : Nat → Int} : ∀ n, (∀ i, i < n → f i = g i) → sZ n f = sZ n g
  | 0, _ => rfl
  | n + 1, h => by rw [sZ, sZ, sZ_congr n fun i hi => h i (by omega), h n (by omega)]
theorem sZ_one {f g : Nat → Int} {e : Nat} : ∀ {n}, e < n → (∀ i, i < n → i ≠ e → f i = g i) → sZ n f = sZ n g + (f e - g e)
  | 0, h, _ => by omega
  | n + 1, h, hf => by
    simp only [sZ]
    by_cases he : e = n
    · subst he; rw [sZ_congr e fun i hi => hf i (by omega) (by omega)]; omega
    · rw [sZ_one (n := n) (by omega) (fun i hi => hf i (by omega)), hf n (by omega) (fun h => he h.symm)]; omega
theorem sZ_nonneg {f : Nat → Int} : ∀ {n}, (∀ i, i < n → 0 ≤ f i) → 0 ≤ sZ n f
  | 0, _ => by simp [sZ]
  | n + 1, h => by have := sZ_nonneg (n := n) fun i hi => h i (by omega); have := h n (by omega); rw [sZ]; omega
theorem sZ_zero {f : Nat → Int} : ∀ {n}, (∀ i, i < n → 0 ≤ f i) → sZ n f = 0 → ∀ i, i < n → f i = 0
  | 0, _, _, i, hi => by omega
  | n + 1, h, hs, i, hi => by
    have h1 := sZ_nonneg (n := n) fun i hi => h i (by omega)
    have h2 := h n (by omega)
    rw [sZ] at hs
    rcases Nat.lt_or_ge i n with h3 | h3
    · exact sZ_zero (fun i hi => h i (by omega)) (by omega) i h3
    · obtain rfl : i = n := by omega
      omega
theorem sZ_add {f g : Nat → Int} : ∀ n, sZ n (fun i => f i + g i) = sZ n f + sZ n g
  | 0 => rfl
  | n + 1 => by simp only [sZ]; rw [sZ_add n]; omega
def big : Int := 1048576
def eA (i : Nat) : Ed := ⟨0, 2 + 2 * i, big, 0⟩
def eU (i : Nat) : Ed := ⟨2 + 2 * i, 3 + 2 * i, 1, 1⟩
def eV (i : Nat) : Ed := ⟨2 + 2 * i, 3 + 2 * i, big, 0⟩
def eL (i : Nat) : Ed := ⟨3 + 2 * i, 1, big, 0⟩
def eX (i k : Nat) : Ed := ⟨3 + 2 * i, 2 + 2 * k, big, 0⟩
def nX (w : List Int) (i d : Nat) : List Ed := (List.range d).flatMap fun t => if getI w (i : Int) ≤ getI w ((i + 1 + t : Nat) : Int) then [eX i (i + 1 + t)] else []
def nI (w : List Int) (i d : Nat) : List Ed := [eA i, eU i, eV i, eL i] ++ nX w i d
def nA (w : List Int) (i : Nat) : List Ed := (List.range i).flatMap fun i => nI w i (w.length - 1 - i)
theorem nX_succ (w i d) : nX w i (d + 1) = nX w i d ++ if getI w (i : Int) ≤ getI w ((i + 1 + d : Nat) : Int) then [eX i (i + 1 + d)] else [] := by simp [nX, List.range_succ]
theorem nA_succ (w i) : nA w (i + 1) = nA w i ++ nI w i (w.length - 1 - i) := by simp [nA, List.range_succ]
theorem nX_mem {w i d e} : e ∈ nX w i d ↔ ∃ t, t < d ∧ getI w (i : Int) ≤ getI w ((i + 1 + t : Nat) : Int) ∧ e = eX i (i + 1 + t) := by
  unfold nX
  rw [List.mem_flatMap]
  constructor
  · rintro ⟨t, ht, h⟩
    split at h
    · rename_i hw; simp at h; exact ⟨t, by simpa using ht, hw, h⟩
    · simp at h
  · rintro ⟨t, ht, hw, rfl⟩
    exact ⟨t, by simpa using ht, by rw [if_pos hw]; simp⟩
theorem nX_len (w i) : ∀ d, (nX w i d).length ≤ d
  | 0 => by simp [nX]
  | d + 1 => by have := nX_len w i d; rw [nX_succ]; split <;> simp <;> omega
theorem nA_len (w : List Int) : ∀ i, (nA w i).length ≤ i * (w.length + 4)
  | 0 => by simp [nA]
  | i + 1 => by
    have := nA_len w i
    have := nX_len w i (w.length - 1 - i)
    rw [nA_succ, List.length_append]
    unfold nI
    rw [List.length_append, Nat.add_mul]
    simp
    omega
structure Net (w : List Int) (E : List Ed) : Prop where
  form : ∀ e, e < E.length → ∃ i, i < w.length ∧ (eg E e = eA i ∨ eg E e = eU i ∨ eg E e = eV i ∨ eg E e = eL i ∨ ∃ k, i < k ∧ k < w.length ∧ getI w (i : Int) ≤ getI w (k : Int) ∧ eg E e = eX i k)
  hasA : ∀ i, i < w.length → ∃ e, e < E.length ∧ eg E e = eA i
  hasU : ∀ i, i < w.length → ∃ e, e < E.length ∧ eg E e = eU i
  hasV : ∀ i, i < w.length → ∃ e, e < E.length ∧ eg E e = eV i
  hasL : ∀ i, i < w.length → ∃ e, e < E.length ∧ eg E e = eL i
  hasX : ∀ i k, i < k → k < w.length → getI w (i : Int) ≤ getI w (k : Int) → ∃ e, e < E.length ∧ eg E e = eX i k
  uniq : ∀ e f i, e < E.length → f < E.length → eg E e = eU i → eg E f = eU i → e = f
  len : E.length ≤ w.length * (w.length + 4)
theorem net_ok (w : List Int) : Net w (nA w w.length) := by
  have mem : ∀ n, n ≤ w.length → ∀ d, d ∈ nA w n ↔ ∃ i, i < n ∧ d ∈ nI w i (w.length - 1 - i) := fun n _ d => by
    unfold nA
    rw [List.mem_flatMap]
    simp
  have idx : ∀ {d}, d ∈ nA w w.length → ∃ e, e < (nA w w.length).length ∧ eg (nA w w.length) e = d := fun {d} hd => by
    obtain ⟨e, he, rfl⟩ := List.mem_iff_getElem.1 hd
    exact ⟨e, he, by simp [eg, List.getD, he]⟩
  have pw : ∀ n, (nA w n).Pairwise fun a b => ¬ (a.g = 1 ∧ b.g = 1 ∧ a.u = b.u) := by
    intro n
    induction n with
    | zero => exact .nil
    | succ n ih =>
      rw [nA_succ, List.pairwise_append]
      refine ⟨ih, ?_, fun a ha b hb ⟨h1, h2, h3⟩ => ?_⟩
      · have hx : ∀ b ∈ nX w n (w.length - 1 - n), b.g = 0 := fun b hb => by obtain ⟨t, _, _, rfl⟩ := nX_mem.1 hb; rfl
        unfold nI
        rw [List.pairwise_append]
        refine ⟨by simp [eA, eU, eV, eL], ?_, fun a _ b hb ⟨_, h2, _⟩ => by rw [hx b hb] at h2; omega⟩
        exact List.Pairwise.imp_of_mem (fun {a b} ha _ _ ⟨h1, _, _⟩ => by rw [hx a ha] at h1; omega) (List.pairwise_of_forall (R := fun _ _ => True) (fun _ _ => trivial))
      · have g1 : ∀ (i d : Nat) (a : Ed), a ∈ nI w i d → a.g = 1 → a.u = 2 + 2 * i := fun i d a ha hg => by
          unfold nI at ha
          rcases List.mem_append.1 ha with ha | ha
          · simp only [List.mem_cons, List.not_mem_nil, or_false] at ha
            rcases ha with rfl | rfl | rfl | rfl
            · simp [eA] at hg
            · rfl
            · simp [eV] at hg
            · simp [eL] at hg
          · obtain ⟨t, _, _, rfl⟩ := nX_mem.1 ha
            simp [eX] at hg
        unfold nA at ha
        obtain ⟨i, hi, ha⟩ := List.mem_flatMap.1 ha
        have := g1 _ _ _ ha h1
        have := g1 _ _ _ hb h2
        have : i < n := by simpa using hi
        omega
  refine ⟨fun e he => ?_, fun i hi => ?_, fun i hi => ?_, fun i hi => ?_, fun i hi => ?_, fun i k hik hk hw => ?_, fun e f i he hf h1 h2 => ?_, nA_len w w.length⟩
  · have hm : eg (nA w w.length) e ∈ nA w w.length := by unfold eg; simp [List.getD, he]
    obtain ⟨i, hi, hm⟩ := (mem _ (Nat.le_refl _) _).1 hm
    refine ⟨i, hi, ?_⟩
    unfold nI at hm
    rcases List.mem_append.1 hm with hm | hm
    · simp only [List.mem_cons, List.not_mem_nil, or_false] at hm
      rcases hm with h | h | h | h <;> simp [h]
    · obtain ⟨t, h1, h2, h3⟩ := nX_mem.1 hm
      exact .inr (.inr (.inr (.inr ⟨i + 1 + t, by omega, by omega, h2, h3⟩)))
  · exact idx ((mem _ (Nat.le_refl _) _).2 ⟨i, hi, by simp [nI]⟩)
  · exact idx ((mem _ (Nat.le_refl _) _).2 ⟨i, hi, by simp [nI]⟩)
  · exact idx ((mem _ (Nat.le_refl _) _).2 ⟨i, hi, by simp [nI]⟩)
  · exact idx ((mem _ (Nat.le_refl _) _).2 ⟨i, hi, by simp [nI]⟩)
  · refine idx ((mem _ (Nat.le_refl _) _).2 ⟨i, by omega, ?_⟩)
    unfold nI
    refine List.mem_append.2 (.inr (nX_mem.2 ⟨k - i - 1, by omega, ?_, ?_⟩))
    · rw [show i + 1 + (k - i - 1) = k by omega]; exact hw
    · rw [show i + 1 + (k - i - 1) = k by omega]
  · have hp := pw w.length
    rw [List.pairwise_iff_getElem] at hp
    have e1 : (nA w w.length)[e] = eU i := by rw [← h1]; simp [eg, List.getD, he]
    have e2 : (nA w w.length)[f] = eU i := by rw [← h2]; simp [eg, List.getD, hf]
    rcases Nat.lt_trichotomy e f with h | h | h
    · exact absurd ⟨by rw [e1]; rfl, by rw [e2]; rfl, by rw [e1, e2]⟩ (hp e f he hf h)
    · exact h
    · exact absurd ⟨by rw [e2]; rfl, by rw [e1]; rfl, by rw [e1, e2]⟩ (hp f e hf he h)
theorem Net.ends {w E} (h : Net w E) {k : Nat} (hk : k < 2 * E.length) : aS E k < 2 + 2 * w.length ∧ aD E k < 2 + 2 * w.length ∧ aS E k ≠ aD E k ∧ -1 ≤ aG E k ∧ aG E k ≤ 1 := by
  obtain ⟨i, hi, hf⟩ := h.form (k / 2) (by omega)
  unfold aS aD aG
  rcases hf with e | e | e | e | ⟨j, h1, h2, _, e⟩ <;> rw [e] <;> simp only [eA, eU, eV, eL, eX] <;> split <;> omega
theorem mate_S (E) (k) : aS E (mate k) = aD E k := by
  unfold aS aD mate
  by_cases h : k % 2 = 0
  · rw [if_pos h, if_neg (by omega), if_pos h, show (k + 1) / 2 = k / 2 by omega]
  · rw [if_neg h, if_pos (by omega), if_neg h, show (k - 1) / 2 = k / 2 by omega]
theorem mate_D (E) (k) : aD E (mate k) = aS E k := by
  unfold aS aD mate
  by_cases h : k % 2 = 0
  · rw [if_pos h, if_neg (by omega), if_pos h, show (k + 1) / 2 = k / 2 by omega]
  · rw [if_neg h, if_pos (by omega), if_neg h, show (k - 1) / 2 = k / 2 by omega]
theorem mate_G (E) (k) : aG E (mate k) = -aG E k := by
  unfold aG mate
  by_cases h : k % 2 = 0
  · rw [if_pos h, if_neg (by omega), if_pos h, show (k + 1) / 2 = k / 2 by omega]
  · rw [if_neg h, if_pos (by omega), if_neg h, show (k - 1) / 2 = k / 2 by omega, Int.neg_neg]
theorem mate_lt {k m} (h : k < 2 * m) : mate k < 2 * m := by unfold mate; split <;> omega
theorem mate_ne (k) : mate k ≠ k := by unfold mate; split <;> omega
def psh (R : Nat → Int) (k : Nat) : Nat → Int := fun j => if j = k then R j - 1 else if j = mate k then R j + 1 else R j
def Fl (E : List Ed) (R : Nat → Int) (π : Nat → Int) : Int := sZ E.length fun e => R (2 * e + 1) * (π (eg E e).v - π (eg E e).u)
theorem Fl_psh {E R k} (hk : k < 2 * E.length) (π : Nat → Int) : Fl E (psh R k) π = Fl E R π + (π (aD E k) - π (aS E k)) := by
  unfold Fl
  have h := sZ_one (f := fun e => psh R k (2 * e + 1) * (π (eg E e).v - π (eg E e).u)) (g := fun e => R (2 * e + 1) * (π (eg E e).v - π (eg E e).u)) (e := k / 2) (n := E.length) (by omega) (fun i hi hne => by
    have : psh R k (2 * i + 1) = R (2 * i + 1) := by
      unfold psh mate
      rw [if_neg (by omega), if_neg (by split <;> omega)]
    rw [this])
  rw [h]
  by_cases hp : k % 2 = 0
  · have : psh R k (2 * (k / 2) + 1) = R (2 * (k / 2) + 1) + 1 := by
      unfold psh mate
      rw [if_neg (by omega), if_pos (by rw [if_pos hp]; omega)]
    rw [this]
    unfold aD aS
    rw [if_pos hp, if_pos hp]
    grind
  · have : psh R k (2 * (k / 2) + 1) = R (2 * (k / 2) + 1) - 1 := by
      unfold psh
      rw [if_pos (by omega)]
    rw [this]
    unfold aD aS
    rw [if_neg hp, if_neg hp]
    grind
def Rm (E : List Ed) (R : Nat → Int) : Prop := ∀ e, e < E.length → R (2 * e) + R (2 * e + 1) = (eg E e).c ∧ 0 ≤ R (2 * e) ∧ 0 ≤ R (2 * e + 1)
theorem Rm.nn {E R} (h : Rm E R) {k} (hk : k < 2 * E.length) : 0 ≤ R k := by
  have := h (k / 2) (by omega)
  by_cases hp : k % 2 = 0
  · rw [show 2 * (k / 2) = k by omega] at this; exact this.2.1
  · rw [show 2 * (k / 2) + 1 = k by omega] at this; exact this.2.2
theorem Rm.psh {E R} (h : Rm E R) {k} (hk : k < 2 * E.length) (hr : 0 < R k) : Rm E (psh R k) := fun e he => by
  obtain ⟨h1, h2, h3⟩ := h e he
  unfold Go.AM.Tb.psh mate
  by_cases e1 : 2 * e = k
  · subst e1
    rw [if_pos rfl, if_neg (by omega), if_pos (by rw [if_pos (by omega)])]
    omega
  · by_cases e2 : 2 * e + 1 = k
    · subst e2
      rw [if_neg (by omega), if_pos rfl, if_pos (by rw [if_neg (by omega)]; omega)]
      omega
    · rw [if_neg e1, if_neg e2, if_neg (by split <;> omega), if_neg (by split <;> omega)]
      exact ⟨h1, h2, h3⟩
structure PI (E : List Ed) (R0 : Nat → Int) (gn : List Int) (T : Nat → Nat) (v : Nat) (R : Nat → Int) : Prop where
  rm : Rm E R
  fl : ∀ π : Nat → Int, Fl E R π = Fl E R0 π + (π 1 - π v)
  kp : ∀ k, k < 2 * E.length → T (aD E k) ≤ T v → R0 k ≤ R k
  ok : ∀ k, k < 2 * E.length → 0 < R k → getI gn (aS E k : Int) + aG E k ≤ getI gn (aD E k : Int)
  cap : ∀ e, e < E.length → R (2 * e + 1) ≤ R0 (2 * e + 1) + (if T v < T (eg E e).v then 1 else 0)
theorem PI.step {E R0 gn T v R} (h : PI E R0 gn T v R) {k : Nat} (hk : k < 2 * E.length) (hd : aD E k = v) (h0 : 0 < R0 k) (hg : getI gn (v : Int) = getI gn (aS E k : Int) + aG E k) (ht : T (aS E k) < T v) : PI E R0 gn T (aS E k) (psh R k) := by
  have hr : 0 < R k := by have := h.kp k hk (by rw [hd]; exact Nat.le_refl _); omega
  refine ⟨h.rm.psh hk hr, fun π => ?_, fun j hj hT => ?_, fun j hj hR => ?_, fun e he => ?_⟩
  · rw [Fl_psh hk, h.fl, hd]; omega
  · have h1 := h.kp j hj (by omega)
    have hjk : j ≠ k := fun e => by subst e; rw [hd] at hT; omega
    unfold psh
    rw [if_neg hjk]
    split <;> omega
  · unfold psh at hR
    by_cases e1 : j = k
    · subst e1; exact h.ok j hj hr
    · rw [if_neg e1] at hR
      by_cases e2 : j = mate k
      · subst e2
        rw [mate_S, mate_D, mate_G, hd]; omega
      · rw [if_neg e2] at hR; exact h.ok j hj hR
  · have h1 := h.cap e he
    unfold psh mate
    by_cases e1 : 2 * e + 1 = k
    · subst e1
      rw [if_pos rfl]
      split <;> split at h1 <;> omega
    · rw [if_neg e1]
      by_cases e2 : 2 * e = k
      · subst e2
        rw [if_pos (by rw [if_pos (by omega)])]
        have hv : (eg E e).v = v := by rw [← hd]; unfold aD; rw [if_pos (by omega), show 2 * e / 2 = e by omega]
        rw [hv] at h1 ⊢
        rw [if_neg (by omega)] at h1
        rw [if_pos ht]; omega
      · rw [if_neg (by split <;> omega)]
        split at h1
        · rw [if_pos (by omega)]; exact h1
        · split <;> omega
set_option maxHeartbeats 1000000
theorem f21 {x y : AV} {a b : List Int} (hx : IsL x a) (hy : IsL y b) (ha : a.length < 100) (m : Nat) (hm : 102 ≤ m) : evF tab it m 21 [x, y] [] = some (.bool (decide (a = b)), []) := by
  obtain ⟨m, rfl⟩ : ∃ j, m = j + 1 := ⟨m - 1, by omega⟩
  have fx := hx.free; have fy := hy.free
  refine f_enter rfl rfl ?_
  repeat' first
 | (apply s_mov; exact aW)
 | (apply c_nil)
 | (apply s_neq; exact rfl; all_goals (intro _; try (exfalso; omega)))
 | (apply s_len; exact aW; exact aI)
 | (apply c_seq)
 | (apply c_reg)
 | (apply c_block)
 | (apply c_skip)
 | (apply c_ret)
 | (apply c_condT; exact rfl)
 | (apply c_condF; exact rfl)
 | (with_reducible apply k_c)
  · refine c_loop ?_
    refine loop_gc (σ := Nat) (fun i => [x, y, .int .i64 i]) (fun _ => []) (fun i => i ≤ a.length ∧ ∀ j, j < i → getI a j = getI b j) (fun i => a.length - i) ?_ _ 0 _ _ ⟨by omega, by omega⟩ (by omega) (gc_to rfl (by simp [idFreeL, AV.idFree, *]; done))
    intro i ⟨hi, hb⟩ K hK
    repeat' first
 | (apply s_mov; exact aW)
 | (apply c_nil)
 | (apply s_lss; exact rfl; all_goals (intro _; try (exfalso; omega)))
 | (apply s_neq; exact rfl; all_goals (intro _; try (exfalso; omega)))
 | (apply s_add; exact rfl; omega)
 | (apply s_len; exact aW; exact aI)
 | (apply s_idx; exact aW; exact rfl; exact aI; omega)
 | (apply s_ldI; exact rfl; omega)
 | (apply c_seq)
 | (apply c_reg)
 | (apply c_block)
 | (apply c_exitH)
 | (apply c_skip)
 | (apply c_ret)
 | (apply c_condT; exact rfl)
 | (apply c_condF; exact rfl)
 | (apply c_preF; exact aK; exact aF)
 | (with_reducible apply k_c)
    all_goals first
      | (refine hK (i + 1) _ _ ⟨by omega, fun j hj => ?_⟩ (by omega) (gc_to rfl (by simp [idFreeL, AV.idFree, *]; done))
         rcases (by omega : j < i ∨ j = i) with h | rfl
         · exact hb j h
         · assumption)
      | (refine fin_t (by (conv => lhs; whnf)) (by rfl) (leafT ?_)
         refine List.ext_getElem (by omega) fun j h1 h2 => ?_
         have := hb j (by omega)
         simpa [getI, h1, h2] using this)
      | (refine fin_t (by (conv => lhs; whnf)) (by rfl) (leafF fun h => ?_); subst h; contradiction)
  · refine fin_t (by (conv => lhs; whnf)) (by rfl) (leafF fun h => ?_)
    subst h; contradiction
theorem c21 {x y : AV} {a b : List Int} (hx : IsL x a) (hy : IsL y b) (ha : a.length < 100) {m : Nat} (hm : 102 ≤ m) (H : Heap) : callPure (evF tab it m) true 21 [x, y] H = some (.bool (decide (a = b)), H) :=
  callPure_free (by simp [idFreeL, hx.free, hy.free]) (by simp) (f21 hx hy ha m hm) rfl
set_option maxHeartbeats 1000000
theorem f19 {x : AV} {l : List Int} (hx : IsL x l) (m : Nat) (hm : 1 ≤ m) : evF tab it m 19 [x] [] = some (ownV 0 (iL (l.take 61)), owH (iL (l.take 61))) := by
  obtain ⟨m, rfl⟩ : ∃ j, m = j + 1 := ⟨m - 1, by omega⟩
  have fx := hx.free
  refine f_enter rfl rfl ?_
  repeat' first
 | (apply s_mov; exact aW)
 | (apply c_nil)
 | (apply s_pn; exact aO; exact p_slc0 (by assumption) (by omega))
 | (apply s_len; exact aW; exact aI)
 | (apply s_pd; exact aW)
 | (apply c_seq)
 | (apply c_reg)
 | (with_reducible apply k_c)
  generalize hk : (if (61 : Int) < ↑l.length then (61 : Int) else ↑l.length) = k
  have ht : l.take 61 = l.take k.toNat := by
    subst hk
    split
    · rfl
    · rw [Int.toNat_natCast, List.take_length, List.take_of_length_le (by omega)]
  have hkl : 0 ≤ k ∧ k ≤ l.length ∧ k ≤ 61 := by subst hk; split <;> omega
  rw [ht]
  rcases Int.lt_or_le 0 k with h | h
  · rw [tkL_rd hx ⟨h, hkl.2.1⟩]
    refine s_en (by exact aO) (e_app_nil rfl (by omega) (by unfold most; omega)) ?_
    repeat' first
 | (apply s_mov; exact aW)
 | (apply c_nil)
 | (apply c_ret)
 | (with_reducible apply k_c)
    have hll : (l.take k.toNat).length = k.toNat := by rw [List.length_take]; omega
    rcases hc : l.take k.toNat with _ | ⟨a, r⟩
    · rw [hc] at hll; simp at hll; omega
    · rw [hc] at hll
      simp only [List.length_cons] at hll
      simp [finish, ress, resOf, look, tupOf, iL, ownV, owH, ← hll, gc, subHeap, reach_new, reach_end, rangeL, roots, boxCells, nodupB, posOf, renL, AV.ren, pickO, renH, renO]
  · have : k = 0 := by omega
    subst this
    obtain ⟨g1, g2⟩ := tkL_len hx
    refine s_en (by exact aO) (e_app_none g1 g2) ?_
    repeat' first
 | (apply s_mov; exact aW)
 | (apply c_nil)
 | (apply c_ret)
 | (with_reducible apply k_c)
    refine fin_t (by (conv => lhs; whnf)) (by rfl) (by simp [iL, ownV, owH])
theorem c19 {x : AV} {l : List Int} (hx : IsL x l) {m : Nat} (hm : 1 ≤ m) (H : Heap) : callPure (evF tab it m) true 19 [x] H = some (fzL (l.take 61), H) := by
  refine callPure_frz (by simp [idFreeL, hx.free]) (by simp) (f19 hx m hm) (frz_own _)
set_option maxHeartbeats 1000000
def fi (Q : Int → Bool) : List Int → Nat → Int
  | [], _ => -1
  | x :: l, k => if Q x = true then k else fi Q l (k + 1)
theorem fi_pos (Q : Int → Bool) : ∀ (l : List Int) (k : Nat), 0 ≤ fi Q l k ↔ ∃ x ∈ l, Q x = true
  | [], k => by simp [fi]
  | x :: l, k => by
    have := fi_pos Q l (k + 1)
    simp only [fi]
    split
    · rename_i h; simp; exact .inl h
    · rename_i h; rw [this]; simp [h]
theorem drop_getI {F : List Int} {i : Nat} (h : i < F.length) : F.drop i = getI F i :: F.drop (i + 1) := by
  rw [getI_nat]
  simp [List.getD, h]
theorem f93 {x : AV} {F : List Int} {g : Nat} {Q : Int → Bool} (hx : IsL x F) (hl : F.length ≤ 1000) {m : Nat} (hm : 2000 ≤ m) (hg : ∀ v H, callPure (evF tab it m) true g [.int .i64 v] H = some (.bool (Q v), H)) :
    evF tab it (m + 1) 93 [x, .fn g []] [] = some (.int .i64 (fi Q F 0), []) := by
  have fx := hx.free
  generalize hR : fi Q F 0 = R
  refine f_enter rfl rfl ?_
  generalize evF tab it m = call at *
  repeat' first
 | (apply s_mov; exact aW)
 | (apply c_nil)
 | (apply s_len; exact aW; exact aI)
 | (apply c_seq)
 | (apply c_reg)
 | (apply c_block)
 | (with_reducible apply k_c)
  refine c_loop ?_
  refine loop_gc (σ := Nat) (fun i => [x, .fn g [], .int .i64 (F.length : Int), .int .i64 (i : Int)]) (fun _ => []) (fun i => i ≤ F.length ∧ fi Q (F.drop i) i = R) (fun i => F.length - i) ?_ _ 0 _ _ ⟨by omega, hR⟩ (by omega) (gc_to rfl (by simp [idFreeL, AV.idFree, fx]))
  intro i ⟨hi, hr⟩ K hK
  by_cases hiF : i < F.length
  · have ecv : evE call [] (.callv true true) [.fn g [], .int .i64 (getI F i)] = some (.bool (Q (getI F i)), []) := by
      simpa [evE] using hg (getI F i) []
    rw [drop_getI hiF] at hr
    simp only [fi] at hr
    cases hq : Q (getI F i) with
    | true =>
      rw [hq] at ecv
      rw [if_pos hq] at hr
      repeat' first
 | (apply s_mov; exact aW)
 | (apply c_nil)
 | (apply s_lss; exact rfl; all_goals (intro _; try (exfalso; omega)))
 | (apply s_en; exact aO; exact ecv)
 | (apply s_idx; exact aW; exact rfl; exact aI; omega)
 | (apply s_ldI; exact rfl; omega)
 | (apply c_seq)
 | (apply c_reg)
 | (apply c_block)
 | (apply c_skip)
 | (apply c_ret)
 | (apply c_condT; exact rfl)
 | (with_reducible apply k_c)
      all_goals exact fin_t (by (conv => lhs; whnf)) (by rfl) (by rw [hr])
    | false =>
      rw [hq] at ecv
      rw [if_neg (by rw [hq]; decide)] at hr
      repeat' first
 | (apply s_mov; exact aW)
 | (apply c_nil)
 | (apply s_lss; exact rfl; all_goals (intro _; try (exfalso; omega)))
 | (apply s_add; exact rfl; omega)
 | (apply s_en; exact aO; exact ecv)
 | (apply s_idx; exact aW; exact rfl; exact aI; omega)
 | (apply s_ldI; exact rfl; omega)
 | (apply c_seq)
 | (apply c_reg)
 | (apply c_block)
 | (apply c_skip)
 | (apply c_condT; exact rfl)
 | (apply c_condF; exact rfl)
 | (with_reducible apply k_c)
      all_goals exact hK (i + 1) _ _ ⟨by omega, hr⟩ (by omega) (gc_to rfl (by simp [idFreeL, AV.idFree, fx]))
  · obtain rfl : F.length = i := by omega
    rw [List.drop_length] at hr
    simp only [fi] at hr
    repeat' first
 | (apply s_mov; exact aW)
 | (apply c_nil)
 | (apply s_lss; exact rfl; all_goals (intro _; try (exfalso; omega)))
 | (apply c_seq)
 | (apply c_reg)
 | (apply c_exitH)
 | (apply c_ret)
 | (apply c_condF; exact rfl)
 | (apply c_preF; exact aK; exact aF)
 | (with_reducible apply k_c)
    exact fin_t (by (conv => lhs; whnf)) (by rfl) (by rw [← hr])
theorem f72 {x : AV} {F : List Int} {g : Nat} {Q : Int → Bool} (hx : IsL x F) (hl : F.length ≤ 1000) {m : Nat} (hm : 2000 ≤ m) (hg : ∀ v H, callPure (evF tab it m) true g [.int .i64 v] H = some (.bool (Q v), H)) :
    evF tab it (m + 2) 72 [x, .fn g []] [] = some (.bool (decide (∃ v ∈ F, Q v = true)), []) := by
  have e93 := fun H => callPure_free (H := H) (by simp [idFreeL, AV.idFree, hx.free]) (by simp) (f93 hx hl hm hg) rfl
  have hp := fi_pos Q F 0
  generalize fi Q F 0 = R at *
  refine f_enter rfl rfl ?_
  generalize evF tab it (m + 1) = call at *
  repeat' first
 | (apply s_mov; exact aW)
 | (apply c_nil)
 | (apply s_geq; exact rfl; all_goals (intro _; try (exfalso; omega)))
 | (apply s_cn; exact aO; exact e93 _)
 | (apply c_seq)
 | (apply c_reg)
 | (apply c_ret)
 | (with_reducible apply k_c)
  · exact fin_t (by (conv => lhs; whnf)) (by rfl) (leafT (hp.1 (by omega)))
  · exact fin_t (by (conv => lhs; whnf)) (by rfl) (leafF fun h => by have := hp.2 h; omega)
theorem f74 {m : Nat} (hm : 1 ≤ m) (v : Int) : evF tab it m 74 [.int .i64 v] [] = some (.bool (decide (0 ≤ v ∧ v ≤ 1000)), []) := by
  obtain ⟨m, rfl⟩ : ∃ j, m = j + 1 := ⟨m - 1, by omega⟩
  refine f_enter rfl rfl ?_
  repeat' first
 | (apply s_mov; exact aW)
 | (apply s_gT; exact rfl)
 | (apply s_gF; exact rfl)
 | (apply c_nil)
 | (apply s_pickT; exact rfl; exact aW)
 | (apply s_pickF; exact rfl; exact aW)
 | (apply s_leq; exact rfl; all_goals (intro _; try (exfalso; omega)))
 | (apply s_geq; exact rfl; all_goals (intro _; try (exfalso; omega)))
 | (apply c_seq)
 | (apply c_reg)
 | (apply c_ret)
 | (with_reducible apply k_c)
  all_goals refine fin_t (by (conv => lhs; whnf)) (by rfl) ?_
  all_goals first | exact leafT (by omega) | exact leafF (by omega)
theorem c74 {m : Nat} (hm : 1 ≤ m) (v : Int) (H : Heap) : callPure (evF tab it m) true 74 [.int .i64 v] H = some (.bool (decide (0 ≤ v ∧ v ≤ 1000)), H) := callPure_free rfl (by simp) (f74 hm v) rfl
theorem f73 {m : Nat} (hm : 2 ≤ m) (v : Int) : evF tab it m 73 [.int .i64 v] [] = some (.bool (!decide (0 ≤ v ∧ v ≤ 1000)), []) := by
  obtain ⟨m, rfl⟩ : ∃ j, m = j + 1 := ⟨m - 1, by omega⟩
  refine f_enter rfl rfl ?_
  repeat' first
 | (apply s_mov; exact aW)
 | (apply c_nil)
 | (apply s_notT; exact rfl)
 | (apply s_notF; exact rfl)
 | (apply isE; refine s_cB (by exact aO) (c74 (by omega) _ _) (fun _ => ?_) (fun _ => ?_))
 | (apply c_seq)
 | (apply c_reg)
 | (apply c_ret)
 | (with_reducible apply k_c)
  · exact fin_t (by (conv => lhs; whnf)) (by rfl) (by rename_i h; simp [h])
  · exact fin_t (by (conv => lhs; whnf)) (by rfl) (by rename_i h; simp [h])
theorem c73 {m : Nat} (hm : 2 ≤ m) (v : Int) (H : Heap) : callPure (evF tab it m) true 73 [.int .i64 v] H = some (.bool (!decide (0 ≤ v ∧ v ≤ 1000)), H) := callPure_free rfl (by simp) (f73 hm v) rfl
def IsW (l : List Int) : Prop := l.length ≤ 60 ∧ ∀ v ∈ l, 0 ≤ v ∧ v ≤ 1000
instance (l : List Int) : Decidable (IsW l) := by unfold IsW; exact inferInstance
theorem isw_iff (l : List Int) : IsW l ↔ l.length ≤ 60 ∧ ¬ ∃ v ∈ l, (!decide (0 ≤ v ∧ v ≤ 1000)) = true := by
  unfold IsW
  refine and_congr_right fun _ => ⟨fun h ⟨v, hv, hn⟩ => by have := h v hv; simp [this] at hn, fun h v hv => ?_⟩
  rcases Decidable.em (0 ≤ v ∧ v ≤ 1000) with h' | h'
  · exact h'
  · exact absurd ⟨v, hv, by simp [h']⟩ h
theorem isw_get (l : List Int) : IsW l ↔ l.length ≤ 60 ∧ ∀ j : Nat, j < l.length → 0 ≤ getI l j ∧ getI l j ≤ 1000 := by
  unfold IsW
  refine and_congr_right fun _ => ⟨fun h j hj => ?_, fun h v hv => ?_⟩
  · have := h _ (List.getElem_mem hj)
    rw [getI_nat]
    simpa [List.getD, hj] using this
  · obtain ⟨j, hj, rfl⟩ := List.getElem_of_mem hv
    have := h j hj
    rw [getI_nat] at this
    simpa [List.getD, hj] using this
theorem f52 {x : AV} {l : List Int} (hx : IsL x l) (hl : l.length ≤ 1000) {m : Nat} (hm : 2100 ≤ m) : evF tab it m 52 [x] [] = some (.bool (decide (IsW l)), []) := by
  obtain ⟨m, rfl⟩ : ∃ j, m = j + 1 := ⟨m - 1, by omega⟩
  have fx := hx.free
  have e72 := fun H => callPure_free (H := H) (by simp [idFreeL, AV.idFree, hx.free]) (by simp) (f72 (g := 73) (Q := fun v => !decide (0 ≤ v ∧ v ≤ 1000)) hx hl (m := m - 2) (by omega) (fun v H => c73 (by omega) v H)) rfl
  rw [show m - 2 + 2 = m by omega] at e72
  refine f_enter rfl rfl ?_
  generalize evF tab it m = call at *
  repeat' first
 | (apply s_mov; exact aW)
 | (apply s_gT; exact rfl)
 | (apply s_gF; exact rfl)
 | (apply s_gFD; exact rfl)
 | (apply c_nil)
 | (apply s_pickT; exact rfl; exact aW)
 | (apply s_pickF; exact rfl; exact aW)
 | (apply s_notT; exact rfl)
 | (apply s_notF; exact rfl)
 | (apply s_leq; exact rfl; all_goals (intro _; try (exfalso; omega)))
 | (apply isE; refine s_cB (by exact aO) (e72 _) (fun _ => ?_) (fun _ => ?_))
 | (apply s_len; exact aW; exact aI)
 | (apply c_seq)
 | (apply c_reg)
 | (apply c_ret)
 | (with_reducible apply k_c)
  all_goals refine fin_t (by (conv => lhs; whnf)) (by rfl) ?_
  all_goals first
    | exact leafT ((isw_iff l).2 ⟨by omega, by assumption⟩)
    | (refine leafF fun h => ?_
       have h := (isw_iff l).1 h
       first
         | (exact absurd (by assumption) h.2)
         | omega)
theorem f22 {x : AV} {l : List Int} (hx : IsL x l) (hl : l.length ≤ 1000) {m : Nat} (hm : 2100 ≤ m) : evF tab it m 22 [x] [] = some (.bool (decide (IsW l)), []) := by
  obtain ⟨m, rfl⟩ : ∃ j, m = j + 1 := ⟨m - 1, by omega⟩
  have fx := hx.free
  refine f_enter rfl rfl ?_
  repeat' first
 | (apply s_mov; exact aW)
 | (apply c_nil)
 | (apply c_seq)
 | (apply c_reg)
 | (apply c_block)
 | (with_reducible apply k_c)
  refine c_loop ?_
  refine loop_gc (σ := Nat) (fun i => [x, .int .i64 i]) (fun _ => []) (fun i => i ≤ l.length ∧ ∀ j : Nat, j < i → 0 ≤ getI l j ∧ getI l j ≤ 1000) (fun i => l.length - i) ?_ _ 0 _ _ ⟨by omega, by omega⟩ (by omega) (gc_to rfl (by simp [idFreeL, AV.idFree, *]; done))
  intro i ⟨hi, hb⟩ K hK
  repeat' first
 | (apply s_mov; exact aW)
 | (apply s_gT; exact rfl)
 | (apply s_gF; exact rfl)
 | (apply c_nil)
 | (apply s_pickT; exact rfl; exact aW)
 | (apply s_pickF; exact rfl; exact aW)
 | (apply s_lss; exact rfl; all_goals (intro _; try (exfalso; omega)))
 | (apply s_leq; exact rfl; all_goals (intro _; try (exfalso; omega)))
 | (apply s_gtr; exact rfl; all_goals (intro _; try (exfalso; omega)))
 | (apply s_add; exact rfl; omega)
 | (apply s_len; exact aW; exact aI)
 | (apply s_idx; exact aW; exact rfl; exact aI; omega)
 | (apply s_ldI; exact rfl; omega)
 | (apply c_seq)
 | (apply c_reg)
 | (apply c_block)
 | (apply c_exitH)
 | (apply c_skip)
 | (apply c_ret)
 | (apply c_condT; exact rfl)
 | (apply c_condF; exact rfl)
 | (apply c_preF; exact aK; exact aF)
 | (with_reducible apply k_c)
  all_goals first
    | (refine hK (i + 1) _ _ ⟨by omega, fun j hj => ?_⟩ (by omega) (gc_to rfl (by simp [idFreeL, AV.idFree, *]; done))
       rcases (by omega : j < i ∨ j = i) with h | rfl
       · exact hb j h
       · omega)
    | exact fin_t (by (conv => lhs; whnf)) (by rfl) (leafT ((isw_get l).2 ⟨by omega, fun j hj => hb j (by omega)⟩))
    | (refine fin_t (by (conv => lhs; whnf)) (by rfl) (leafF fun h => ?_)
       have h := (isw_get l).1 h
       first
         | omega
         | (have := h.2 i (by omega); omega))
set_option maxHeartbeats 2000000
theorem reach_pre {H : Heap} : ∀ (pre : List AV) {k : Nat} {acc : List Nat} {r : List AV}, idFreeL pre = true → reach H (k + pre.length) acc (pre ++ r) = reach H k acc r
  | [], _, _, _, _ => rfl
  | v :: pre, k, acc, r, h => by
    simp only [idFreeL, Bool.and_eq_true] at h
    rw [List.length_cons, ← Nat.add_assoc, List.cons_append, reach_skip h.1]
    exact reach_pre pre h.2
theorem rows_at {rows : List (List Int)} {i : Nat} (hi : i < rows.length) : (rows.map iL)[i]? = some (iL (getLL rows (i : Int))) := by
  rw [getLL_nat]
  simp [List.getD, hi]
theorem e_stO {call : CallF} {H : Heap} {id : Nat} {l : List Int} {i : Nat} {v : Int} (h : H.data? id = some (iL l)) (hi : i < l.length) : evE call H (.st 1) [.ptr id i, .int .i64 v] = some (.undef, H.set id (some (.data (iL (l.set i v))))) := by
  have := e_stI (call := call) (v := v) (i := (i : Int)) h (by simpa using hi)
  simpa using this
theorem rd_isL {n : Nat} {l : List Int} (h : l.length = n) : IsL (.rd 1 n (iL l)) l := by subst h; exact .rd _
theorem refs_set : ∀ (is : List Nat) (R : List (List AV)) (i a : Nat) (r : List AV), is.length = R.length → (refs is R).set i (.sl a 1 0 r.length) = refs (is.set i a) (R.set i r)
  | [], [], i, a, r, _ => by simp [refs]
  | [], _ :: _, _, _, _, h => by simp at h
  | _ :: _, [], _, _, _, h => by simp at h
  | i0 :: is, l :: R, 0, a, r, h => by simp [refs]
  | i0 :: is, l :: R, i + 1, a, r, h => by simp [refs, refs_set is R i a r (by simpa using h)]
theorem p_ldD {H : Heap} {i k : Nat} {l : List Int} (h : H[i]? = some (some (.data (iL l)))) (hk : k < l.length) : evP H (.ld false 1) [.ptr i k] = some (.int .i64 (getI l (k : Int))) := by
  have hc : Heap.cells? H i = some (iL l) := cells?_iff.2 (.inl h)
  have hr : (iL l)[k]? = some (.int .i64 (getI l (k : Int))) := by rw [getI_nat]; simp [iL, List.getD, hk]
  obtain ⟨h1, h2⟩ := List.getElem?_eq_some_iff.1 hr
  have h5 : k + 1 ≤ (iL l).length := by omega
  simp only [evP, ldc, getRow, hc, Option.bind_some, if_pos h5]
  rw [List.drop_eq_getElem_cons h1, h2]
  simp [wholeOf]
theorem p_ldX {H : Heap} {a j : Nat} {cs : List AV} {v : AV} (h : H[a]? = some (some (.box cs))) (hj : cs[j]? = some v) : evP H (.ld false 1) [.ptr a j] = some v := by
  have hc : Heap.cells? H a = some cs := cells?_iff.2 (.inr h)
  obtain ⟨h1, h2⟩ := List.getElem?_eq_some_iff.1 hj
  have h5 : j + 1 ≤ cs.length := by omega
  simp only [evP, ldc, getRow, hc, Option.bind_some, if_pos h5]
  rw [List.drop_eq_getElem_cons h1, h2]
  simp [wholeOf]
theorem putRow_set {cs : List AV} {j : Nat} {v : AV} (hj : j < cs.length) : putRow cs j [v] = cs.set j v := by
  unfold putRow
  rw [List.set_eq_take_append_cons_drop, if_pos hj]
  simp
theorem e_stX {call : CallF} {H : Heap} {a j : Nat} {cs : List AV} {v : AV} (h : H[a]? = some (some (.box cs))) (hj : j < cs.length) (h1 : v.cells = [v]) (h2 : v.one = true) : evE call H (.st 1) [.ptr a j, v] = some (.undef, H.set a (some (.box (cs.set j v)))) := by
  have h5 : j + 1 ≤ cs.length := by omega
  simp only [evE, stAt, h, h1, List.length_singleton, oneL, h2, Bool.and_self, and_self, if_true, if_pos h5, Option.map_some, putRow_set hj]
structure LB (H : Heap) (a : Nat) (is : List Nat) (P : List (List Int)) : Prop where
  bx : H[a]? = some (some (.box (refs is (P.map iL))))
  ln : is.length = P.length
  rw : ∀ j i : Nat, is[j]? = some i → H[i]? = some (some (.data (iL (getLL P (j : Int)))))
  nd : (a :: is).Nodup
theorem LB.lta {H a is P} (h : LB H a is P) : a < H.length := (List.getElem?_eq_some_iff.1 h.bx).1
theorem LB.lt {H a is P} (h : LB H a is P) : ∀ i ∈ a :: is, i < H.length := fun i hi => by
  rcases List.mem_cons.1 hi with rfl | hi
  · exact h.lta
  · obtain ⟨j, hj, rfl⟩ := List.mem_iff_getElem.1 hi
    exact (List.getElem?_eq_some_iff.1 (h.rw j _ (List.getElem?_eq_getElem hj))).1
theorem LB.ld {H a is P} (h : LB H a is P) {j i : Nat} (hj : is[j]? = some i) : evP H (.ld false 1) [.ptr a j] = some (.sl i 1 0 (getLL P (j : Int)).length) := by
  have hjl := (List.getElem?_eq_some_iff.1 hj).1
  have hil : j < P.length := by rw [← h.ln]; exact hjl
  have hr := refs_get hj (rows_at hil)
  rw [iL_len] at hr
  exact p_ldX h.bx hr
theorem getLL_set {P : List (List Int)} {j q : Nat} {r : List Int} (hj : j < P.length) : getLL (P.set j r) (q : Int) = if q = j then r else getLL P (q : Int) := by
  rw [getLL_nat, getLL_nat]
  by_cases h : q = j
  · subst h; simp [List.getD, hj]
  · rw [if_neg h]; simp [List.getD, List.getElem?_set_ne (Ne.symm h)]
theorem LB.inj {H a is P} (h : LB H a is P) {j q i : Nat} (hj : is[j]? = some i) (hq : is[q]? = some i) : j = q := by
  have hn := (List.nodup_cons.1 h.nd).2
  obtain ⟨h1, h2⟩ := List.getElem?_eq_some_iff.1 hj
  obtain ⟨h3, h4⟩ := List.getElem?_eq_some_iff.1 hq
  exact (List.getElem_inj hn).1 (h2.trans h4.symm)
theorem LB.st {H a is P} (h : LB H a is P) {j i k : Nat} {x : Int} (hj : is[j]? = some i) (hk : k < (getLL P (j : Int)).length) :
    (∀ call, evE call H (.st 1) [.ptr i k, .int .i64 x] = some (.undef, H.set i (some (.data (iL ((getLL P (j : Int)).set k x)))))) ∧ LB (H.set i (some (.data (iL ((getLL P (j : Int)).set k x))))) a is (P.set j ((getLL P (j : Int)).set k x)) := by
  have hi := h.rw j i hj
  have hjl := (List.getElem?_eq_some_iff.1 hj).1
  have hjP : j < P.length := by rw [← h.ln]; exact hjl
  have him : i ∈ is := List.mem_of_getElem? hj
  obtain ⟨d1, d2⟩ := List.nodup_cons.1 h.nd
  have hia : i ≠ a := fun e => d1 (e ▸ him)
  refine ⟨fun call => e_stO (data?_iff.2 hi) hk, ?_, by simpa using h.ln, fun q i' hq => ?_, h.nd⟩
  · rw [List.getElem?_set_ne hia, h.bx]
    have : refs is (P.map iL) = refs is ((P.set j ((getLL P (j : Int)).set k x)).map iL) := by
      have e := refs_set is (P.map iL) j i (iL ((getLL P (j : Int)).set k x)) (by simpa using h.ln)
      have e2 : is.set j i = is := by
        obtain ⟨h1, h2⟩ := List.getElem?_eq_some_iff.1 hj
        rw [← h2]; exact List.set_getElem_self h1
      rw [e2, iL_len, List.length_set] at e
      rw [List.map_set, ← e]
      have hr := refs_get hj (rows_at hjP)
      rw [iL_len] at hr
      obtain ⟨h1, h2⟩ := List.getElem?_eq_some_iff.1 hr
      rw [← h2]; exact (List.set_getElem_self h1).symm
    rw [this]
  · rw [getLL_set hjP]
    by_cases e : q = j
    · subst e
      rw [hj] at hq; cases hq
      rw [if_pos rfl]
      exact List.getElem?_set_self (List.getElem?_eq_some_iff.1 hi).1
    · rw [if_neg e]
      have : i ≠ i' := fun e' => e (h.inj (e' ▸ hq) hj)
      rw [List.getElem?_set_ne this]
      exact h.rw q i' hq
def growH (H : Heap) (a : Nat) (is : List Nat) (P : List (List Int)) (j i : Nat) (x : Int) : Heap :=
  (H.set i none ++ [some (HO.data (iL (getLL P (j : Int) ++ [x])))]).set a (some (.box (refs (is.set j H.length) ((P.set j (getLL P (j : Int) ++ [x])).map iL))))
theorem LB.app {H a is P} (h : LB H a is P) {j i : Nat} {x : Int} (hj : is[j]? = some i) (hm : (getLL P (j : Int)).length < 1000) :
    (∀ call q, evE call H (.app false 1 q) [.sl i 1 0 (getLL P (j : Int)).length, .rd 1 1 [.int .i64 x]] = some (.sl H.length 1 0 ((getLL P (j : Int)).length + 1), H.set i none ++ [some (.data (iL (getLL P (j : Int) ++ [x])))])) ∧
    (∀ call, evE call (H.set i none ++ [some (HO.data (iL (getLL P (j : Int) ++ [x])))]) (.st 1) [.ptr a j, .sl H.length 1 0 ((getLL P (j : Int)).length + 1)] = some (.undef, growH H a is P j i x)) ∧
    LB (growH H a is P j i x) a (is.set j H.length) (P.set j (getLL P (j : Int) ++ [x])) ∧ (growH H a is P j i x).length = H.length + 1 ∧ ∀ z, z ∉ a :: is → z < H.length → (growH H a is P j i x)[z]? = H[z]? := by
  have hi := h.rw j i hj
  have hjl := (List.getElem?_eq_some_iff.1 hj).1
  have hjP : j < P.length := by rw [← h.ln]; exact hjl
  have him : i ∈ is := List.mem_of_getElem? hj
  obtain ⟨d1, d2⟩ := List.nodup_cons.1 h.nd
  have hia : i ≠ a := fun e => d1 (e ▸ him)
  have hal := h.lta
  have hlen : (H.set i none ++ [some (HO.data (iL (getLL P (j : Int) ++ [x])))]).length = H.length + 1 := by simp
  have hbx : (H.set i none ++ [some (HO.data (iL (getLL P (j : Int) ++ [x])))])[a]? = some (some (.box (refs is (P.map iL)))) := by
    rw [List.getElem?_append_left (by simpa using hal), List.getElem?_set_ne hia, h.bx]
  have hold : ∀ z, z ≠ a → z ≠ i → z < H.length → (growH H a is P j i x)[z]? = H[z]? := fun z h1 h2 h3 => by
    unfold growH
    rw [List.getElem?_set_ne (Ne.symm h1), List.getElem?_append_left (by simpa using h3), List.getElem?_set_ne (Ne.symm h2)]
  refine ⟨fun call q => ?_, fun call => ?_, ⟨?_, by simpa using h.ln, fun q i' hq => ?_, ?_⟩, by simp [growH], fun z hz hzl => ?_⟩
  · have := e_app_sl (call := call) (q := q) (bs := [.int .i64 x]) (n := 1) (data?_iff.2 hi) (iL_len _) (by decide) (by unfold most; omega)
    rw [this]
    simp [iL]
  · have hrl : (refs is (P.map iL)).length = P.length := by rw [refs_length (by simpa using h.ln)]; simp
    rw [e_stX hbx (by omega) rfl rfl]
    have e := refs_set is (P.map iL) j H.length (iL (getLL P (j : Int) ++ [x])) (by simpa using h.ln)
    rw [iL_len, List.length_append, List.length_singleton] at e
    unfold growH
    rw [e, List.map_set]
  · unfold growH
    rw [List.getElem?_set_self (by rw [hlen]; omega)]
  · rw [getLL_set hjP]
    have hi'm : i' ≠ a := fun e => by
      subst e
      rcases List.mem_or_eq_of_mem_set (List.mem_of_getElem? hq) with h1 | h1
      · exact d1 h1
      · omega
    by_cases e : q = j
    · subst e
      rw [List.getElem?_set_self hjl] at hq
      cases hq
      rw [if_pos rfl]
      unfold growH
      rw [List.getElem?_set_ne (by omega), List.getElem?_append_right (by simp)]
      simp
    · rw [if_neg e]
      rw [List.getElem?_set_ne (Ne.symm e)] at hq
      have : i' ≠ i := fun e' => e (h.inj (e' ▸ hq) hj)
      rw [hold i' hi'm this ((List.getElem?_eq_some_iff.1 (h.rw q i' hq)).1)]
      exact h.rw q i' hq
  · refine List.nodup_cons.2 ⟨fun hm' => ?_, ?_⟩
    · rcases List.mem_or_eq_of_mem_set hm' with h1 | h1
      · exact d1 h1
      · omega
    · have hlt : ∀ z ∈ is, z < H.length := fun z hz => h.lt z (by simp [hz])
      rw [List.nodup_iff_pairwise_ne, List.pairwise_iff_getElem]
      intro p q hp hq hpq
      simp only [List.length_set] at hp hq
      rw [List.getElem_set, List.getElem_set]
      have hne : is[p] ≠ is[q] := fun e => by
        have := (List.getElem_inj d2).1 e
        omega
      have a1 := hlt _ (List.getElem_mem hp)
      have a2 := hlt _ (List.getElem_mem hq)
      split <;> split <;> omega
  · simp only [List.mem_cons, not_or] at hz
    exact hold z hz.1 (fun e => hz.2 (e ▸ him)) hzl
set_option maxHeartbeats 4000000
theorem c78 {x : AV} {l : List Int} (hx : IsL x l) (h0 : l ≠ []) (hl : l.length ≤ 1000) {m : Nat} (hm : 2 ≤ m) (H : Heap) : callPure (evF tab it m) false 78 [x] H = some (.sl H.length 1 0 l.length, H ++ [some (.data (iL l))]) := by
  have hf : frzL H 140 [x] = some [x] := frzL_free H 140 [x] (by simp) (by simp [idFreeL, hx.free])
  have hr : evF tab it m 78 [x] [] = some (.sl 0 1 0 l.length, [some (.data (iL l))]) := by
    obtain ⟨m, rfl⟩ : ∃ j, m = j + 1 := ⟨m - 1, by omega⟩
    cases hx with
    | nil => exact absurd rfl h0
    | rd l =>
      rcases l with _ | ⟨c, cs⟩
      · exact absurd rfl h0
      · have bl : ∀ call, evE call [] (.bldS true false 1 0 [.int .i64 0] []) [] = some (.sl 0 1 0 0, [some (.data [])]) := fun call => rfl
        refine f_enter rfl rfl ?_
        repeat' first
 | (apply s_mov; exact aW)
 | (apply c_nil)
 | (apply s_en; exact aO; exact bl _)
 | (apply s_en; exact aO; exact e_app_sl rfl rfl (by simp) (by simp at hl ⊢; unfold most; omega))
 | (apply s_pd; exact aW)
 | (apply c_seq)
 | (apply c_reg)
 | (apply c_skip)
 | (apply c_ret)
 | (apply c_condF; exact rfl)
 | (with_reducible apply k_c)
        simp [finish, ress, resOf, look, tupOf, iL, gc, subHeap, reach_new, reach_end, rangeL, roots, boxCells, nodupB, posOf, renL, AV.ren, pickO, renH, renO]
  simp only [callPure, hf, hr, Option.bind_some]
  simp [idFreeL, hx.free, shiftH, AV.ren, renH, renO]
set_option maxHeartbeats 4000000
theorem pred_i {i : Nat} (h : 0 < i) : ((i - 1 : Nat) : Int) = (i : Int) - 1 := by omega
set_option maxHeartbeats 2000000
theorem LB.rows {H a is P} (h : LB H a is P) : ∀ (j i : Nat) (l : List AV), is[j]? = some i → (P.map iL)[j]? = some l → H[i]? = some (some (.data l)) := fun j i l hj hl => by
  rw [h.rw j i hj]
  have hjr : j < P.length := by have := (List.getElem?_eq_some_iff.1 hl).1; simpa using this
  rw [rows_at hjr] at hl
  cases hl
  rfl
theorem LB.lnm {H a is P} (h : LB H a is P) : is.length = (P.map iL).length := by rw [h.ln]; simp
theorem LB.box {H a is P} (h : LB H a is P) : boxCells H a = refs is (P.map iL) := by simp [boxCells, h.bx]
theorem LB.reach {H a is P} (h : LB H a is P) (k : Nat) (hk : is.length < k) (acc : List Nat) (hd : ∀ i ∈ a :: is, i ∉ acc) (o n : Nat) (r : List AV) : reach H k acc (.sl a 1 o n :: r) = reach H (k - (is.length + 1)) (acc ++ a :: is) r := by
  obtain ⟨d1, d2⟩ := List.nodup_cons.1 h.nd
  obtain ⟨k, rfl⟩ : ∃ j, k = j + 1 := ⟨k - 1, by omega⟩
  have hc : acc.contains a = false := by simpa using hd a (by simp)
  rw [reach_new, hc]
  simp only [Bool.false_eq_true, if_false]
  rw [h.box, reach_refs' (by omega) h.lnm (fun i hi => by
    simp only [List.mem_append, List.mem_singleton, not_or]
    exact ⟨hd i (by simp [hi]), fun e => d1 (e ▸ hi)⟩) d2 (rows_box h.lnm h.rows)]
  rw [List.append_assoc, show k + 1 - (is.length + 1) = k - is.length by omega]
  rfl
inductive Kn1 : List Int → List Int → Prop
  | a (u v) {x y z : Int} (h1 : x ≤ y) (h2 : y < z) : Kn1 (u ++ x :: z :: y :: v) (u ++ z :: x :: y :: v)
  | b (u v) {x y z : Int} (h1 : x < y) (h2 : y ≤ z) : Kn1 (u ++ y :: x :: z :: v) (u ++ y :: z :: x :: v)
inductive Kn : List Int → List Int → Prop
  | refl (w) : Kn w w
  | fw {a b c} (h : Kn a b) (g : Kn1 b c) : Kn a c
  | bw {a b c} (h : Kn a b) (g : Kn1 c b) : Kn a c
theorem Kn.trans {a b c} (h : Kn a b) (g : Kn b c) : Kn a c := by
  induction g with
  | refl => exact h
  | fw _ g ih => exact .fw (ih) g
  | bw _ g ih => exact .bw (ih) g
theorem Kn.symm {a b} (h : Kn a b) : Kn b a := by
  induction h with
  | refl => exact .refl _
  | fw _ g ih => exact Kn.trans (.bw (.refl _) g) ih
  | bw _ g ih => exact Kn.trans (.fw (.refl _) g) ih
def Srt (r : List Int) : Prop := r.Pairwise (· ≤ ·)
def Col (r s : List Int) : Prop := s.length ≤ r.length ∧ ∀ i (h : i < s.length) (h' : i < r.length), r[i] < s[i]
def Cch : List Int → List (List Int) → Prop
  | _, [] => True
  | r, s :: R => Col r s ∧ Cch s R
def Tab : List (List Int) → Prop
  | [] => True
  | r :: R => (∀ s ∈ r :: R, Srt s ∧ s ≠ []) ∧ Cch r R
theorem Tab.rows {P} (h : Tab P) : ∀ s ∈ P, Srt s ∧ s ≠ [] := by
  cases P with
  | nil => simp
  | cons r R => exact h.1
theorem Col.trans {r s t} (h : Col r s) (g : Col s t) : Col r t := ⟨Nat.le_trans g.1 h.1, fun i h1 h2 => by have := h.2 i (by have := g.1; omega) h2; have := g.2 i h1 (by have := g.1; omega); omega⟩
theorem Cch.all : ∀ {r R}, Cch r R → ∀ s ∈ R, Col r s
  | r, [], _ => by simp
  | r, t :: R, h => by
    intro s hs
    rcases List.mem_cons.1 hs with rfl | hs
    · exact h.1
    · exact h.1.trans (Cch.all h.2 s hs)
set_option maxHeartbeats 4000000
section
variable {call : CallF} {it : IterF} {n k : Nat} {X : Nat → KT} {K Rt : KT} {env : Env} {H : Heap} {res : R} {c : AC} {G : R → Prop}
theorem via (h : RC call it n c k K X Rt env H res) (g : G res) : G (evC call it n c k K X Rt env H) := by rw [h.eq]; exact g
theorem c_end : RC call it n c k K X Rt env H (evC call it n c k K X Rt env H) := ⟨rfl⟩
theorem via_enter {tab : Nat → Option AFunc} {m f : Nat} {np : Nat} {body : AC} {rs : List ARes} {args : List AV} (ht : tab f = some ⟨np, body, rs⟩) (hl : Nat.beq args.length np = true)
    (g : G (evC (evF tab it m) it m body H.length (finish H.length rs) (fun _ _ _ => none) (finish H.length rs) (envOf 0 args) H)) : G (evF tab it (m + 1) f args H) := by
  rw [f_enterH ht hl c_end]; exact g
theorem loop_P {live : List Nat} {σ : Type} (vals : σ → List AV) (heap : σ → Heap) (P : σ → Prop) (μ : σ → Nat)
    (step : ∀ s, P s → ∀ K : KT, (∀ s' env' H', P s' → μ s' < μ s → gc k (looks env' live) H' = some (vals s', heap s') → G (K env' H')) → G (evC call it n c k K X Rt (bindEnv live 0 (vals s)) (heap s))) :
    ∀ fuel s env H, P s → μ s < fuel → gc k (looks env live) H = some (vals s, heap s) → G (loopIt fuel (fun K => evC call it n (.pre live c) k K X Rt) env H)
  | 0, s, env, H, _, h, _ => by omega
  | fuel + 1, s, env, H, hp, hm, hg => by
    simp only [loopIt]
    rw [raw_c_pre hg rfl]
    exact step s hp _ fun s' env' H' hp' hm' hg' => loop_P vals heap P μ step fuel s' env' H' hp' (by omega) hg'
end
theorem getLL_get {P : List (List Int)} {k : Nat} (h : k < P.length) : getLL P (k : Int) = P[k] := by rw [getLL_nat]; simp [List.getD, h]
end Go.AM.Tb
