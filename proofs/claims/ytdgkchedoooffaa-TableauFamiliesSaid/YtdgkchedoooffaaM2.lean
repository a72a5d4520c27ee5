/- The abstract machine, part M2. -/
import Derived.Test.YtdgkchedoooffaaM1
import Derived.CallsIn
import Derived.OwnWalkIn
import Derived.RangeFuncCalls
import Derived.Deep.LoopGhost
import Derived.OrdersIn
set_option linter.unusedVariables false
set_option linter.unusedSimpArgs false
set_option linter.unusedSectionVars false
namespace Go.AM
section
variable {P : Program} {T : Tab} {F : RoT} {pl : PlT} {H : Heap} {w : World} {N : Nat} {env : Env} {a : Act} {call : CallF}
theorem posOf_get : ∀ {φ : List Nat} {i j : Nat}, posOf φ i = some j → φ[j]? = some i
  | x :: xs, i, j, h => by
    unfold posOf at h
    split at h
    · rename_i e
      cases h
      simp [e]
    · obtain ⟨k, hk, rfl⟩ := Option.map_eq_some_iff.1 h
      simpa using posOf_get hk
  | [], i, j, h => by simp [posOf] at h
theorem nodupB_inj : ∀ {φ : List Nat}, nodupB φ = true → ∀ {j k i : Nat}, φ[j]? = some i → φ[k]? = some i → j = k
  | [], _, j, k, i, hj, hk => by simp at hj
  | x :: xs, h, j, k, i, hj, hk => by
    simp only [nodupB, Bool.and_eq_true, Bool.not_eq_true', List.contains_eq_mem, decide_eq_false_iff_not] at h
    cases j with
    | zero =>
      cases k with
      | zero => rfl
      | succ k =>
        simp at hj hk
        subst hj
        exact absurd (List.mem_of_getElem? hk) h.1
    | succ j =>
      cases k with
      | zero =>
        simp at hj hk
        subst hk
        exact absurd (List.mem_of_getElem? hj) h.1
      | succ k =>
        exact congrArg (· + 1) (nodupB_inj (i := i) h.2 (by simpa using hj) (by simpa using hk))
theorem pickO_get : ∀ {φ : List Nat} {Hp : Heap}, pickO H φ = some Hp → Hp.length = φ.length ∧ ∀ (j : Nat) i, φ[j]? = some i → ∃ o, H[i]? = some o ∧ Hp[j]? = some o
  | [], Hp, h => by
    simp [pickO] at h; subst h
    exact ⟨rfl, fun j i hj => by simp at hj⟩
  | x :: xs, Hp, h => by
    simp only [pickO, Option.bind_eq_some_iff, Option.map_eq_some_iff] at h
    obtain ⟨o, ho, os, hos, rfl⟩ := h
    obtain ⟨h1, h2⟩ := pickO_get hos
    refine ⟨by simp [h1], fun j i hj => ?_⟩
    cases j with
    | zero => simp at hj; subst hj; exact ⟨o, ho, rfl⟩
    | succ j => simpa using h2 j i (by simpa using hj)
theorem renH_get {f : Nat → Option Nat} : ∀ {H H' : Heap}, renH f H = some H' → H'.length = H.length ∧ ∀ (j : Nat) o, H[j]? = some o → ∃ o', renO f o = some o' ∧ H'[j]? = some o'
  | [], H', h => by
    simp [renH] at h; subst h
    exact ⟨rfl, fun j o hj => by simp at hj⟩
  | o :: H, H', h => by
    simp only [renH, Option.bind_eq_some_iff, Option.map_eq_some_iff] at h
    obtain ⟨o', ho, os, hos, rfl⟩ := h
    obtain ⟨h1, h2⟩ := renH_get hos
    refine ⟨by simp [h1], fun j x hj => ?_⟩
    cases j with
    | zero => simp at hj; subst hj; exact ⟨o', ho, rfl⟩
    | succ j => simpa using h2 j x (by simpa using hj)
theorem ren_one {f : Nat → Option Nat} {x y : AV} (h : x.ren f = some y) : y.one = x.one := by
  cases x <;> simp only [AV.ren] at h <;> first
    | (cases h; rfl)
    | (obtain ⟨i, _, rfl⟩ := Option.map_eq_some_iff.1 h; rfl)
    | (split at h
       · cases h; rfl
       · obtain ⟨i, _, rfl⟩ := Option.map_eq_some_iff.1 h; rfl)
theorem renL_one {f : Nat → Option Nat} : ∀ {xs ys : List AV}, renL f xs = some ys → oneL ys = oneL xs
  | [], ys, h => by simp [renL] at h; subst h; rfl
  | x :: xs, ys, h => by
    simp only [renL, Option.bind_eq_some_iff, Option.map_eq_some_iff] at h
    obtain ⟨y, hy, ys', hys, rfl⟩ := h
    simp [oneL, ren_one hy, renL_one hys]
theorem renO_cases {f : Nat → Option Nat} {o : HO} {o' : Option HO} (h : renO f (some o) = some o') :
    (∃ c, o = .data c ∧ o' = some (.data c)) ∨ (∃ c c', o = .box c ∧ o' = some (.box c') ∧ renL f c = some c') ∨ ∃ es, o = .map es ∧ o' = some (.map es) := by
  cases o with
  | data c => simp [renO] at h; exact .inl ⟨c, rfl, h.symm⟩
  | box c =>
    simp only [renO, Option.map_eq_some_iff] at h
    obtain ⟨c', hc, rfl⟩ := h
    exact .inr (.inl ⟨c, c', rfl, rfl, hc⟩)
  | map es => simp [renO] at h; exact .inr (.inr ⟨es, rfl, h.symm⟩)
structure ObjOk (F : RoT) (pl : PlT) (w : World) (p : Place) (o : HO) : Prop where
  cells : ∀ cs, o.cells? = some cs → cs.length ≤ p.lim ∧ oneL cs = true ∧
    (∀ j, j < p.lim → ∃ v, w.cell? ⟨p.block, p.base + j, none⟩ = some v ∧ w.frozen? ⟨p.block, p.base + j, none⟩ = false) ∧
    ∀ (j : Nat) x, cs[j]? = some x → ∃ v, w.cell? ⟨p.block, p.base + j, none⟩ = some v ∧ Rel F pl x v
  data : ∀ cs, o = .data cs → idFreeL cs = true
  map : ∀ es, o = .map es → (∀ e ∈ es, e.1.idFree = true ∧ e.2.idFree = true) ∧ ∃ ces clock, w.heap[p.block]? = some (.map ces clock) ∧ MapRel F pl es ces clock
  pos : p.block < w.heap.size
theorem Inv.obj (h : Inv F pl H w) {i : Nat} {o : HO} (hi : H[i]? = some (some o)) : ∃ p, pl i = some p ∧ ObjOk F pl w p o := by
  cases o with
  | data c =>
    have hc : H.cells? i = some c := cells?_iff.2 (.inl hi)
    obtain ⟨p, hp, h1, h2, h3⟩ := h.cell i c hc
    exact ⟨p, hp, fun cs e => by cases e; exact ⟨h1, h.one i c hc, h2, h3⟩, fun cs e => by cases e; exact h.data i c (data?_iff.2 hi), fun es e => (by cases e), h.pos i p ⟨_, hi⟩ hp⟩
  | box c =>
    have hc : H.cells? i = some c := cells?_iff.2 (.inr hi)
    obtain ⟨p, hp, h1, h2, h3⟩ := h.cell i c hc
    exact ⟨p, hp, fun cs e => by cases e; exact ⟨h1, h.one i c hc, h2, h3⟩, fun cs e => (by cases e), fun es e => (by cases e), h.pos i p ⟨_, hi⟩ hp⟩
  | map es =>
    obtain ⟨h0, p, ces, clock, hp, hw, hm⟩ := h.map i es (map?_iff.2 hi)
    exact ⟨p, hp, fun cs e => (by cases e), fun cs e => (by cases e), fun es' e => by cases e; exact ⟨h0, ces, clock, hw, hm⟩, h.pos i p ⟨_, hi⟩ hp⟩
theorem Inv.of_objs (hfresh : ∀ i, H.length ≤ i → pl i = none) (hobj : ∀ i o, H[i]? = some (some o) → ∃ p, pl i = some p ∧ ObjOk F pl w p o)
    (hinj : ∀ i j p q, live H i → live H j → pl i = some p → pl j = some q → p.block = q.block → i = j) (hro : ∀ a v, F a = some v → w.cell? a = some v)
    (hsep : ∀ a v i p, F a = some v → live H i → pl i = some p → a.block ≠ p.block) : Inv F pl H w where
  fresh := hfresh
  cell i cs hi := by
    rcases cells?_iff.1 hi with h | h <;> obtain ⟨p, hp, ho⟩ := hobj i _ h <;> obtain ⟨h1, h2, h3, h4⟩ := ho.cells cs rfl <;> exact ⟨p, hp, h1, h3, h4⟩
  data i cs hi := by
    obtain ⟨p, hp, ho⟩ := hobj i _ (data?_iff.1 hi)
    exact ho.data cs rfl
  one i cs hi := by
    rcases cells?_iff.1 hi with h | h <;> obtain ⟨p, hp, ho⟩ := hobj i _ h <;> exact (ho.cells cs rfl).2.1
  map i es hi := by
    obtain ⟨p, hp, ho⟩ := hobj i _ (map?_iff.1 hi)
    obtain ⟨h0, ces, clock, hw, hm⟩ := ho.map es rfl
    exact ⟨h0, p, ces, clock, hp, hw, hm⟩
  inj := hinj
  ro := hro
  sep := hsep
  pos i p hi hp := by
    obtain ⟨o, ho⟩ := hi
    obtain ⟨q, hq, hh⟩ := hobj i o ho
    rw [hp] at hq; cases hq
    exact hh.pos
theorem map_free {es : List (AV × AV)} (h : ∀ e ∈ es, e.1.idFree = true ∧ e.2.idFree = true) : idFreeL (es.map (·.1)) = true ∧ idFreeL (es.map (·.2)) = true := by
  rw [idFreeL_iff, idFreeL_iff]
  constructor
  · intro x hx
    obtain ⟨e, he, rfl⟩ := List.mem_map.1 hx
    exact (h e he).1
  · intro x hx
    obtain ⟨e, he, rfl⟩ := List.mem_map.1 hx
    exact (h e he).2
theorem ObjOk.ren {p : Place} {o : HO} (h : ObjOk F pl w p o) {F' : RoT} {pl' : PlT} {w' : World} {f : Nat → Option Nat} {o' : HO} (hF : LeF F F') (hf : ∀ i j p, f i = some j → pl i = some p → pl' j = some p)
    (hw : w'.heap[p.block]? = w.heap[p.block]?) (hr : renO f (some o) = some (some o')) : ObjOk F' pl' w' p o' := by
  have hc : ∀ j, w'.cell? ⟨p.block, j, none⟩ = w.cell? ⟨p.block, j, none⟩ := fun j => by simp [World.cell?, hw]
  have hz : ∀ j, w'.frozen? ⟨p.block, j, none⟩ = w.frozen? ⟨p.block, j, none⟩ := fun j => by simp [World.frozen?, hw]
  have hpos : p.block < w'.heap.size := by
    have := h.pos
    rcases Nat.lt_or_ge p.block w'.heap.size with h' | h'
    · exact h'
    · rw [Array.getElem?_eq_none h'] at hw
      have h2 : w.heap[p.block]? = none := hw.symm
      rw [Array.getElem?_eq_none_iff] at h2
      omega
  rcases renO_cases hr with ⟨c, rfl, e⟩ | ⟨c, c', rfl, e, hcc⟩ | ⟨es, rfl, e⟩
  · cases e
    obtain ⟨h1, h2, h3, h4⟩ := h.cells c rfl
    have hd := h.data c rfl
    refine ⟨fun cs e => ?_, fun cs e => by cases e; exact hd, fun es e => (by cases e), hpos⟩
    cases e
    exact ⟨h1, h2, fun j hj => by rw [hc, hz]; exact h3 j hj, fun j x hx => let ⟨v, hv, hr⟩ := h4 j x hx; ⟨v, by rw [hc]; exact hv, (hr.mono hF (LeF.refl _)).free (idFreeL_get hd hx)⟩⟩
  · cases e
    obtain ⟨h1, h2, h3, h4⟩ := h.cells c rfl
    obtain ⟨g1, g2⟩ := renL_get hcc
    refine ⟨fun cs e => ?_, fun cs e => (by cases e), fun es e => (by cases e), hpos⟩
    cases e
    refine ⟨by omega, by rw [renL_one hcc]; exact h2, fun j hj => by rw [hc, hz]; exact h3 j hj, fun j y hy => ?_⟩
    have hj : j < c.length := by have := (List.getElem?_eq_some_iff.1 hy).1; omega
    obtain ⟨v, hv, hrv⟩ := h4 j c[j] (List.getElem?_eq_getElem hj)
    exact ⟨v, by rw [hc]; exact hv, (hrv.mono hF (LeF.refl _)).ren hf (g2 j _ y (List.getElem?_eq_getElem hj) hy)⟩
  · cases e
    obtain ⟨h0, ces, clock, hh, hm⟩ := h.map es rfl
    obtain ⟨m1, m2⟩ := map_free h0
    refine ⟨fun cs e => (by cases e), fun cs e => (by cases e), fun es' e => ?_, hpos⟩
    cases e
    exact ⟨h0, ces, clock, by rw [hw]; exact hh, (hm.1.mono hF (LeF.refl _)).free m1, (hm.2.1.mono hF (LeF.refl _)).free m2, hm.2.2⟩
theorem renO_some {f : Nat → Option Nat} {x : Option HO} {o' : HO} (h : renO f x = some (some o')) : ∃ o, x = some o := by
  cases x with
  | none => simp [renO] at h
  | some o => exact ⟨o, rfl⟩
theorem subHeap_sound (hI : Inv F pl H w) {φ : List Nat} {vs vs' us H'} (hv : RelL F pl vs us) (h : subHeap φ vs H = some (vs', H')) :
    ∃ pl', Inv F pl' H' w ∧ RelL F pl' vs' us ∧ (∀ b, Own pl' H' b → Own pl H b) ∧ H'.length = φ.length ∧ ∀ (j : Nat) i, φ[j]? = some i → pl' j = pl i ∧ i < H.length := by
  unfold subHeap at h
  split at h
  · rename_i hnd
    simp only [Option.bind_eq_some_iff, Option.map_eq_some_iff, Prod.mk.injEq] at h
    obtain ⟨vs1, h1, Hp, h2, H1, h3, rfl, rfl⟩ := h
    obtain ⟨p1, p2⟩ := pickO_get h2
    obtain ⟨r1, r2⟩ := renH_get h3
    let pl' : PlT := fun j => (φ[j]?).bind pl
    have hf : ∀ i j p, posOf φ i = some j → pl i = some p → pl' j = some p := fun i j p hj hp => by simp only [pl', posOf_get hj, Option.bind_some, hp]
    have hget : ∀ (j : Nat) o', H1[j]? = some (some o') → ∃ i o, φ[j]? = some i ∧ H[i]? = some (some o) ∧ renO (posOf φ) (some o) = some (some o') := fun j o' hj => by
      have hlt : j < φ.length := by have := (List.getElem?_eq_some_iff.1 hj).1; omega
      obtain ⟨x, hx, hx'⟩ := p2 j φ[j] (List.getElem?_eq_getElem hlt)
      obtain ⟨x', hx1, hx2⟩ := r2 j x hx'
      rw [hj] at hx2
      cases hx2
      obtain ⟨o, rfl⟩ := renO_some hx1
      exact ⟨φ[j], o, List.getElem?_eq_getElem hlt, hx, hx1⟩
    have hlive : ∀ j, live H1 j → ∃ i, φ[j]? = some i ∧ live H i := fun j ⟨o', hj⟩ => by
      obtain ⟨i, o, a, b, _⟩ := hget j o' hj
      exact ⟨i, a, o, b⟩
    refine ⟨pl', Inv.of_objs (fun j hj => ?_) (fun j o' hj => ?_) (fun j k p q hj hk hp hq e => ?_) hI.ro (fun a v j p ha hj hp => ?_), hv.ren hf h1, fun b ⟨j, p, hj, hp, e⟩ => ?_, by omega, fun j i hj => ?_⟩
    · simp only [pl']
      rw [List.getElem?_eq_none (by omega)]; rfl
    · obtain ⟨i, o, a, b, c⟩ := hget j o' hj
      obtain ⟨p, hp, ho⟩ := hI.obj b
      exact ⟨p, by simp only [pl', a, Option.bind_some, hp], ho.ren (LeF.refl _) hf rfl c⟩
    · obtain ⟨i1, a1, b1⟩ := hlive j hj
      obtain ⟨i2, a2, b2⟩ := hlive k hk
      simp only [pl', a1, a2, Option.bind_some] at hp hq
      have := hI.inj i1 i2 p q b1 b2 hp hq e
      subst this
      exact nodupB_inj hnd a1 a2
    · obtain ⟨i1, a1, b1⟩ := hlive j hj
      simp only [pl', a1, Option.bind_some] at hp
      exact hI.sep a v i1 p ha b1 hp
    · obtain ⟨i1, a1, b1⟩ := hlive j hj
      simp only [pl', a1, Option.bind_some] at hp
      exact ⟨i1, p, b1, hp, e⟩
    · obtain ⟨o, ho, _⟩ := p2 j i hj
      exact ⟨by simp only [pl', hj, Option.bind_some], (List.getElem?_eq_some_iff.1 ho).1⟩
  · cases h
end
section
variable {P : Program} {T : Tab} {F : RoT} {pl : PlT} {H : Heap} {w : World} {N : Nat} {env : Env} {a : Act} {call : CallF}
theorem frz_free : ∀ (k : Nat), (∀ v v', v.idFree = true → frzV H k v = some v' → v' = v) ∧ (∀ vs vs', idFreeL vs = true → frzL H k vs = some vs' → vs' = vs)
  | 0 => ⟨fun v v' _ h => by simp [frzV] at h, fun v v' _ h => by simp [frzL] at h⟩
  | k + 1 => by
    obtain ⟨ih1, ih2⟩ := frz_free k
    refine ⟨fun v v' hf h => ?_, fun vs vs' hf h => ?_⟩
    · cases v <;> simp only [AV.idFree, Bool.false_eq_true] at hf <;> simp only [frzV] at h <;> first
        | (cases h; rfl)
        | (rw [if_pos hf] at h; cases h; rfl)
    · cases vs with
      | nil => simp [frzL] at h; exact h
      | cons x xs =>
        simp only [idFreeL, Bool.and_eq_true] at hf
        simp only [frzL, Option.bind_eq_some_iff, Option.map_eq_some_iff] at h
        obtain ⟨y, hy, ys, hys, rfl⟩ := h
        rw [ih1 _ _ hf.1 hy, ih2 _ _ hf.2 hys]
theorem frz_sound (hI : Inv F pl H w) {F3 : RoT} (hF : LeF F F3) (h3 : ∀ i p, live H i → pl i = some p → ∀ (o : Nat) v, w.cell? ⟨p.block, o, none⟩ = some v → F3 ⟨p.block, o, none⟩ = some v) (pl3 : PlT) :
    ∀ (k : Nat), (∀ v v' u, Rel F pl v u → frzV H k v = some v' → Rel F3 pl3 v' u ∧ v'.idFree = true ∧ v'.one = v.one) ∧
      (∀ vs vs' us, RelL F pl vs us → frzL H k vs = some vs' → RelL F3 pl3 vs' us ∧ idFreeL vs' = true ∧ oneL vs' = oneL vs)
  | 0 => ⟨fun v v' _ _ h => by simp [frzV] at h, fun v v' _ _ h => by simp [frzL] at h⟩
  | k + 1 => by
    obtain ⟨ih1, ih2⟩ := frz_sound hI hF h3 pl3 k
    have free : ∀ {v u}, Rel F pl v u → v.idFree = true → Rel F3 pl3 v u := fun hr hf => (hr.mono hF (LeF.refl _)).free hf
    refine ⟨fun v v' u hr h => ?_, fun vs vs' us hr h => ?_⟩
    · cases v with
      | sl id sz off len =>
        simp only [frzV, Option.bind_eq_some_iff] at h
        obtain ⟨c', hcs, h⟩ := h
        split at h
        · rename_i hle
          cases h
          cases hr with
          | @sl _ _ _ _ cap p a hp hc ha hs =>
          obtain ⟨cs, hcell, hfl, hlen', hrel⟩ : ∃ cs, H.cells? id = some cs ∧ (idFreeL c' = true ∧ oneL c' = true) ∧ c'.length = cs.length ∧ (∀ (j : Nat) x y u, cs[j]? = some x → c'[j]? = some y → Rel F pl x u → w.cell? ⟨p.block, p.base + j, none⟩ = some u → Rel F3 pl3 y u) := by
            rcases Option.or_eq_some_iff.1 hcs with hcs | ⟨_, hcs⟩
            · have hcell := cells_of_data hcs
              have hfl : idFreeL c' = true ∧ oneL c' = true := ⟨hI.data id c' hcs, hI.one id c' hcell⟩
              exact ⟨c', hcell, hfl, rfl, fun j x y u hx hy hr _ => by rw [hx] at hy; cases hy; exact free hr (idFreeL_get hfl.1 hx)⟩
            · obtain ⟨c, hc, hc'⟩ := Option.bind_eq_some_iff.1 hcs
              have hcs : H.cells? id = some c := cells?_iff.2 (.inr (box?_iff.1 hc))
              obtain ⟨q, hq, g1, g2, g3⟩ := hI.cell id c hcs
              rw [hp] at hq; cases hq
              have hrl : RelL F pl c ((List.range c.length).map fun j => (w.cell? ⟨p.block, p.base + j, none⟩).getD Go.undef) := ⟨by simp, fun j x v hx hv => by
                have hj : j < c.length := (List.getElem?_eq_some_iff.1 hx).1
                obtain ⟨u, hu, hru⟩ := g3 j x hx
                simp [hj, hu] at hv
                subst hv; exact hru⟩
              obtain ⟨i1, i2, i3⟩ := ih2 c c' _ hrl hc'
              have hlen : c'.length = c.length := by have := i1.1; simp at this; omega
              refine ⟨c, hcs, ⟨i2, by rw [i3]; exact hI.one id c hcs⟩, hlen, fun j x y u hx hy hr hu => ?_⟩
              refine i1.2 j y u hy ?_
              have hj : j < c.length := (List.getElem?_eq_some_iff.1 hx).1
              simp [hj, hu]
          obtain ⟨q, hq, g1, g2, g3⟩ := hI.cell id cs hcell
          rw [hp] at hq; cases hq
          have hbl : ((c'.drop off).take (len * sz)).length = len * sz := by rw [List.length_take, List.length_drop]; omega
          obtain ⟨ab, ao, asp⟩ := a
          dsimp only at hs
          subst hs
          refine ⟨?_, rfl, rfl⟩
          have key : ∀ (j : Nat) x, ((c'.drop off).take (len * sz))[j]? = some x → ∃ v, w.cell? ⟨ab, ao + j, none⟩ = some v ∧ Rel F3 pl3 x v ∧ F3 ⟨ab, ao + j, none⟩ = some v := fun j x hx => by
            have hj : j < len * sz := by have := (List.getElem?_eq_some_iff.1 hx).1; omega
            rw [List.getElem?_take, if_pos hj, List.getElem?_drop] at hx
            have hlen : 0 < len := by
              rcases Nat.eq_zero_or_pos len with e | e
              · rw [e] at hj; omega
              · exact e
            obtain ⟨e, _⟩ := ha (by omega)
            cases e
            have hj2 : off + j < cs.length := by omega
            obtain ⟨v, hv, hrv⟩ := g3 (off + j) cs[off + j] (List.getElem?_eq_getElem hj2)
            have hv' := hv
            rw [← Nat.add_assoc] at hv
            exact ⟨v, hv, hrel _ _ _ _ (List.getElem?_eq_getElem hj2) hx hrv hv', h3 id p (live_of_cells hcell) hp _ v hv⟩
          refine Rel.rd (fun j => (w.cell? ⟨ab, ao + j, none⟩).getD Go.undef) hbl hc (fun _ => rfl) (fl_take _ (fl_drop _ hfl)) (fun j x hx => ?_) fun j x hx => ?_
          · obtain ⟨v, hv, _, h4⟩ := key j x hx
            rw [hv]; exact h4
          · obtain ⟨v, hv, hrv, _⟩ := key j x hx
            rw [hv]
            exact hrv
        · cases h
      | ptr id off =>
        simp only [frzV] at h
        cases hr with
        | @ptr _ _ p hp =>
        have main : ∀ (c c' : List AV), H.cells? id = some c → (idFreeL c' = true ∧ oneL c' = true) → c'.length = c.length → (∀ (j : Nat) x y u, c[j]? = some x → c'[j]? = some y → Rel F pl x u → w.cell? ⟨p.block, p.base + j, none⟩ = some u → Rel F3 pl3 y u) → Rel F3 pl3 (.rp (c'.drop off)) (.pointer (some ⟨p.block, p.base + off, none⟩)) := by
          intro c c' hc hfl hl hrel
          obtain ⟨q, hq, g1, g2, g3⟩ := hI.cell id c hc
          rw [hp] at hq; cases hq
          have key : ∀ (j : Nat) y, (c'.drop off)[j]? = some y → ∃ v, w.cell? ⟨p.block, p.base + off + j, none⟩ = some v ∧ Rel F3 pl3 y v ∧ F3 ⟨p.block, p.base + off + j, none⟩ = some v := fun j y hy => by
            rw [List.getElem?_drop] at hy
            have hj : off + j < c.length := by have := (List.getElem?_eq_some_iff.1 hy).1; omega
            obtain ⟨v, hv, hrv⟩ := g3 _ c[off + j] (List.getElem?_eq_getElem hj)
            have hv' := hv
            rw [← Nat.add_assoc] at hv
            exact ⟨v, hv, hrel _ _ y v (List.getElem?_eq_getElem hj) hy hrv hv', h3 id p (live_of_cells hc) hp _ v hv⟩
          refine Rel.rp (fun j => (w.cell? ⟨p.block, p.base + off + j, none⟩).getD Go.undef) (fl_drop _ hfl) (fun j x hx => ?_) fun j x hx => ?_
          · obtain ⟨v, hv, _, h4⟩ := key j x hx
            rw [hv]; exact h4
          · obtain ⟨v, hv, hrv, _⟩ := key j x hx
            rw [hv]; exact hrv
        split at h
        · rename_i c hc
          cases h
          have hcs : H.cells? id = some c := cells?_iff.2 (.inl hc)
          have hfl : idFreeL c = true ∧ oneL c = true := ⟨hI.data id c (data?_iff.2 hc), hI.one id c hcs⟩
          exact ⟨main c c hcs hfl rfl fun j x y u hx hy hr _ => by rw [hx] at hy; cases hy; exact free hr (idFreeL_get hfl.1 hx), rfl, rfl⟩
        · rename_i c hc
          obtain ⟨c', hc', rfl⟩ := Option.map_eq_some_iff.1 h
          have hcs : H.cells? id = some c := cells?_iff.2 (.inr hc)
          obtain ⟨q, hq, g1, g2, g3⟩ := hI.cell id c hcs
          have hrl : RelL F pl c ((List.range c.length).map fun j => (w.cell? ⟨q.block, q.base + j, none⟩).getD Go.undef) := ⟨by simp, fun j x v hx hv => by
            have hj : j < c.length := (List.getElem?_eq_some_iff.1 hx).1
            obtain ⟨u, hu, hru⟩ := g3 j x hx
            simp [hj, hu] at hv
            subst hv; exact hru⟩
          obtain ⟨i1, i2, i3⟩ := ih2 c c' _ hrl hc'
          have hlen : c'.length = c.length := by have := i1.1; simp at this; omega
          refine ⟨main c c' hcs ⟨i2, by rw [i3]; exact hI.one id c hcs⟩ hlen fun j x y u hx hy hr hu => ?_, rfl, rfl⟩
          rw [hp] at hq; cases hq
          refine i1.2 j y u hy ?_
          have hj : j < c.length := (List.getElem?_eq_some_iff.1 hx).1
          simp [hj, hu]
        · cases h
      | agg cs =>
        simp only [frzV] at h
        split at h
        · rename_i hf
          cases h
          exact ⟨free hr (by simpa [AV.idFree] using hf), by simpa [AV.idFree] using hf, rfl⟩
        · obtain ⟨c', hc', rfl⟩ := Option.map_eq_some_iff.1 h
          obtain ⟨vs, rfl, hr'⟩ := rel_agg_iff.1 hr
          obtain ⟨i1, i2, i3⟩ := ih2 cs c' _ hr' hc'
          exact ⟨rel_agg_iff.2 ⟨vs, rfl, i1⟩, by simpa [AV.idFree] using i2, rfl⟩
      | tup cs =>
        simp only [frzV] at h
        split at h
        · rename_i hf
          cases h
          exact ⟨free hr (by simpa [AV.idFree] using hf), by simpa [AV.idFree] using hf, rfl⟩
        · obtain ⟨c', hc', rfl⟩ := Option.map_eq_some_iff.1 h
          obtain ⟨vs, rfl, hr'⟩ := rel_tup_iff.1 hr
          obtain ⟨i1, i2, i3⟩ := ih2 cs c' _ hr' hc'
          exact ⟨rel_tup_iff.2 ⟨vs, rfl, i1⟩, by simpa [AV.idFree] using i2, rfl⟩
      | fn f cs =>
        simp only [frzV] at h
        split at h
        · rename_i hf
          cases h
          exact ⟨free hr (by simpa [AV.idFree] using hf), by simpa [AV.idFree] using hf, rfl⟩
        · obtain ⟨c', hc', rfl⟩ := Option.map_eq_some_iff.1 h
          obtain ⟨vs, rfl, hr'⟩ := rel_fn_iff.1 hr
          obtain ⟨i1, i2, i3⟩ := ih2 cs c' _ hr' hc'
          exact ⟨rel_fn_iff.2 ⟨vs, rfl, i1⟩, by simpa [AV.idFree] using i2, rfl⟩
      | mp id => simp [frzV] at h
      | yl id => simp [frzV] at h
      | _ => simp only [frzV] at h; cases h; exact ⟨free hr rfl, rfl, rfl⟩
    · cases vs with
      | nil => simp [frzL] at h; subst h; rw [hr.nil_inv]; exact ⟨.nil, rfl, rfl⟩
      | cons x xs =>
        simp only [frzL, Option.bind_eq_some_iff, Option.map_eq_some_iff] at h
        obtain ⟨y, hy, ys, hys, rfl⟩ := h
        obtain ⟨u, r, rfl, h1, h2⟩ := hr.uncons
        obtain ⟨a1, a2, a3⟩ := ih1 x y u h1 hy
        obtain ⟨b1, b2, b3⟩ := ih2 xs ys r h2 hys
        exact ⟨b1.cons a1, by simp [idFreeL, a2, b2], by simp [oneL, a3, b3]⟩
end
section
variable {P : Program} {T : Tab} {F : RoT} {pl : PlT} {H : Heap} {w : World} {N : Nat} {env : Env} {a : Act} {call : CallF}
def Entry (P : Program) (f : Nat) : Prop := ∃ fn, P.funcs[f]? = some fn ∧ fn.body.isNone = false ∧ (fn.name == "runtime.NumGoroutine") = false
theorem Entry.run {f : Nat} (h : Entry P f) (args : Array Value) (w : World) : (callFunc f args).run P w = .ok (.enter f args) w := by
  obtain ⟨fn, h1, h2, h3⟩ := h
  simp only [callFunc, Sem.run_bind, run_program, Result.andThen_ok, h1, h3, h2, Bool.false_eq_true, if_false, Sem.run_pure]
def Post (F : RoT) (pl : PlT) (H : Heap) (w : World) (v : AV) (H' : Heap) (e : Ending) (w' : World) : Prop :=
  ∃ u F' pl', e = .returned u ∧ Rel F' pl' v u ∧ Inv F' pl' H' w' ∧ Stp F pl H w F' pl' H' w' ∧ LeF pl pl'
def CallOk (P : Program) (call : CallF) : Prop := ∀ f args H v H', call f args H = some (v, H') →
  Entry P f ∧ ∀ F pl w us, Inv F pl H w → RelL F pl args us → Calls P f us.toArray w (Post F pl H w v H')
def noPl : PlT := fun _ => none
theorem own_none {b : Nat} (h : Own noPl [] b) : False := by
  obtain ⟨i, p, _, hp, _⟩ := h
  cases hp
theorem Inv.none {F : RoT} (h : ∀ a v, F a = some v → w.cell? a = some v) : Inv F noPl [] w where
  fresh _ _ := rfl
  cell i cs hi := by simp [Heap.cells?] at hi
  data i cs hi := by simp [Heap.data?] at hi
  one i cs hi := by simp [Heap.cells?] at hi
  map i cs hi := by simp [Heap.map?] at hi
  inj i j p q hi := by obtain ⟨o, ho⟩ := hi; simp at ho
  ro := h
  sep a v i p _ hi := by obtain ⟨o, ho⟩ := hi; simp at ho
  pos i p hi := by obtain ⟨o, ho⟩ := hi; simp at ho
theorem cell_lt {a : Addr} {v} (h : w.cell? a = some v) : a.block < w.heap.size := by
  unfold World.cell? at h
  rcases Nat.lt_or_ge a.block w.heap.size with h' | h'
  · exact h'
  · rw [Array.getElem?_eq_none h'] at h; cases h
theorem ObjOk.mono {p : Place} {o : HO} (h : ObjOk F pl w p o) {F' : RoT} {pl' : PlT} {w' : World} (hF : LeF F F') (hp : LeF pl pl')
    (hw : w'.heap[p.block]? = w.heap[p.block]?) : ObjOk F' pl' w' p o := by
  have hc : ∀ j, w'.cell? ⟨p.block, j, none⟩ = w.cell? ⟨p.block, j, none⟩ := fun j => by simp [World.cell?, hw]
  have hz : ∀ j, w'.frozen? ⟨p.block, j, none⟩ = w.frozen? ⟨p.block, j, none⟩ := fun j => by simp [World.frozen?, hw]
  refine ⟨fun cs e => ?_, h.data, fun es e => ?_, ?_⟩
  · obtain ⟨h1, h2, h3, h4⟩ := h.cells cs e
    exact ⟨h1, h2, fun j hj => by rw [hc, hz]; exact h3 j hj, fun j x hx => let ⟨v, hv, hr⟩ := h4 j x hx; ⟨v, by rw [hc]; exact hv, hr.mono hF hp⟩⟩
  · obtain ⟨h0, ces, clock, hh, hm⟩ := h.map es e
    exact ⟨h0, ces, clock, by rw [hw]; exact hh, hm.1.mono hF hp, hm.2.1.mono hF hp, hm.2.2⟩
  · have := h.pos
    rcases Nat.lt_or_ge p.block w'.heap.size with h' | h'
    · exact h'
    · rw [Array.getElem?_eq_none h'] at hw
      have h2 : w.heap[p.block]? = none := hw.symm
      rw [Array.getElem?_eq_none_iff] at h2
      omega
theorem ObjOk.noRd {p : Place} {o : HO} (h : ObjOk F pl w p o) {F' : RoT} (ho : HO.hasRd (some o) = false) : ObjOk F' pl w p o := by
  refine ⟨fun cs e => ?_, h.data, fun es e => ?_, h.pos⟩
  · obtain ⟨h1, h2, h3, h4⟩ := h.cells cs e
    have hcs : hasRdL cs = false := by cases o <;> simp [HO.cells?] at e <;> subst e <;> simpa [HO.hasRd] using ho
    exact ⟨h1, h2, h3, fun j x hx => let ⟨v, hv, hr⟩ := h4 j x hx; ⟨v, hv, hr.noRd (hasRdL_get hcs hx)⟩⟩
  · obtain ⟨h0, ces, clock, hh, hm⟩ := h.map es e
    subst e
    simp only [HO.hasRd, List.any_eq_false] at ho
    refine ⟨h0, ces, clock, hh, ⟨hm.1.1, fun j x v hx hv => ?_⟩, ⟨hm.2.1.1, fun j x v hx hv => ?_⟩, hm.2.2⟩
    · exact (hm.1.2 j x v hx hv).noRd (by
        obtain ⟨e, he, rfl⟩ := List.mem_map.1 (List.mem_of_getElem? hx)
        have := ho e he
        simp at this
        exact this.1)
    · exact (hm.2.1.2 j x v hx hv).noRd (by
        obtain ⟨e, he, rfl⟩ := List.mem_map.1 (List.mem_of_getElem? hx)
        have := ho e he
        simp at this
        exact this.2)
theorem joinPure (hI : Inv F pl H w) {F' : RoT} {pl2 : PlT} {H1 : Heap} {w' : World} {v1 : AV} {u : Value} (hI' : Inv F' pl2 H1 w') (hr : Rel F' pl2 v1 u) (hle : LeF F F')
    (hnew : ∀ a v, F' a = some v → F a = some v ∨ w.heap.size ≤ a.block) (hown : ∀ b, Own pl2 H1 b → w.heap.size ≤ b) (hfr : Fr (fun _ => False) w w') {frz : Bool} {v : AV} {H' : Heap}
    (h : (if frz then (frzV H1 140 v1).map fun v => (v, H) else (shiftH H.length v1 H1).map fun q => (q.1, H ++ q.2)) = some (v, H')) :
    Post F pl H w v H' (.returned u) w' := by
  have hpl : ∀ i p o, H[i]? = some (some o) → pl i = some p → w'.heap[p.block]? = w.heap[p.block]? := fun i p o ho hp => hfr.block p.block (hI.pos i p ⟨o, ho⟩ hp) fun h => h
  cases frz with
  | true =>
    simp only [if_true, Option.map_eq_some_iff, Prod.mk.injEq] at h
    obtain ⟨v', hv', rfl, rfl⟩ := h
    let F3 : RoT := fun a => if w.heap.size ≤ a.block then w'.cell? a else F' a
    have hF : LeF F' F3 := fun a x hx => by
      simp only [F3]
      split
      · exact hI'.ro a x hx
      · exact hx
    obtain ⟨g1, g2, g3⟩ := (frz_sound hI' hF (fun i p hi hp o x hx => by
      simp only [F3]
      rw [if_pos (hown p.block ⟨i, p, hi, hp, rfl⟩)]
      exact hx) pl 140).1 v1 v' u hr hv'
    have h3 : ∀ a x, F3 a = some x → F a = some x ∨ w.heap.size ≤ a.block := fun a x hx => by
      simp only [F3] at hx
      split at hx
      · exact .inr (by assumption)
      · exact hnew a x hx
    refine ⟨u, F3, pl, rfl, g1, Inv.of_objs hI.fresh (fun i o ho => ?_) hI.inj (fun a x hx => ?_) (fun a x i p hx hi hp => ?_), ⟨hfr.mono fun _ _ h => h.elim, fun b hb => .inl hb, hle.trans hF, fun a x hx => ?_⟩, LeF.refl _⟩
    · obtain ⟨p, hp, ho'⟩ := hI.obj ho
      exact ⟨p, hp, ho'.mono (hle.trans hF) (LeF.refl _) (hpl i p o ho hp)⟩
    · simp only [F3] at hx
      split at hx
      · exact hx
      · exact hI'.ro a x hx
    · have := hI.pos i p hi hp
      rcases h3 a x hx with h | h
      · exact hI.sep a x i p h hi hp
      · omega
    · rcases h3 a x hx with h | h
      · exact .inl h
      · exact .inr (.inr h)
  | false =>
    simp only [Bool.false_eq_true, if_false, Option.map_eq_some_iff] at h
    obtain ⟨⟨v2, H2⟩, hq, h⟩ := h
    simp only [Prod.mk.injEq] at h
    obtain ⟨rfl, rfl⟩ := h
    simp only [shiftH, Option.bind_eq_some_iff, Option.map_eq_some_iff, Prod.mk.injEq] at hq
    obtain ⟨v3, h1, H3, h2, rfl, rfl⟩ := hq
    obtain ⟨r1, r2⟩ := renH_get h2
    let pl' : PlT := fun i => if i < H.length then pl i else pl2 (i - H.length)
    have hlt : ∀ i, i < H.length → pl' i = pl i := fun i hi => by simp [pl', hi]
    have hge : ∀ i, pl' (H.length + i) = pl2 i := fun i => by
      simp only [pl']
      rw [if_neg (by omega), Nat.add_sub_cancel_left]
    have hf : ∀ i j p, some (H.length + i) = some j → pl2 i = some p → pl' j = some p := fun i j p hj hp => by cases hj; rw [hge]; exact hp
    have hle' : LeF pl pl' := fun i p hp => by rw [hlt i (hI.lt hp)]; exact hp
    have hpos : ∀ i o, (H ++ H3)[i]? = some (some o) → (i < H.length ∧ H[i]? = some (some o)) ∨ ∃ k o1, i = H.length + k ∧ H1[k]? = some (some o1) ∧ renO (fun i => some (H.length + i)) (some o1) = some (some o) := fun i o ho => by
      rcases Nat.lt_or_ge i H.length with h' | h'
      · rw [List.getElem?_append_left h'] at ho
        exact .inl ⟨h', ho⟩
      · rw [List.getElem?_append_right h'] at ho
        have hk : i - H.length < H1.length := by have := (List.getElem?_eq_some_iff.1 ho).1; omega
        obtain ⟨o', h3, h4⟩ := r2 _ _ (List.getElem?_eq_getElem hk)
        rw [ho] at h4
        cases h4
        obtain ⟨o1, e⟩ := renO_some h3
        exact .inr ⟨i - H.length, o1, by omega, by rw [List.getElem?_eq_getElem hk, e], e ▸ h3⟩
    have hlv : ∀ i, live (H ++ H3) i → (i < H.length ∧ live H i) ∨ ∃ k, i = H.length + k ∧ live H1 k := fun i ⟨o, ho⟩ => by
      rcases hpos i o ho with ⟨a, b⟩ | ⟨k, o1, a, b, _⟩
      · exact .inl ⟨a, o, b⟩
      · exact .inr ⟨k, a, o1, b⟩
    refine ⟨u, F', pl', rfl, hr.ren hf h1, Inv.of_objs (fun i hi => ?_) (fun i o ho => ?_) (fun i j p q hi hj hp hq e => ?_) hI'.ro (fun a x i p hx hi hp => ?_), ⟨hfr.mono fun _ _ h => h.elim, fun b hb => ?_, hle, fun a x hx => ?_⟩, hle'⟩
    · simp only [List.length_append] at hi
      have : i = H.length + (i - H.length) := by omega
      rw [this, hge]
      exact hI'.fresh _ (by omega)
    · rcases hpos i o ho with ⟨a, b⟩ | ⟨k, o1, rfl, b, c⟩
      · obtain ⟨p, hp, ho'⟩ := hI.obj b
        exact ⟨p, hle' _ _ hp, ho'.mono hle hle' (hpl i p o b hp)⟩
      · obtain ⟨p, hp, ho'⟩ := hI'.obj b
        exact ⟨p, by rw [hge]; exact hp, ho'.ren (LeF.refl _) hf rfl c⟩
    · rcases hlv i hi with ⟨a, b⟩ | ⟨k, rfl, b⟩ <;> rcases hlv j hj with ⟨a', b'⟩ | ⟨k', rfl, b'⟩
      · rw [hlt _ a] at hp; rw [hlt _ a'] at hq
        exact hI.inj i j p q b b' hp hq e
      · rw [hlt _ a] at hp; rw [hge] at hq
        have := hI.pos i p b hp
        have := hown q.block ⟨k', q, b', hq, rfl⟩
        omega
      · rw [hge] at hp; rw [hlt _ a'] at hq
        have := hI.pos j q b' hq
        have := hown p.block ⟨k, p, b, hp, rfl⟩
        omega
      · rw [hge] at hp hq
        rw [hI'.inj k k' p q b b' hp hq e]
    · rcases hlv i hi with ⟨a', b⟩ | ⟨k, rfl, b⟩
      · rw [hlt _ a'] at hp
        have := hI.pos i p b hp
        rcases hnew a x hx with h | h
        · exact hI.sep a x i p h b hp
        · omega
      · rw [hge] at hp
        exact hI'.sep a x k p hx b hp
    · obtain ⟨i, p, hi, hp, rfl⟩ := hb
      rcases hlv i hi with ⟨a', b⟩ | ⟨k, rfl, b⟩
      · rw [hlt _ a'] at hp
        exact .inl ⟨i, p, b, hp, rfl⟩
      · rw [hge] at hp
        exact .inr (hown p.block ⟨k, p, b, hp, rfl⟩)
    · rcases hnew a x hx with h | h
      · exact .inl h
      · exact .inr (.inr h)
theorem callPure_sound (hc : CallOk P call) (hI : Inv F pl H w) {f : Nat} {args : List AV} {us : List Value} (hr : RelL F pl args us) {frz : Bool} {v : AV} {H' : Heap}
    (h : callPure call frz f args H = some (v, H')) : Entry P f ∧ Calls P f us.toArray w (Post F pl H w v H') := by
  simp only [callPure, Option.bind_eq_some_iff] at h
  obtain ⟨args', ha, ⟨v1, H1⟩, hcall, h⟩ := h
  obtain ⟨hent, hcs⟩ := hc f args' [] v1 H1 hcall
  refine ⟨hent, ?_⟩
  split at h
  · rename_i hcond
    simp only [Bool.or_eq_true, Bool.and_eq_true, Bool.not_eq_true', List.all_eq_true] at hcond
    rcases hcond with hfree | ⟨hv1, hH1⟩
    · rw [(frz_free 140).2 _ _ hfree ha] at hcs
      refine Calls.mono (hcs F noPl w us (Inv.none hI.ro) (hr.free hfree)) fun e w' ⟨u, F2, pl2, he, h1, h2, h3, h4⟩ => ?_
      subst he
      refine joinPure hI h2 h1 h3.leF (fun a x hx => ?_) (fun b hb => ?_) (h3.fr.mono fun _ _ h => own_none h) h
      · rcases h3.newF a x hx with h | h | h
        · exact .inl h
        · exact (own_none h).elim
        · exact .inr h
      · exact (h3.own b hb).resolve_left own_none
    · have hF : LeF F w.cell? := hI.ro
      obtain ⟨g1, g2, g3⟩ := (frz_sound hI hF (fun i p hi hp o x hx => hx) noPl 140).2 args args' us hr ha
      refine Calls.mono (hcs w.cell? noPl w us (Inv.none fun a x hx => hx) g1) fun e w' ⟨u, F2, pl2, he, h1, h2, h3, h4⟩ => ?_
      subst he
      have hown : ∀ b, Own pl2 H1 b → w.heap.size ≤ b := fun b hb => (h3.own b hb).resolve_left own_none
      have hfr : Fr (fun _ => False) w w' := h3.fr.mono fun _ _ h => own_none h
      have hFw : ∀ a x, F a = some x → w'.cell? a = some x := fun a x hx => h2.ro a x (h3.leF a x (hI.ro a x hx))
      refine joinPure hI (Inv.of_objs h2.fresh (fun i o ho => ?_) h2.inj hFw fun a x i p hx hi hp => ?_) (h1.noRd hv1) (LeF.refl _) (fun a x hx => .inl hx) hown hfr h
      · obtain ⟨p, hp, ho'⟩ := h2.obj ho
        exact ⟨p, hp, ho'.noRd (by have := hH1 _ (List.mem_of_getElem? ho); simpa using this)⟩
      · exact h2.sep a x i p (h3.leF a x (hI.ro a x hx)) hi hp
  · cases h
end
section
variable {P : Program} {T : Tab} {F : RoT} {pl : PlT} {H : Heap} {w : World} {N : Nat} {env : Env} {a : Act} {call : CallF}
theorem posOf_of_get : ∀ {φ : List Nat} {i j : Nat}, nodupB φ = true → φ[j]? = some i → posOf φ i = some j
  | [], _, j, _, h => by simp at h
  | x :: xs, i, j, hn, h => by
    have hn' := hn
    simp only [nodupB, Bool.and_eq_true, Bool.not_eq_true', List.contains_eq_mem, decide_eq_false_iff_not] at hn'
    cases j with
    | zero => simp at h; simp [posOf, h]
    | succ j =>
      have h' : xs[j]? = some i := by simpa using h
      have hne : x ≠ i := fun e => hn'.1 (e ▸ List.mem_of_getElem? h')
      simp [posOf, hne, posOf_of_get hn'.2 h']
theorem writeBack_spec : ∀ {φ : List Nat} {H H' os : Heap}, writeBack H φ os = some H' → nodupB φ = true → (∀ i ∈ φ, i < H.length) →
    φ.length ≤ os.length ∧ H'.length = H.length + (os.length - φ.length) ∧ (∀ i, i < H.length → i ∉ φ → H'[i]? = H[i]?) ∧ (∀ (j : Nat) i, φ[j]? = some i → H'[i]? = os[j]?) ∧ ∀ k, H'[H.length + k]? = os[φ.length + k]?
  | [], H, H', os, h, _, _ => by
    simp only [writeBack] at h
    cases h
    exact ⟨Nat.zero_le _, by simp, fun i hi _ => List.getElem?_append_left hi, fun j i hj => by simp at hj, fun k => by rw [List.getElem?_append_right (by omega)]; simp⟩
  | x :: φ, H, H', [], h, _, _ => by simp [writeBack] at h
  | x :: φ, H, H', o :: os, h, hn, hb => by
    simp only [writeBack] at h
    simp only [nodupB, Bool.and_eq_true, Bool.not_eq_true', List.contains_eq_mem, decide_eq_false_iff_not] at hn
    obtain ⟨h1, h2, h3, h4, h5⟩ := writeBack_spec h hn.2 fun i hi => by rw [List.length_set]; exact hb i (List.mem_cons_of_mem _ hi)
    have hx : x < H.length := hb x (by simp)
    refine ⟨by simp; omega, by rw [h2, List.length_set]; simp, fun i hi hni => ?_, fun j i hj => ?_, fun k => ?_⟩
    · rw [h3 i (by rw [List.length_set]; exact hi) fun h => hni (List.mem_cons_of_mem _ h), List.getElem?_set_ne fun e => hni (by simp [e])]
    · cases j with
      | zero =>
        simp at hj
        subst hj
        rw [h3 x (by rw [List.length_set]; exact hx) hn.1, List.getElem?_set_self hx]
        rfl
      | succ j => rw [h4 j i (by simpa using hj)]; simp
    · have := h5 k
      rw [List.length_set] at this
      rw [this, show (x :: φ).length + k = (φ.length + k) + 1 by simp; omega]
      simp
theorem callMut_sound (hc : CallOk P call) (hI : Inv F pl H w) {f : Nat} {args : List AV} {us : List Value} (hr : RelL F pl args us) {v : AV} {H' : Heap}
    (h : callMut call f args H = some (v, H')) : Entry P f ∧ Calls P f us.toArray w (Post F pl H w v H') := by
  simp only [callMut, Option.bind_eq_some_iff, Option.map_eq_some_iff, Prod.mk.injEq] at h
  generalize hφ : reach H 400 [] args = φ at h
  obtain ⟨⟨args1, H1⟩, hsub, ⟨v1, H2⟩, hcall, v', hv, os, hos, H3, hwb, rfl, rfl⟩ := h
  obtain ⟨hent, hcs⟩ := hc f args1 H1 v1 H2 hcall
  refine ⟨hent, ?_⟩
  have hnd : nodupB φ = true := by
    unfold subHeap at hsub
    split at hsub
    · assumption
    · cases hsub
  obtain ⟨pl1, i1, i2, i3, i4, i5⟩ := subHeap_sound hI hr hsub
  have hφlt : ∀ i ∈ φ, i < H.length := fun i hi => by
    obtain ⟨j, hj, e⟩ := List.mem_iff_getElem.1 hi
    exact (i5 j i (by rw [List.getElem?_eq_getElem hj, e])).2
  refine Calls.mono (hcs F pl1 w us i1 i2) fun e w' ⟨u, F2, pl2, he, h1, h2, h3, h4⟩ => ?_
  subst he
  dsimp only at *
  obtain ⟨b1, b2, b3, b4, b5⟩ := writeBack_spec hwb hnd hφlt
  obtain ⟨r1, r2⟩ := renH_get hos
  let pl' : PlT := fun i => if i < H.length then (match posOf φ i with
    | some k => pl2 k
    | none => pl i) else pl2 (φ.length + (i - H.length))
  have p1 : ∀ (k : Nat) i, φ[k]? = some i → pl' i = pl2 k := fun k i hk => by
    simp only [pl']
    rw [if_pos (i5 k i hk).2, posOf_of_get hnd hk]
  have p2 : ∀ i, i < H.length → i ∉ φ → pl' i = pl i := fun i hi hn => by
    simp only [pl']
    rw [if_pos hi]
    cases e : posOf φ i with
    | none => rfl
    | some k => exact absurd (List.mem_of_getElem? (posOf_get e)) hn
  have p3 : ∀ k, pl' (H.length + k) = pl2 (φ.length + k) := fun k => by
    simp only [pl']
    rw [if_neg (by omega), Nat.add_sub_cancel_left]
  have hle : LeF pl pl' := fun i p hp => by
    have hi := hI.lt hp
    by_cases hm : i ∈ φ
    · obtain ⟨k, hk, e⟩ := List.mem_iff_getElem.1 hm
      have hk' : φ[k]? = some i := by rw [List.getElem?_eq_getElem hk, e]
      rw [p1 k i hk']
      exact h4 k p (by rw [(i5 k i hk').1]; exact hp)
    · rw [p2 i hi hm]; exact hp
  have hf : ∀ i j p, backOf H.length φ i = some j → pl2 i = some p → pl' j = some p := fun i j p hj hp => by
    unfold backOf at hj
    split at hj
    · rw [p1 i j hj]; exact hp
    · cases hj
      rw [p3, show φ.length + (i - φ.length) = i by omega]
      exact hp
  have hpos : ∀ i o, H3[i]? = some (some o) → (i < H.length ∧ i ∉ φ ∧ H[i]? = some (some o)) ∨ ∃ k o1, backOf H.length φ k = some i ∧ H2[k]? = some (some o1) ∧ renO (backOf H.length φ) (some o1) = some (some o) ∧ pl' i = pl2 k := fun i o ho => by
    have fin : ∀ k : Nat, os[k]? = some (some o) → ∃ o1, H2[k]? = some (some o1) ∧ renO (backOf H.length φ) (some o1) = some (some o) := fun k hk => by
      have hlt : k < H2.length := by have := (List.getElem?_eq_some_iff.1 hk).1; omega
      obtain ⟨o', h3, h4⟩ := r2 _ _ (List.getElem?_eq_getElem hlt)
      rw [hk] at h4
      cases h4
      obtain ⟨o1, e⟩ := renO_some h3
      exact ⟨o1, by rw [List.getElem?_eq_getElem hlt, e], e ▸ h3⟩
    rcases Nat.lt_or_ge i H.length with h' | h'
    · by_cases hm : i ∈ φ
      · obtain ⟨k, hk, e⟩ := List.mem_iff_getElem.1 hm
        have hk' : φ[k]? = some i := by rw [List.getElem?_eq_getElem hk, e]
        rw [b4 k i hk'] at ho
        obtain ⟨o1, g1, g2⟩ := fin k ho
        exact .inr ⟨k, o1, by unfold backOf; rw [if_pos hk]; exact hk', g1, g2, p1 k i hk'⟩
      · rw [b3 i h' hm] at ho
        exact .inl ⟨h', hm, ho⟩
    · have e : i = H.length + (i - H.length) := by omega
      rw [e, b5] at ho
      obtain ⟨o1, g1, g2⟩ := fin _ ho
      refine .inr ⟨φ.length + (i - H.length), o1, ?_, g1, g2, by rw [← p3, ← e]⟩
      unfold backOf
      rw [if_neg (by omega), Nat.add_sub_cancel_left, ← e]
  have hlv : ∀ i, live H3 i → (i < H.length ∧ i ∉ φ ∧ live H i) ∨ ∃ k, backOf H.length φ k = some i ∧ live H2 k ∧ pl' i = pl2 k := fun i ⟨o, ho⟩ => by
    rcases hpos i o ho with ⟨a, b, c⟩ | ⟨k, o1, a, b, _, c⟩
    · exact .inl ⟨a, b, o, c⟩
    · exact .inr ⟨k, a, ⟨o1, b⟩, c⟩
  have hold : ∀ i p, i ∉ φ → live H i → pl i = some p → ¬ Own pl1 H1 p.block := fun i p hn hi hp hown => by
    obtain ⟨j, q, hj, hq, e⟩ := hown
    have hjl : j < φ.length := by
      obtain ⟨o, ho⟩ := hj
      have := (List.getElem?_eq_some_iff.1 ho).1
      omega
    obtain ⟨e1, e2⟩ := i5 j φ[j] (List.getElem?_eq_getElem hjl)
    have hlive : live H φ[j] := by
      unfold subHeap at hsub
      rw [if_pos hnd] at hsub
      simp only [Option.bind_eq_some_iff, Option.map_eq_some_iff, Prod.mk.injEq] at hsub
      obtain ⟨_, _, Hp, hp1, Hq, hq1, _, rfl⟩ := hsub
      obtain ⟨_, pp⟩ := pickO_get hp1
      obtain ⟨_, qq⟩ := renH_get hq1
      obtain ⟨x, hx1, hx2⟩ := pp j φ[j] (List.getElem?_eq_getElem hjl)
      obtain ⟨y, hy1, hy2⟩ := qq j x hx2
      obtain ⟨o, ho⟩ := hj
      rw [ho] at hy2
      cases hy2
      obtain ⟨o1, e⟩ := renO_some hy1
      exact ⟨o1, by rw [hx1, e]⟩
    rw [e1] at hq
    have := hI.inj φ[j] i q p hlive hi hq hp e
    exact hn (this ▸ List.getElem_mem hjl)
  have hblk : ∀ i p, i ∉ φ → live H i → pl i = some p → w'.heap[p.block]? = w.heap[p.block]? := fun i p hn hi hp => h3.fr.block p.block (hI.pos i p hi hp) (hold i p hn hi hp)
  refine ⟨u, F2, pl', rfl, h1.ren hf hv, Inv.of_objs (fun i hi => ?_) (fun i o ho => ?_) (fun i j p q hi hj hp hq e => ?_) h2.ro (fun a x i p hx hi hp => ?_),
    ⟨h3.fr.mono fun k _ hk => i3 k hk, fun b hb => ?_, h3.leF, fun a x hx => ?_⟩, hle⟩
  · have e : i = H.length + (i - H.length) := by omega
    rw [e, p3]
    exact h2.fresh _ (by omega)
  · rcases hpos i o ho with ⟨a, b, c⟩ | ⟨k, o1, a, b, c, d⟩
    · obtain ⟨p, hp, ho'⟩ := hI.obj c
      exact ⟨p, hle _ _ hp, ho'.mono h3.leF hle (hblk i p b ⟨o, c⟩ hp)⟩
    · obtain ⟨p, hp, ho'⟩ := h2.obj b
      exact ⟨p, by rw [d]; exact hp, ho'.ren (LeF.refl _) hf rfl c⟩
  · rcases hlv i hi with ⟨a, b, c⟩ | ⟨k, a, b, c⟩ <;> rcases hlv j hj with ⟨a', b', c'⟩ | ⟨k', a', b', c'⟩
    · rw [p2 _ a b] at hp; rw [p2 _ a' b'] at hq
      exact hI.inj i j p q c c' hp hq e
    · rw [p2 _ a b] at hp; rw [c'] at hq
      rcases h3.own q.block ⟨k', q, b', hq, rfl⟩ with h | h
      · exact absurd (e ▸ h) (hold i p b c hp)
      · have := hI.pos i p c hp; omega
    · rw [c] at hp; rw [p2 _ a' b'] at hq
      rcases h3.own p.block ⟨k, p, b, hp, rfl⟩ with h | h
      · exact absurd (e ▸ h) (hold j q b' c' hq)
      · have := hI.pos j q c' hq; omega
    · rw [c] at hp; rw [c'] at hq
      have := h2.inj k k' p q b b' hp hq e
      subst this
      rw [a] at a'
      exact Option.some.inj a'
  · rcases hlv i hi with ⟨a', b, c⟩ | ⟨k, a', b, c⟩
    · rw [p2 _ a' b] at hp
      rcases h3.newF a x hx with h | h | h
      · exact hI.sep a x i p h c hp
      · intro e; exact hold i p b c hp (e ▸ h)
      · have := hI.pos i p c hp; omega
    · rw [c] at hp
      exact h2.sep a x k p hx b hp
  · obtain ⟨i, p, hi, hp, rfl⟩ := hb
    rcases hlv i hi with ⟨a', b, c⟩ | ⟨k, a', b, c⟩
    · rw [p2 _ a' b] at hp
      exact .inl ⟨i, p, c, hp, rfl⟩
    · rw [c] at hp
      exact (h3.own p.block ⟨k, p, b, hp, rfl⟩).imp (i3 _) id
  · exact (h3.newF a x hx).imp id fun h => h.imp (i3 _) id
end
section
variable {P : Program} {T : Tab} {F : RoT} {pl : PlT} {H : Heap} {w : World} {N : Nat} {env : Env} {a : Act} {call : CallF}
def isSlice (T : Tab) (t : Nat) (p : Nat → TS → Bool) : Bool := hasT T t fun s => match s.kind with
  | .slice e => hasT T e (p e)
  | _ => false
theorem isSlice_inv {t p} (h : isSlice T t p = true) : ∃ s e se, T t = some s ∧ s.kind = .slice e ∧ T e = some se ∧ p e se = true := by
  obtain ⟨s, hs, h⟩ := hasT_inv h
  split at h
  · rename_i e he
    obtain ⟨se, hse, h⟩ := hasT_inv h
    exact ⟨s, e, se, hs, he, hse, h⟩
  · cases h
def keyK (T : Tab) (k : Nat) (ks : KS) : Bool := hasT T k fun sk => match sk.kind, ks with
  | .int q', [some q] => q' == q
  | _, _ => sk.kind.agg && decide (1 < ks.length) && eqKs T k ks
def isMapI (T : Tab) (t : Nat) (ks : KS) (p : TS → Bool) : Bool := hasT T t fun s => match s.kind with
  | .map k e => keyK T k ks && hasT T e p
  | _ => false
theorem isMapI_inv {t ks p} (h : isMapI T t ks p = true) : ∃ s k e se, T t = some s ∧ s.kind = .map k e ∧ keyK T k ks = true ∧ T e = some se ∧ p se = true := by
  obtain ⟨s, hs, h⟩ := hasT_inv h
  split at h
  · rename_i k e hke
    simp only [Bool.and_eq_true] at h
    obtain ⟨se, hse, h2⟩ := hasT_inv h.2
    exact ⟨s, k, e, se, hs, hke, h.1, hse, h2⟩
  · cases h
theorem keyK_sound (hT : TOk P T) {k : Nat} {ks : KS} (h : keyK T k ks = true) : KeyP P k ks := by
  obtain ⟨sk, hsk, h⟩ := hasT_inv h
  obtain ⟨fk⟩ := tfact hT hsk
  split at h
  · rename_i hq
    simp only [beq_iff_eq] at h
    subst h
    first
      | exact keyP_int fk hq
      | exact keyP_int fk (by assumption)
  · simp only [Bool.and_eq_true] at h
    exact keyP_flat hT hsk h.1.1 (by simpa using h.1.2) h.2
def zeroIs (zero : AV) (se : TS) : Bool := match wholeOf se.kind.agg se.zero, zero with
  | some (.agg z), .agg zero => okP.sameAV zero z
  | some z, zero => okP.sameAV [zero] [z]
  | none, _ => false
theorem zeroIs_inv {zero se} (h : zeroIs zero se = true) : wholeOf se.kind.agg se.zero = some zero := by
  unfold zeroIs at h
  split at h
  · rename_i z zero hz
    rw [hz, sameAV_eq h]
  · rename_i z zero hz _
    have := sameAV_eq h
    injection this with this
    rw [hz, this]
  · cases h
def okE (T : Tab) (op : Op) (e : EO) (xs : List Opd) : Bool :=
  match op, e with
  | .alloc t, .alloc _ zero => hasT T t (fun s => okP.sameAV zero s.zero) && okOs [] xs
  | .box t x, .box _ => okOs [x] xs
  | .store t p x, .st n => hasT T t (fun s => s.size == n) && okOs [p, x] xs
  | .buildSlice t len parts, .bldS _ _ sz len' zero places => isSlice T t (fun e se => se.size == sz && se.zero.length == se.size && okP.sameAV zero se.zero && placesOk (fun i => some (i * sz, sz)) (parts.toList.map (·.1)) places)
      && len == len' && decide (len * sz ≤ 2 ^ 24) && okOs (parts.toList.map (·.2)) xs
  | .makeSlice t l c, .mkS sz bytes zero => isSlice T t (fun e se => se.size == sz && se.bytes == bytes && decide (bytes ≤ 1048576) && se.zero.length == se.size && okP.sameAV zero se.zero) && okOs [l, c] xs
  | .call ⟨.builtin .append, args, ats⟩, .app _ sz bytes => (match ats.toList with
      | [t, t2] => isSlice T t (fun e se => se.size == sz && se.bytes == bytes && decide (bytes ≤ 1048576) && se.zero.length == se.size) && isSlice T t2 (fun _ _ => true)
      | _ => false) && args.size == 2 && okOs args.toList xs
  | .call ⟨.builtin .copy, args, ats⟩, .cpy sz => (match ats.toList with
      | [t, t2] => isSlice T t (fun e se => se.size == sz)
      | _ => false) && args.size == 2 && okOs args.toList xs
  | .call ⟨.value (.func f), args, _⟩, .call _ _ f' => f == f' && okOs args.toList xs
  | .call ⟨.value g, args, _⟩, .callv _ _ => okOs (g :: args.toList) xs
  | .buildSlice t len parts, .bldB sz len' zero places => isSlice T t (fun e se => se.size == sz && se.zero.length == se.size && okP.sameAV zero se.zero && placesOk (fun i => some (i * sz, sz)) (parts.toList.map (·.1)) places)
      && len == len' && decide (len * sz ≤ 2 ^ 24) && okOs (parts.toList.map (·.2)) xs
  | .makeSlice t l c, .mkB sz bytes zero => isSlice T t (fun e se => se.size == sz && se.bytes == bytes && decide (bytes ≤ 1048576) && se.zero.length == se.size && okP.sameAV zero se.zero) && okOs [l, c] xs
  | .call ⟨.builtin .append, args, ats⟩, .appB sz bytes => (match ats.toList with
      | [t, t2] => isSlice T t (fun e se => se.size == sz && se.bytes == bytes && decide (bytes ≤ 1048576) && se.zero.length == se.size) && isSlice T t2 (fun _ _ => true)
      | _ => false) && args.size == 2 && okOs args.toList xs
  | .makeMap t none, .mkM => hasT T t (fun s => match s.kind with
    | .map _ _ => true
    | _ => false) && okOs [] xs
  | .lookup t m k ok, .lkM ks ok' zero => isMapI T t ks (zeroIs zero) && ok == ok' && okOs [m, k] xs
  | .mapUpdate t m k v, .upM ks => isMapI T t ks (fun _ => true) && okOs [m, k, v] xs
  | .insert t m k v, .upM ks => isMapI T t ks (fun _ => true) && okOs [m, k, v] xs
  | .move x, .frz => okOs [x] xs
  | .assign x, .frz => okOs [x] xs
  | _, _ => false
def Wide (Fn : Fence) : Prop := Fn = Fence.wide ∨ ∃ l, Fn = Fence.wide.inRound l
theorem Wide.fn {Fn : Fence} (h : Wide Fn) (f : FuncId) : Fn.fn f := by rcases h with rfl | ⟨l, rfl⟩ <;> trivial
theorem Wide.depth {Fn : Fence} (h : Wide Fn) : Fn.depth = none := by rcases h with rfl | ⟨l, rfl⟩ <;> rfl
theorem Wide.calls {Fn : Fence} (h : Wide Fn) {n : Nat} {f : FuncId} {args : Array Value} {R : Ending → World → Prop} (hc : Calls P f args w R) : CallsIn Fn n P f args w R := by
  rcases h with rfl | ⟨l, rfl⟩
  · exact callsIn_wide.2 hc
  · exact CallsIn.inRound (F := Fence.wide) l (callsIn_wide.2 hc)
def NextOk (F : RoT) (pl : PlT) (H : Heap) (w : World) (v : AV) (H' : Heap) (K : Value → World → Prop) : Prop :=
  ∀ u F' pl' w', Rel F' pl' v u → Inv F' pl' H' w' → Stp F pl H w F' pl' H' w' → LeF pl pl' → K u w'
theorem Eff.congr {s s' : Sem Next} {v : AV} {H' : Heap} (h : Eff P F pl H w s v H') (e : s'.run P w = s.run P w) : Eff P F pl H w s' v H' := by
  unfold Eff at *
  rw [e]
  exact h
def Out (P : Program) (o : Oper) (ρ : Operand → Value) (w : World) (K : Value → World → Prop) : Prop :=
  match (execOp ρ o).run P w with
  | .ok (.value v) w' => K v w'
  | .ok .skip w' => K undef w'
  | .ok (.enter f args) w' => Calls P f args w' fun e w'' => ∃ u, e = .returned u ∧ K u w''
  | _ => False
theorem Out.wpIn {Fn : Fence} (hF : Wide Fn) {n : Nat} {o : Oper} {K : Value → World → Prop} (h : Out P o a.eval w K) (hd : ∀ c, o.op ≠ .defer c) {KK : Act → World → Prop} {Q : Exit → Act → World → Prop}
    (hK : ∀ u w', K u w' → KK (a.put o.dst u) w') : o.wpIn Fn n P a w KK Q := by
  refine ⟨fun f _ => hF.fn f, ?_⟩
  rw [Oper.semAt_eq _ _ _ hd]
  unfold Out at h
  split at h
  · rename_i e; rw [e]; exact hK _ _ h
  · rename_i e; rw [e]; exact hK _ _ h
  · rename_i e
    rw [e, Oper.uponIn_enter]
    refine ⟨fun e => (by rw [hF.depth] at e; cases e), hF.calls (Calls.mono h fun e w' ⟨u, he, hk⟩ => ?_)⟩
    subst he
    exact hK _ _ hk
  · exact h.elim
theorem Out.mono {o : Oper} {ρ : Operand → Value} {K K' : Value → World → Prop} (h : Out P o ρ w K) (hK : ∀ u w', K u w' → K' u w') : Out P o ρ w K' := by
  unfold Out at *
  split at h
  · exact hK _ _ h
  · exact hK _ _ h
  · exact Calls.mono h fun e w' ⟨u, he, hk⟩ => ⟨u, he, hK _ _ hk⟩
  · exact h.elim
theorem Eff.out {o : Oper} {v : AV} {H' : Heap} (h : Eff P F pl H w (execOp a.eval o) v H') {K : Value → World → Prop} (hK : NextOk F pl H w v H' K) : Out P o a.eval w K := by
  unfold Out
  obtain ⟨w', F', pl', hs, h1, h2, h3⟩ := h
  rcases hs with ⟨u, hu, hr⟩ | ⟨hu, rfl⟩
  · rw [hu]
    exact hK u F' pl' w' hr h1 h2 h3
  · rw [hu]
    exact hK undef F' pl' w' (.undef _) h1 h2 h3
theorem enter_out {o : Oper} {f : FuncId} {args : Array Value} (h : (execOp a.eval o).run P w = .ok (.enter f args) w) {v : AV} {H' : Heap}
    (hc : Calls P f args w (Post F pl H w v H')) {K : Value → World → Prop} (hK : NextOk F pl H w v H' K) : Out P o a.eval w K := by
  unfold Out
  rw [h]
  refine Calls.mono hc fun e w' ⟨u, F', pl', he, h1, h2, h3, h4⟩ => ⟨u, he, hK u F' pl' w' h1 h2 h3 h4⟩
theorem okE_defer {op : Op} {e : EO} {xs : List Opd} (h : okE T op e xs = true) : ∀ c, op ≠ .defer c := by
  intro c e
  subst e
  simp [okE] at h
theorem frz_op_sound (hI : Inv F pl H w) {y : AV} {u : Value} (hr : Rel F pl y u) {v : AV} {H' : Heap} (h : evE call H .frz [y] = some (v, H')) : Eff P F pl H w (pure (.value u)) v H' := by
  have same : v = y → H' = H → Eff P F pl H w (pure (.value u)) v H' := fun e1 e2 => by
    subst e1; subst e2
    exact ⟨w, F, pl, .inl ⟨u, rfl, hr⟩, hI, Stp.refl _ _ _ _, LeF.refl _⟩
  cases y with
  | sl id sz off len =>
    simp only [evE, Option.bind_eq_some_iff] at h
    obtain ⟨cs, hcs, h⟩ := h
    split at h
    · rename_i hle
      simp only [Option.some.injEq, Prod.mk.injEq] at h
      obtain ⟨rfl, rfl⟩ := h
      cases hr with
      | @sl _ _ _ _ cap p a hp hc ha hs =>
      have hcell := cells_of_data hcs
      obtain ⟨q, hq, g1, g2, g3⟩ := hI.cell id cs hcell
      rw [hp] at hq; cases hq
      obtain ⟨k1, k2⟩ := hI.freeze (live_of_cells hcell) hp
      have hfl : idFreeL cs = true ∧ oneL cs = true := ⟨hI.data id cs hcs, hI.one id cs hcell⟩
      have hbl : ((cs.drop off).take (len * sz)).length = len * sz := by rw [List.length_take, List.length_drop]; omega
      obtain ⟨ab, ao, asp⟩ := a
      dsimp only at hs
      subst hs
      refine ⟨w, _, pl, .inl ⟨_, rfl, ?_⟩, k1, k2, LeF.refl _⟩
      have key : ∀ (j : Nat) x, ((cs.drop off).take (len * sz))[j]? = some x → ∃ v, w.cell? ⟨ab, ao + j, none⟩ = some v ∧ Rel F pl x v ∧ roPl F w p.block ⟨ab, ao + j, none⟩ = some v := fun j x hx => by
        have hj : j < len * sz := by have := (List.getElem?_eq_some_iff.1 hx).1; omega
        rw [List.getElem?_take, if_pos hj, List.getElem?_drop] at hx
        have hlen : 0 < len := by
          rcases Nat.eq_zero_or_pos len with e | e
          · rw [e] at hj; omega
          · exact e
        obtain ⟨e, _⟩ := ha (by omega)
        cases e
        obtain ⟨v, hv, hrv⟩ := g3 _ x hx
        rw [← Nat.add_assoc] at hv
        exact ⟨v, hv, hrv, by simp [roPl, hv]⟩
      refine Rel.rd (fun j => (w.cell? ⟨ab, ao + j, none⟩).getD Go.undef) hbl hc (fun _ => rfl) (fl_take _ (fl_drop _ hfl)) (fun j x hx => ?_) fun j x hx => ?_
      · obtain ⟨v, hv, _, h4⟩ := key j x hx
        rw [hv]; exact h4
      · obtain ⟨v, hv, hrv, _⟩ := key j x hx
        rw [hv]
        exact (hrv.mono k2.leF (LeF.refl _)).free (idFreeL_get (fl_take _ (fl_drop _ hfl)).1 hx)
    · cases h
  | nilS => simp only [evE, Option.some.injEq, Prod.mk.injEq] at h; exact same h.1.symm h.2.symm
  | rd sz len cs => simp only [evE, Option.some.injEq, Prod.mk.injEq] at h; exact same h.1.symm h.2.symm
  | _ => simp [evE] at h
theorem evE_sound (hT : TOk P T) (hc : CallOk P call) (hI : Inv F pl H w) {o : Oper} {e : EO} {xs : List Opd} (he : OpdRel F pl env xs a.eval) {v : AV} {H' : Heap}
    (hok : okE T o.op e xs = true) (h : evE call H e (opds env xs) = some (v, H')) {K : Value → World → Prop} (hK : NextOk F pl H w v H' K) : Out P o a.eval w K := by
  obtain ⟨dst, op, type, pos, after, guard⟩ := o
  dsimp only at hok
  unfold okE at hok
  split at hok
  · -- alloc
    simp only [Bool.and_eq_true] at hok
    obtain ⟨s, hs, hz⟩ := hasT_inv hok.1
    obtain ⟨ft⟩ := tfact hT hs
    have e := he _ hok.2
    have e := rel0 e
    rw [e, sameAV_eq hz] at h
    exact Eff.out (alloc_sound ft hI h) hK
  · -- box
    obtain ⟨y, e, hr⟩ := rel1 (he _ hok)
    rw [e] at h
    exact Eff.out (box_sound hI hr h) hK
  · -- store
    simp only [Bool.and_eq_true] at hok
    obtain ⟨s, hs, hz⟩ := hasT_inv hok.1
    simp only [beq_iff_eq] at hz
    subst hz
    obtain ⟨ft⟩ := tfact hT hs
    obtain ⟨x, y, e, h1, h2⟩ := rel2 (he _ hok.2)
    rw [e] at h
    exact Eff.out (st_sound ft hI h1 h2 h) hK
  · -- buildSlice
    rename_i t len parts dat frz sz len' zero places
    simp only [Bool.and_eq_true, beq_iff_eq, decide_eq_true_eq] at hok
    obtain ⟨⟨⟨hs0, rfl⟩, hsz⟩, hx⟩ := hok
    obtain ⟨s, e, se, hs, hk, hse, hp⟩ := isSlice_inv hs0
    simp only [Bool.and_eq_true, beq_iff_eq] at hp
    obtain ⟨⟨⟨rfl, hz⟩, hzz⟩, hp⟩ := hp
    obtain ⟨ft⟩ := tfact hT hs
    obtain ⟨fe⟩ := tfact hT hse
    have e0 := he _ hx
    rw [sameAV_eq hzz] at h
    exact Eff.out (bldS_sound ft hk fe hz hI (parts := parts.map fun (i, x) => (i, a.eval x)) hsz (by simpa [Function.comp_def] using hp) (by simpa [Function.comp_def] using e0) h) hK
  · -- makeSlice
    simp only [Bool.and_eq_true] at hok
    obtain ⟨s, e, se, hs, hk, hse, hp⟩ := isSlice_inv hok.1
    simp only [Bool.and_eq_true, beq_iff_eq, decide_eq_true_eq] at hp
    obtain ⟨⟨⟨⟨rfl, rfl⟩, hb⟩, hz⟩, hzz⟩ := hp
    obtain ⟨ft⟩ := tfact hT hs
    obtain ⟨fe⟩ := tfact hT hse
    obtain ⟨x, y, e, h1, h2⟩ := rel2 (he _ hok.2)
    rw [e, sameAV_eq hzz] at h
    exact Eff.out (mkS_sound ft hk fe hz hb hI h1 h2 h) hK
  · -- append
    simp only [Bool.and_eq_true, beq_iff_eq] at hok
    obtain ⟨⟨ht, hsz⟩, hx⟩ := hok
    rename_i args ats frz sz bytes
    split at ht
    · rename_i t t2 hats
      simp only [Bool.and_eq_true] at ht
      obtain ⟨s, e, se, hs, hk, hse, hp⟩ := isSlice_inv ht.1
      obtain ⟨s2, e2, se2, hs2, hk2, hse2, _⟩ := isSlice_inv ht.2
      simp only [Bool.and_eq_true, beq_iff_eq, decide_eq_true_eq] at hp
      obtain ⟨⟨⟨rfl, rfl⟩, hb⟩, hz⟩ := hp
      obtain ⟨ft⟩ := tfact hT hs
      obtain ⟨ft2⟩ := tfact hT hs2
      obtain ⟨fe⟩ := tfact hT hse
      obtain ⟨p, q, rfl⟩ := size_two hsz
      have e : ats = #[t, t2] := by
        have := congrArg List.toArray hats
        simpa using this
      subst e
      obtain ⟨x, y, e, h1, h2⟩ := rel2 (he _ hx)
      rw [e] at h
      exact Eff.out ((app_sound (ty := type) ft hk ft2 hk2 fe hz hb hI h1 h2 h).congr (by simp [execOp, resolve, invoke, builtin])) hK
    · cases ht
  · -- copy
    simp only [Bool.and_eq_true, beq_iff_eq] at hok
    obtain ⟨⟨ht, hsz⟩, hx⟩ := hok
    rename_i args ats sz
    split at ht
    · rename_i t t2 hats
      obtain ⟨s, e, se, hs, hk, hse, hp⟩ := isSlice_inv ht
      simp only [beq_iff_eq] at hp
      subst hp
      obtain ⟨ft⟩ := tfact hT hs
      obtain ⟨fe⟩ := tfact hT hse
      obtain ⟨p, q, rfl⟩ := size_two hsz
      have e : ats = #[t, t2] := by
        have := congrArg List.toArray hats
        simpa using this
      subst e
      obtain ⟨x, y, e, h1, h2⟩ := rel2 (he _ hx)
      rw [e] at h
      exact Eff.out ((cpy_sound (t2 := t2) (ty := type) ft hk fe hI h1 h2 h).congr (by simp [execOp, resolve, invoke, builtin])) hK
    · cases ht
  · -- a call of a function
    simp only [Bool.and_eq_true, beq_iff_eq] at hok
    obtain ⟨rfl, hx⟩ := hok
    rename_i f args ats pure frz
    have hr := he _ hx
    have key : Entry P f ∧ Calls P f (args.toList.map a.eval).toArray w (Post F pl H w v H') := by
      cases pure with
      | true => exact callPure_sound hc hI hr (by simpa only [evE] using h)
      | false => exact callMut_sound hc hI hr (by simpa only [evE] using h)
    have e1 : (args.toList.map a.eval).toArray = args.map a.eval := by simp [← Array.toList_map]
    rw [e1] at key
    refine enter_out (f := f) (args := args.map a.eval) ?_ key.2 hK
    simp only [execOp, resolve, Act.eval, Deferred.ofValue, Sem.run_bind, Sem.run_pure, Result.andThen_ok, invoke, Array.append_empty]
    have := key.1.run (args.map a.eval) w
    simpa using this
  · -- a call of a value
    rename_i g args ats pure frz
    obtain ⟨x, r, e, h1, h2⟩ := relC (he _ hok)
    rw [e] at h
    cases x with
    | fn f cap =>
      obtain ⟨vs, hg, hcap⟩ := rel_fn_iff.1 h1
      have hr := h2.append hcap
      have key : Entry P f ∧ Calls P f (args.toList.map a.eval ++ vs.toList).toArray w (Post F pl H w v H') := by
        cases pure with
        | true => exact callPure_sound hc hI hr (by simpa only [evE] using h)
        | false => exact callMut_sound hc hI hr (by simpa only [evE] using h)
      have e1 : (args.toList.map a.eval ++ vs.toList).toArray = args.map a.eval ++ vs := by simp [← Array.toList_map]
      rw [e1] at key
      refine enter_out (f := f) (args := args.map a.eval ++ vs) ?_ key.2 hK
      simp only [execOp, resolve, hg, Deferred.ofValue, Sem.run_bind, Sem.run_pure, Result.andThen_ok, invoke, Array.empty_append]
      exact key.1.run _ w
    | _ => cases pure <;> simp [evE] at h
  · -- buildSlice
    rename_i t len parts sz len' zero places
    simp only [Bool.and_eq_true, beq_iff_eq, decide_eq_true_eq] at hok
    obtain ⟨⟨⟨hs0, rfl⟩, hsz⟩, hx⟩ := hok
    obtain ⟨s, e, se, hs, hk, hse, hp⟩ := isSlice_inv hs0
    simp only [Bool.and_eq_true, beq_iff_eq] at hp
    obtain ⟨⟨⟨rfl, hz⟩, hzz⟩, hp⟩ := hp
    obtain ⟨ft⟩ := tfact hT hs
    obtain ⟨fe⟩ := tfact hT hse
    have e0 := he _ hx
    rw [sameAV_eq hzz] at h
    exact Eff.out (bldB_sound ft hk fe hz hI (parts := parts.map fun (i, x) => (i, a.eval x)) hsz (by simpa [Function.comp_def] using hp) (by simpa [Function.comp_def] using e0) h) hK
  · -- makeSlice
    simp only [Bool.and_eq_true] at hok
    obtain ⟨s, e, se, hs, hk, hse, hp⟩ := isSlice_inv hok.1
    simp only [Bool.and_eq_true, beq_iff_eq, decide_eq_true_eq] at hp
    obtain ⟨⟨⟨⟨rfl, rfl⟩, hb⟩, hz⟩, hzz⟩ := hp
    obtain ⟨ft⟩ := tfact hT hs
    obtain ⟨fe⟩ := tfact hT hse
    obtain ⟨x, y, e, h1, h2⟩ := rel2 (he _ hok.2)
    rw [e, sameAV_eq hzz] at h
    exact Eff.out (mkB_sound ft hk fe hz hb hI h1 h2 h) hK
  · -- append
    simp only [Bool.and_eq_true, beq_iff_eq] at hok
    obtain ⟨⟨ht, hsz⟩, hx⟩ := hok
    rename_i args ats sz bytes
    split at ht
    · rename_i t t2 hats
      simp only [Bool.and_eq_true] at ht
      obtain ⟨s, e, se, hs, hk, hse, hp⟩ := isSlice_inv ht.1
      obtain ⟨s2, e2, se2, hs2, hk2, hse2, _⟩ := isSlice_inv ht.2
      simp only [Bool.and_eq_true, beq_iff_eq, decide_eq_true_eq] at hp
      obtain ⟨⟨⟨rfl, rfl⟩, hb⟩, hz⟩ := hp
      obtain ⟨ft⟩ := tfact hT hs
      obtain ⟨ft2⟩ := tfact hT hs2
      obtain ⟨fe⟩ := tfact hT hse
      obtain ⟨p, q, rfl⟩ := size_two hsz
      have e : ats = #[t, t2] := by
        have := congrArg List.toArray hats
        simpa using this
      subst e
      obtain ⟨x, y, e, h1, h2⟩ := rel2 (he _ hx)
      rw [e] at h
      exact Eff.out ((appB_sound (ty := type) ft hk ft2 hk2 fe hz hb hI h1 h2 h).congr (by simp [execOp, resolve, invoke, builtin])) hK
    · cases ht
  · -- a map made
    simp only [Bool.and_eq_true] at hok
    obtain ⟨s, hs, hk⟩ := hasT_inv hok.1
    obtain ⟨ft⟩ := tfact hT hs
    have e := rel0 (he _ hok.2)
    rw [e] at h
    split at hk
    · rename_i k el hke
      exact Eff.out (mkM_sound ft hke hI h) hK
    · cases hk
  · -- looked up
    simp only [Bool.and_eq_true, beq_iff_eq] at hok
    obtain ⟨⟨hm, rfl⟩, hx⟩ := hok
    obtain ⟨s, k, e, se, hs, hke, hkk, hse, hz⟩ := isMapI_inv hm
    obtain ⟨ft⟩ := tfact hT hs
    have fk := keyK_sound hT hkk
    obtain ⟨fe⟩ := tfact hT hse
    obtain ⟨x, y, e, h1, h2⟩ := rel2 (he _ hx)
    rw [e] at h
    exact Eff.out (lkM_sound ft hke fk fe (zeroIs_inv hz) hI h1 h2 h) hK
  · -- updated
    simp only [Bool.and_eq_true] at hok
    obtain ⟨s, k, e, se, hs, hke, hkk, hse, hz⟩ := isMapI_inv hok.1
    obtain ⟨ft⟩ := tfact hT hs
    have fk := keyK_sound hT hkk
    obtain ⟨x, y, z, e, h1, h2, h3⟩ := rel3 (he _ hok.2)
    rw [e] at h
    exact Eff.out (upM_sound ft hke fk hI h1 h2 h3 h) hK
  · -- inserted
    simp only [Bool.and_eq_true] at hok
    obtain ⟨s, k, e, se, hs, hke, hkk, hse, hz⟩ := isMapI_inv hok.1
    obtain ⟨ft⟩ := tfact hT hs
    have fk := keyK_sound hT hkk
    obtain ⟨x, y, z, e, h1, h2, h3⟩ := rel3 (he _ hok.2)
    rw [e] at h
    exact Eff.out (upM_sound ft hke fk hI h1 h2 h3 h) hK
  · obtain ⟨y, e, hr⟩ := rel1 (he _ hok)
    rw [e] at h
    exact Eff.out ((frz_op_sound hI hr h).congr (by simp [execOp])) hK
  · obtain ⟨y, e, hr⟩ := rel1 (he _ hok)
    rw [e] at h
    exact Eff.out ((frz_op_sound hI hr h).congr (by simp [execOp])) hK
  · cases hok
end
structure Cfg (N k : Nat) (dz : List Deferred) (F0 : RoT) (pl0 : PlT) (H0 : Heap) (w0 : World) (env : Env) (H : Heap) (a : Act) (w : World) (F : RoT) (pl : PlT) : Prop where
  inv : Inv F pl H w
  env : EnvRel N F pl env a.tmps
  defers : a.defers = dz
  stp : Stp F0 pl0 H0 w0 F pl H w
  keep : ∀ j p, j < k → pl0 j = some p → pl j = some p
def At (N k : Nat) (dz : List Deferred) (F0 : RoT) (pl0 : PlT) (H0 : Heap) (w0 : World) (env : Env) (H : Heap) (a : Act) (w : World) : Prop := ∃ F pl, Cfg N k dz F0 pl0 H0 w0 env H a w F pl
section
variable {P : Program} {T : Tab} {F F0 : RoT} {pl pl0 : PlT} {H H0 : Heap} {w w0 : World} {N k : Nat} {env : Env} {a : Act} {call : CallF} {dz : List Deferred}
theorem EnvRel.mono {F' : RoT} {pl' : PlT} {tmps} (h : EnvRel N F pl env tmps) (hF : LeF F F') (hp : LeF pl pl') : EnvRel N F' pl' env tmps := ⟨h.size, fun s => (h.rel s).mono hF hp⟩
theorem put_defers (a : Act) (dst : Option Tmp) (v : Value) : (a.put dst v).defers = a.defers := by cases dst <;> rfl
theorem Cfg.put (h : Cfg N k dz F0 pl0 H0 w0 env H a w F pl) {dst : Option Nat} (hd : ∀ d, dst = some d → d < N) {v : AV} {u : Value} {F' : RoT} {pl' : PlT} {H' : Heap} {w' : World}
    (h1 : Rel F' pl' v u) (h2 : Inv F' pl' H' w') (h3 : Stp F pl H w F' pl' H' w') (h4 : LeF pl pl') : Cfg N k dz F0 pl0 H0 w0 (putE env dst v) H' (a.put dst u) w' F' pl' :=
  ⟨h2, (h.env.mono h3.leF h4).put dst hd h1, (put_defers _ _ _).trans h.defers, h.stp.trans h3, fun j p hj hp => h4 j p (h.keep j p hj hp)⟩
theorem Yields1.out {o : Oper} {v : AV} (h : Yields1 P F pl w (execOp a.eval o) v) {K : Value → World → Prop} (hK : ∀ u, Rel F pl v u → K u w) : Out P o a.eval w K := by
  obtain ⟨u, hu, hr⟩ := h
  unfold Out
  rw [hu]
  exact hK u hr
theorem rel_undef : Rel F pl (.tup []) Go.undef := rel_tup_iff.2 ⟨#[], rfl, .nil⟩
theorem okP_defer {op : Op} {p : PO} {xs : List Opd} (h : okP T op p xs = true) : ∀ c, op ≠ .defer c := by
  intro c e
  subst e
  simp [okP] at h
def okG (ops : Array Oper) (g : Option (Nat × Bool)) (g' : Option (Nat × Bool)) : Bool :=
  match g, g' with
  | none, none => true
  | some (j, b), some (s, b') => b == b' && (match ops[j]? with
    | some o => o.dst == some s
    | none => false)
  | _, _ => false
def okI (T : Tab) (N : Nat) (ops : Array Oper) (o : Oper) (i : AI) : Bool :=
  o.dst == i.dst && (match i.dst with
    | none => true
    | some d => decide (d < N)) && okG ops o.guard i.guard && (match i.op with
    | .inl p => okP T o.op p i.xs
    | .inr e => okE T o.op e i.xs)
theorem wanted_of {ops : Array Oper} {o : Oper} {g' : Option (Nat × Bool)} (he : ∀ s b, g' = some (s, b) → Rel F pl (look env s) (a.tmps.getD s Go.undef)) (hg : okG ops o.guard g' = true) :
    (g' = none → Region.wanted o (yielded ops a.tmps) = true) ∧ ∀ s b, g' = some (s, b) → ∀ t, asG (look env s) b = some t → Region.wanted o (yielded ops a.tmps) = t := by
  cases hgd : o.guard with
  | none =>
    rw [hgd] at hg
    cases g' with
    | none => exact ⟨fun _ => by simp [Region.wanted, hgd], fun s b e => (by cases e)⟩
    | some g => simp [okG] at hg
  | some g =>
    obtain ⟨j, b⟩ := g
    rw [hgd] at hg
    cases g' with
    | none => simp [okG] at hg
    | some g =>
      obtain ⟨s, b'⟩ := g
      simp only [okG, Bool.and_eq_true, beq_iff_eq] at hg
      obtain ⟨rfl, hg⟩ := hg
      split at hg
      · rename_i o' ho
        simp only [beq_iff_eq] at hg
        refine ⟨fun e => (by cases e), fun s0 b0 e c hc => ?_⟩
        cases e
        have hr := he s _ rfl
        unfold asG at hc
        split at hc
        · rename_i t hv
          rw [hv] at hr
          have hu := rel_bool_inv hr
          cases hc
          have hs : a.tmps[s]? = some (.bool t) := by
            rw [Array.getD_eq_getD_getElem?] at hu
            cases hx : a.tmps[s]? with
            | none => rw [hx] at hu; simp [undef] at hu
            | some x => rw [hx] at hu; simpa using hu
          simp only [Region.wanted, hgd, yielded, ho, hg, Option.bind_some, hs]
          rfl
        · rename_i hv
          rw [hv] at hr
          cases hc
          obtain ⟨vs, hu, hvs⟩ := rel_tup_iff.1 hr
          have hs : yielded ops a.tmps j = none := by
            simp only [yielded, ho, hg, Option.bind_some]
            rw [Array.getD_eq_getD_getElem?] at hu
            cases hx : a.tmps[s]? with
            | none => rfl
            | some x => rw [hx] at hu; simp at hu; rw [hu]
          simp only [Region.wanted, hgd, hs]
          rfl
        · cases hc
      · cases hg
theorem opStep {Fn : Fence} (hF : Wide Fn) {n : Nat} (hT : TOk P T) (hc : CallOk P call) (h : Cfg N k dz F0 pl0 H0 w0 env H a w F pl) {ops : Array Oper} {o : Oper} {i : AI} (hok : okI T N ops o i = true) {K : KT} {r : AV × Heap}
    (hev : evI call i K env H = some r) : ∃ v H', K (putE env i.dst v) H' = some r ∧ ∀ (KK : Act → World → Prop) (Q : Exit → Act → World → Prop),
      (∀ a' w', At N k dz F0 pl0 H0 w0 (putE env i.dst v) H' a' w' → KK a' w') →
      (if Region.wanted o (yielded ops a.tmps) then o.wpIn Fn n P a w KK Q else (∀ f, o.about P w a.eval = some f → Fn.fn f) ∧ KK (a.put o.dst undef) w) := by
  obtain ⟨op, xs, dst, guard, keep⟩ := i
  simp only [okI, Bool.and_eq_true, beq_iff_eq] at hok
  obtain ⟨⟨⟨hd, hN⟩, hg⟩, hop⟩ := hok
  have hN' : ∀ d, dst = some d → d < N := fun d e => by subst e; simpa using hN
  have hw := wanted_of (fun s b _ => h.env.rel s) hg
  have skip : Cfg N k dz F0 pl0 H0 w0 (putE env dst (.tup [])) H (a.put dst undef) w F pl := h.put hN' rel_undef h.inv (Stp.refl _ _ _ _) (LeF.refl _)
  have goP : ∀ (p : PO) v, okP T o.op p xs = true → evP H p (opds env xs) = some v → ∀ (KK : Act → World → Prop) (Q : Exit → Act → World → Prop), (∀ a' w', At N k dz F0 pl0 H0 w0 (putE env dst v) H a' w' → KK a' w') → o.wpIn Fn n P a w KK Q :=
    fun p v hop hv KK Q hK => Out.wpIn hF (Yields1.out (K := fun u w' => Rel F pl v u ∧ w' = w) (evP_sound hT h.inv (h.env.opd xs) hop hv) fun u hu => ⟨hu, rfl⟩) (okP_defer hop) fun u w' ⟨hu, e⟩ => hK _ _ (by rw [hd, e]; exact ⟨F, pl, h.put hN' hu h.inv (Stp.refl _ _ _ _) (LeF.refl _)⟩)
  have goE : ∀ (e : EO) v H', okE T o.op e xs = true → evE call H e (opds env xs) = some (v, H') → ∀ (KK : Act → World → Prop) (Q : Exit → Act → World → Prop), (∀ a' w', At N k dz F0 pl0 H0 w0 (putE env dst v) H' a' w' → KK a' w') → o.wpIn Fn n P a w KK Q :=
    fun e v H' hop hv KK Q hK => Out.wpIn hF (evE_sound (K := fun u w' => At N k dz F0 pl0 H0 w0 (putE env dst v) H' (a.put dst u) w') hT hc h.inv (h.env.opd xs) hop hv fun u F' pl' w' h1 h2 h3 h4 => ⟨F', pl', h.put hN' h1 h2 h3 h4⟩) (okE_defer hop) fun u w' hA => hK _ _ (by rw [hd]; exact hA)
  cases op with
  | inl p =>
    cases guard with
    | none =>
      simp only [evI, Option.bind_eq_some_iff] at hev
      obtain ⟨v, hv, hK⟩ := hev
      refine ⟨v, H, hK, fun KK Q hKK => ?_⟩
      rw [if_pos (hw.1 rfl)]
      exact goP p v hop hv KK Q hKK
    | some g =>
      obtain ⟨s, b⟩ := g
      simp only [evI, gdV, Option.bind_eq_some_iff] at hev
      obtain ⟨v, ⟨c, hc', hv⟩, hK⟩ := hev
      refine ⟨v, H, hK, fun KK Q hKK => ?_⟩
      rw [hw.2 s b rfl c hc']
      by_cases e : c = true
      · rw [if_pos e] at hv
        rw [if_pos e]
        exact goP p v hop hv KK Q hKK
      · rw [if_neg e] at hv
        cases hv
        rw [if_neg e]
        exact ⟨fun f _ => hF.fn f, hKK _ _ (by rw [hd]; exact ⟨F, pl, skip⟩)⟩
  | inr p =>
    cases guard with
    | none =>
      simp only [evI, Option.bind_eq_some_iff] at hev
      obtain ⟨⟨v, H'⟩, hv, hK⟩ := hev
      split at hK
      rotate_left
      · cases hK
      refine ⟨v, H', hK, fun KK Q hKK => ?_⟩
      rw [if_pos (hw.1 rfl)]
      exact goE p v H' hop hv KK Q hKK
    | some g =>
      obtain ⟨s, b⟩ := g
      simp only [evI, gdE, Option.bind_eq_some_iff] at hev
      obtain ⟨⟨v, H'⟩, ⟨c, hc', hv⟩, hK⟩ := hev
      split at hK
      rotate_left
      · cases hK
      refine ⟨v, H', hK, fun KK Q hKK => ?_⟩
      rw [hw.2 s b rfl c hc']
      by_cases e : c = true
      · rw [if_pos e] at hv
        rw [if_pos e]
        exact goE p v H' hop hv KK Q hKK
      · rw [if_neg e] at hv
        cases hv
        rw [if_neg e]
        exact ⟨fun f _ => hF.fn f, hKK _ _ (by rw [hd]; exact ⟨F, pl, skip⟩)⟩
def okSeq (T : Tab) (N : Nat) (ops : Array Oper) : List Oper → List AI → Bool
  | [], [] => true
  | o :: os, i :: is => okI T N ops o i && okSeq T N ops os is
  | _, _ => false
theorem seq_sound {Fn : Fence} (hF : Wide Fn) {n : Nat} (hT : TOk P T) (hc : CallOk P call) {ops : Array Oper} {K : KT} {r : AV × Heap} {Q : Exit → Act → World → Prop}
    (hQ : ∀ env H a w, K env H = some r → At N k dz F0 pl0 H0 w0 env H a w → Q .normal a w) :
    ∀ (os : List Oper) (is : List AI) (j : Nat) (env : Env) (H : Heap) (a : Act) (w : World), okSeq T N ops os is = true → (∀ m, ops[j + m]? = os[m]?) → evR call is K env H = some r → At N k dz F0 pl0 H0 w0 env H a w →
      wpOpsIn Fn n P ops Q (List.range' j os.length) a w
  | [], [], j, env, H, a, w, _, _, hev, hA => by
    simp only [evR] at hev
    exact hQ env H a w hev hA
  | o :: os, i :: is, j, env, H, a, w, hok, hops, hev, ⟨F, pl, h⟩ => by
    simp only [okSeq, Bool.and_eq_true] at hok
    simp only [evR] at hev
    obtain ⟨v, H', h1, h2⟩ := opStep hF (n := n) hT hc h hok.1 hev
    have ho : ops[j]? = some o := by simpa using hops 0
    simp only [List.length_cons, List.range'_succ, wpOpsIn, ho]
    exact h2 _ Q fun a' w' hA => seq_sound hF hT hc hQ os is (j + 1) _ _ a' w' hok.2 (fun m => by rw [show j + 1 + m = j + (m + 1) by omega, hops]; simp) h1 hA
  | [], _ :: _, _, _, _, _, _, hok, _, _, _ => by simp [okSeq] at hok
  | _ :: _, [], _, _, _, _, _, hok, _, _, _ => by simp [okSeq] at hok
theorem rangeL_get : ∀ (m : Nat) (acc : List Nat), (∀ j, j < m → (rangeL m acc)[j]? = some j) ∧ (∀ j, (rangeL m acc)[m + j]? = acc[j]?)
  | 0, acc => ⟨fun j hj => by omega, fun j => by simp [rangeL]⟩
  | m + 1, acc => by
    obtain ⟨h1, h2⟩ := rangeL_get m (m :: acc)
    simp only [rangeL]
    refine ⟨fun j hj => ?_, fun j => ?_⟩
    · rcases Nat.lt_or_ge j m with h | h
      · exact h1 j h
      · have : j = m := by omega
        subst this
        simpa using h2 0
    · rw [show m + 1 + j = m + (j + 1) by omega, h2]
      simp
theorem reach_prefix (H : Heap) : ∀ (m : Nat) (acc : List Nat) (l : List AV) (j i : Nat), acc[j]? = some i → (reach H m acc l)[j]? = some i
  | 0, acc, l, j, i, h => by simpa [reach] using h
  | m + 1, acc, [], j, i, h => by simpa [reach] using h
  | m + 1, acc, v :: r, j, i, h => by
    have happ : ∀ x, (acc ++ [x])[j]? = some i := fun x => by
      rw [List.getElem?_append_left (List.getElem?_eq_some_iff.1 h).1]; exact h
    cases v <;> simp only [reach] <;> first
      | exact reach_prefix H m _ _ j i h
      | (split <;> first
        | exact reach_prefix H m _ _ j i h
        | exact reach_prefix H m _ _ j i (happ _))
theorem gc_sound (hI : Inv F pl H w) {m : Nat} {vs vs' : List AV} {us : List Value} {H' : Heap} (hv : RelL F pl vs us) (h : gc m vs H = some (vs', H')) :
    ∃ pl', Inv F pl' H' w ∧ RelL F pl' vs' us ∧ (∀ b, Own pl' H' b → Own pl H b) ∧ ∀ j p, j < m → pl j = some p → pl' j = some p := by
  obtain ⟨pl', h1, h2, h3, h4, h5⟩ := subHeap_sound hI hv h
  refine ⟨pl', h1, h2, h3, fun j p hj hp => ?_⟩
  rw [(h5 j j (reach_prefix H 400 _ _ j j ((rangeL_get m []).1 j hj))).1]
  exact hp
theorem Cfg.gc (h : Cfg N k dz F0 pl0 H0 w0 env H a w F pl) {vs vs' : List AV} {us : List Value} {H' : Heap} (hv : RelL F pl vs us) (hg : gc k vs H = some (vs', H')) :
    ∃ pl', Inv F pl' H' w ∧ RelL F pl' vs' us ∧ Stp F0 pl0 H0 w0 F pl' H' w ∧ ∀ j p, j < k → pl0 j = some p → pl' j = some p := by
  obtain ⟨pl', h1, h2, h3, h4⟩ := gc_sound h.inv hv hg
  exact ⟨pl', h1, h2, ⟨h.stp.fr, fun b hb => h.stp.own b (h3 b hb), h.stp.leF, h.stp.newF⟩, fun j p hj hp => h4 j p hj (h.keep j p hj hp)⟩
theorem bindEnv_look : ∀ (live : List Nat) (i : Nat) (vs : List AV) (s : Nat), look (bindEnv live i vs) s = .undef ∨ ∃ j, live[j]? = some s ∧ look (bindEnv live i vs) s = vs.getD (i + j) .undef
  | [], i, vs, s => .inl rfl
  | x :: r, i, vs, s => by
    simp only [bindEnv, look]
    by_cases e : x = s
    · rw [if_pos e]
      exact .inr ⟨0, by simp [e], by simp⟩
    · rw [if_neg e]
      rcases bindEnv_look r (i + 1) vs s with h | ⟨j, h1, h2⟩
      · exact .inl h
      · exact .inr ⟨j + 1, by simpa using h1, by rw [h2, show i + 1 + j = i + (j + 1) by omega]⟩
theorem looks_rel {tmps : Array Value} (he : EnvRel N F pl env tmps) : ∀ (live : List Nat), RelL F pl (looks env live) (live.map fun s => tmps.getD s undef)
  | [] => .nil
  | s :: r => by simp only [looks, List.map_cons]; exact (looks_rel he r).cons (he.rel s)
theorem Cfg.pre (h : Cfg N k dz F0 pl0 H0 w0 env H a w F pl) {live : List Nat} {vs' : List AV} {H' : Heap} (hg : Go.AM.gc k (looks env live) H = some (vs', H')) :
    At N k dz F0 pl0 H0 w0 (bindEnv live 0 vs') H' a w := by
  obtain ⟨pl', h1, h2, h3, h4⟩ := h.gc (looks_rel h.env live) hg
  refine ⟨F, pl', h1, ⟨h.env.size, fun s => ?_⟩, h.defers, h3, h4⟩
  rcases bindEnv_look live 0 vs' s with e | ⟨j, e1, e2⟩
  · rw [e]; exact .undef _
  · rw [e2, Nat.zero_add]
    have hl : j < vs'.length := by
      have := h2.1
      have := (List.getElem?_eq_some_iff.1 e1).1
      simp at *; omega
    obtain ⟨v, hv, hr⟩ := h2.get (List.getElem?_eq_getElem hl)
    simp only [List.getElem?_map, e1, Option.map_some, Option.some.injEq] at hv
    rw [List.getD_eq_getElem?_getD, List.getElem?_eq_getElem hl, hv]
    exact hr
end
inductive Kd where
  | y | ld | a | e
  deriving DecidableEq
def kindOf (i : AI) : Kd :=
  match i.op with
  | .inl (.ld ..) => .ld
  | .inl .lenM => .e
  | .inl (.slcP ..) => .e
  | .inl _ => .y
  | .inr e => if i.guard.isSome then .e else match e with
    | .alloc _ zero => if idFreeL zero then .a else .e
    | .bldS .. => .a
    | .mkS _ _ zero => if idFreeL zero then .a else .e
    | _ => .e
def mutE (i : AI) : Bool :=
  match i.op with
  | .inl _ => false
  | .inr (.call true _ _) => false
  | .inr (.callv true _) => false
  | .inr (.alloc ..) => false
  | .inr (.bldS ..) => false
  | .inr (.mkS ..) => false
  | .inr (.bldB ..) => false
  | .inr (.mkB ..) => false
  | .inr _ => true
def tmpsOf : List Opd → List Nat
  | [] => []
  | .t n :: r => n :: tmpsOf r
  | .c _ :: r => tmpsOf r
def readsOf (i : AI) : List Nat := match i.guard with
  | none => tmpsOf i.xs
  | some (s, _) => s :: tmpsOf i.xs
structure Row where
  j : Nat
  ch : Bool
  i : AI
def Row.kd (r : Row) : Kd := if r.ch then .e else kindOf r.i
def bef (ms : List Nat) (x y : Nat) : Bool := (ms.getD y 0).testBit x
def hits (d : Option Nat) (l : List Nat) : Bool := match d with
  | none => false
  | some d => l.contains d
def isFld (i : AI) (m : Nat) : Bool := match i.op, i.guard, i.xs with
  | .inl (.fldA _), none, [.t m'] => m' == m
  | _, _, _ => false
theorem isFld_inv {i : AI} {m : Nat} (h : isFld i m = true) : ∃ o, i.op = .inl (.fldA o) ∧ i.guard = none ∧ i.xs = [.t m] := by
  unfold isFld at h
  split at h
  · rename_i o m' e1 e2 e3
    simp only [beq_iff_eq] at h
    subst h
    exact ⟨o, e1, e2, e3⟩
  · cases h
def keptBy (all : List Row) (ms : List Nat) (x y : Row) : Bool := match y.i.xs with
  | [.t n] => x.i.keep.any fun
    | .t m => m == n || all.any fun z => z.i.dst == some n && isFld z.i m && bef ms z.j y.j
    | _ => false
  | _ => false
def okPair (all : List Row) (ms : List Nat) (x y : Row) : Bool :=
  (x.i.dst.isNone || x.i.dst != y.i.dst) && x.j != y.j &&
  (bef ms x.j y.j || (!hits x.i.dst (readsOf y.i) && !hits y.i.dst (readsOf x.i) && y.kd != .e && !(y.kd == .ld && x.kd == .e && mutE x.i && !keptBy all ms x y))) &&
  (!(x.kd == .a && hits x.i.dst (readsOf y.i)) || y.kd == .e)
def okPairs (all : List Row) (ms : List Nat) : List Row → Bool
  | [] => true
  | x :: r => r.all (okPair all ms x) && okPairs all ms r
def edgeMask (ms : List Nat) : List Edge → Nat
  | [] => 0
  | e :: r => if Region.binds .any e then (2 ^ e.on ||| ms.getD e.on 0) ||| edgeMask ms r else edgeMask ms r
def okRow (T : Tab) (N : Nat) (ops : Array Oper) (ms : List Nat) (done : List Nat) (r : Row) : Bool :=
  match ops[r.j]? with
  | none => false
  | some o => okI T N ops o r.i && ms.getD r.j 0 == edgeMask ms o.after.toList && o.after.toList.all fun e => !Region.binds .any e || done.contains e.on
def okRows (T : Tab) (N : Nat) (ops : Array Oper) (ms : List Nat) : List Nat → List Row → Bool
  | _, [] => true
  | done, r :: rs => okRow T N ops ms done r && okRows T N ops ms (r.j :: done) rs
def rowsOf : List Nat → List Nat → List AI → List Row
  | j :: js, chs, i :: is => ⟨j, chs.contains j, i⟩ :: rowsOf js chs is
  | _, _, _ => []
def okDraw (T : Tab) (N : Nat) (ops : Array Oper) (is : List AI) (ord chs ms : List Nat) : Bool :=
  let rows := rowsOf ord chs is
  rows.length == ops.size && is.length == ops.size && (List.range ops.size).all (fun j => rows.any fun x => x.j == j) && rows.all (fun x => (tmpsOf x.i.keep).all fun n => rows.all fun z => z.i.dst != some n) && okPairs rows ms rows && okRows T N ops ms [] rows
theorem okPairs_get {all : List Row} {ms : List Nat} : ∀ {rows : List Row}, okPairs all ms rows = true → ∀ {p q : Nat} {x y : Row}, rows[p]? = some x → rows[q]? = some y → p < q → okPair all ms x y = true
  | [], _, p, q, x, y, hp, _, _ => by simp at hp
  | r :: rs, h, p, q, x, y, hp, hq, hlt => by
    simp only [okPairs, Bool.and_eq_true, List.all_eq_true] at h
    cases q with
    | zero => omega
    | succ q =>
      have hq' : rs[q]? = some y := by simpa using hq
      cases p with
      | zero =>
        simp at hp
        subst hp
        exact h.1 y (List.mem_of_getElem? hq')
      | succ p => exact okPairs_get h.2 (by simpa using hp) hq' (by omega)
theorem okRows_get {T : Tab} {N : Nat} {ops : Array Oper} {ms : List Nat} : ∀ {rows : List Row} {done : List Nat}, okRows T N ops ms done rows = true → ∀ {p : Nat} {x : Row}, rows[p]? = some x →
    ∃ o, ops[x.j]? = some o ∧ okI T N ops o x.i = true ∧ ms.getD x.j 0 = edgeMask ms o.after.toList ∧ ∀ e ∈ o.after, Region.binds .any e = true → e.on ∈ done ∨ ∃ q y, q < p ∧ rows[q]? = some y ∧ y.j = e.on
  | [], _, _, p, x, hp => by simp at hp
  | r :: rs, done, h, p, x, hp => by
    simp only [okRows, Bool.and_eq_true] at h
    cases p with
    | zero =>
      simp at hp
      subst hp
      have h1 := h.1
      unfold okRow at h1
      split at h1
      · cases h1
      · rename_i o ho
        simp only [Bool.and_eq_true, beq_iff_eq, List.all_eq_true, Bool.or_eq_true, Bool.not_eq_true'] at h1
        refine ⟨o, ho, h1.1.1, h1.1.2, fun e he hb => .inl ?_⟩
        have := h1.2 e (by simpa using he)
        rw [hb] at this
        simpa using this
    | succ p =>
      obtain ⟨o, ho, h1, h2, h3⟩ := okRows_get h.2 (p := p) (x := x) (by simpa using hp)
      refine ⟨o, ho, h1, h2, fun e he hb => ?_⟩
      rcases h3 e he hb with h4 | ⟨q, y, hq, hy, e'⟩
      · rcases List.mem_cons.1 h4 with h5 | h5
        · exact .inr ⟨0, r, by omega, by simp, h5.symm⟩
        · exact .inl h5
      · exact .inr ⟨q + 1, y, by omega, by simpa using hy, e'⟩
theorem edgeMask_bit {ms : List Nat} {x : Nat} : ∀ {es : List Edge}, (edgeMask ms es).testBit x = true → ∃ e ∈ es, Region.binds .any e = true ∧ (e.on = x ∨ (ms.getD e.on 0).testBit x = true)
  | [], h => by simp [edgeMask] at h
  | e :: r, h => by
    simp only [edgeMask] at h
    split at h
    · rename_i hb
      simp only [Nat.testBit_or, Bool.or_eq_true, Nat.testBit_two_pow, decide_eq_true_eq] at h
      rcases h with (h | h) | h
      · exact ⟨e, by simp, hb, .inl h⟩
      · exact ⟨e, by simp, hb, .inr h⟩
      · obtain ⟨e', h1, h2⟩ := edgeMask_bit h
        exact ⟨e', List.mem_cons_of_mem _ h1, h2⟩
    · obtain ⟨e', h1, h2⟩ := edgeMask_bit h
      exact ⟨e', List.mem_cons_of_mem _ h1, h2⟩
theorem okPair_spec {all : List Row} {ms : List Nat} {x y : Row} (h : okPair all ms x y = true) :
    (∀ d, x.i.dst = some d → y.i.dst = some d → False) ∧ x.j ≠ y.j ∧ (bef ms x.j y.j = false → hits x.i.dst (readsOf y.i) = false ∧ hits y.i.dst (readsOf x.i) = false ∧ y.kd ≠ .e ∧ (y.kd = .ld → x.kd = .e → mutE x.i = true → keptBy all ms x y = true)) ∧
    (x.kd = .a → hits x.i.dst (readsOf y.i) = true → y.kd = .e) := by
  simp only [okPair, Bool.and_eq_true, Bool.or_eq_true, Bool.not_eq_true', bne_iff_ne, ne_eq, beq_iff_eq, Option.isNone_iff_eq_none] at h
  obtain ⟨⟨⟨h1, h2⟩, h3⟩, h4⟩ := h
  refine ⟨fun d e1 e2 => ?_, h2, fun hb => ?_, fun h5 h6 => ?_⟩
  · rcases h1 with h1 | h1
    · rw [e1] at h1; cases h1
    · exact h1 (e1.trans e2.symm)
  · rcases h3 with h3 | h3
    · rw [hb] at h3; cases h3
    · refine ⟨h3.1.1.1, h3.1.1.2, h3.1.2, fun e1 e2 e3 => ?_⟩
      have := h3.2
      simp [e1, e2, e3] at this
      exact this
  · rcases h4 with h4 | h4
    · simp [h5, h6] at h4
    · exact h4
def opv (call : CallF) (i : AI) (env : Env) (H : Heap) : Option (AV × Heap) :=
  match i.op with
  | .inl p => (evP H p (opds env i.xs)).map fun v => (v, H)
  | .inr e => evE call H e (opds env i.xs)
def StepOk (call : CallF) (i : AI) (env : Env) (H : Heap) (v : AV) (H' : Heap) : Prop :=
  match i.guard with
  | none => opv call i env H = some (v, H')
  | some (s, b) => ∃ c, asG (look env s) b = some c ∧ ((c = true ∧ opv call i env H = some (v, H')) ∨ (c = false ∧ v = .tup [] ∧ H' = H))
theorem evI_step {call : CallF} {i : AI} {K : KT} {env : Env} {H : Heap} {r : AV × Heap} (h : evI call i K env H = some r) : ∃ v H', StepOk call i env H v H' ∧ (∀ e, i.op = .inr e → keptOk H H' (opds env i.keep) = true) ∧ K (putE env i.dst v) H' = some r := by
  obtain ⟨op, xs, dst, guard, keep⟩ := i
  cases op with
  | inl p =>
    cases guard with
    | none =>
      simp only [evI, Option.bind_eq_some_iff] at h
      obtain ⟨v, hv, hK⟩ := h
      exact ⟨v, H, by simp [StepOk, opv, hv], fun e he => (by cases he), hK⟩
    | some g =>
      obtain ⟨s, b⟩ := g
      simp only [evI, gdV, Option.bind_eq_some_iff] at h
      obtain ⟨v, ⟨c, hc, hv⟩, hK⟩ := h
      refine ⟨v, H, ⟨c, hc, ?_⟩, fun e he => (by cases he), hK⟩
      split at hv
      · exact .inl ⟨by assumption, by simp [opv, hv]⟩
      · cases hv; exact .inr ⟨by simpa using (by assumption : ¬ _ = true), rfl, rfl⟩
  | inr p =>
    cases guard with
    | none =>
      simp only [evI, Option.bind_eq_some_iff] at h
      obtain ⟨⟨v, H'⟩, hv, hK⟩ := h
      split at hK
      rotate_left
      · cases hK
      rename_i hkp
      exact ⟨v, H', by simpa [StepOk, opv] using hv, fun _ _ => hkp, hK⟩
    | some g =>
      obtain ⟨s, b⟩ := g
      simp only [evI, gdE, Option.bind_eq_some_iff] at h
      obtain ⟨⟨v, H'⟩, ⟨c, hc, hv⟩, hK⟩ := h
      split at hK
      rotate_left
      · cases hK
      rename_i hkp
      refine ⟨v, H', ⟨c, hc, ?_⟩, fun _ _ => hkp, hK⟩
      split at hv
      · exact .inl ⟨by assumption, by simpa [opv] using hv⟩
      · cases hv; exact .inr ⟨by simpa using (by assumption : ¬ _ = true), rfl, rfl⟩
structure Trace (call : CallF) (is : List AI) (E : Nat → Env) (Hs : Nat → Heap) (V : Nat → AV) : Prop where
  step : ∀ (p : Nat) i, is[p]? = some i → StepOk call i (E p) (Hs p) (V p) (Hs (p + 1))
  env : ∀ (p : Nat) i, is[p]? = some i → E (p + 1) = putE (E p) i.dst (V p)
  kept : ∀ (p : Nat) i e, is[p]? = some i → i.op = .inr e → keptOk (Hs p) (Hs (p + 1)) (opds (E p) i.keep) = true
def ncons {α : Type} (x : α) (f : Nat → α) : Nat → α
  | 0 => x
  | n + 1 => f n
theorem trace_of {call : CallF} {K : KT} {r : AV × Heap} : ∀ (is : List AI) (env : Env) (H : Heap), evR call is K env H = some r →
    ∃ E Hs V, E 0 = env ∧ Hs 0 = H ∧ Trace call is E Hs V ∧ K (E is.length) (Hs is.length) = some r
  | [], env, H, h => ⟨fun _ => env, fun _ => H, fun _ => .undef, rfl, rfl, ⟨fun p i h => (by simp at h), fun p i h => (by simp at h), fun p i e h => (by simp at h)⟩, h⟩
  | i :: is, env, H, h => by
    simp only [evR] at h
    obtain ⟨v, H', hs, hkp, hK⟩ := evI_step h
    obtain ⟨E, Hs, V, e1, e2, ht, hk⟩ := trace_of is _ _ hK
    refine ⟨ncons env E, ncons H Hs, ncons v V, rfl, rfl, ⟨fun p j hj => ?_, fun p j hj => ?_, fun p j e hj he => ?_⟩, hk⟩
    · cases p with
      | zero => simp at hj; subst hj; simpa [ncons, e2] using hs
      | succ p => exact ht.step p j (by simpa using hj)
    · cases p with
      | zero => simp at hj; subst hj; simpa [ncons] using e1
      | succ p => exact ht.env p j (by simpa using hj)
    · cases p with
      | zero => simp at hj; subst hj; simpa [ncons, e2] using hkp e he
      | succ p => exact ht.kept p j e (by simpa using hj) he
section
variable {P : Program} {T : Tab} {F F0 : RoT} {pl pl0 : PlT} {H H0 : Heap} {w w0 : World} {N kk : Nat} {env : Env} {a : Act} {call : CallF}
theorem opds_rel {xs : List Opd} (hx : ∀ s ∈ tmpsOf xs, Rel F pl (look env s) (a.tmps.getD s Go.undef)) : OpdRel F pl env xs a.eval := by
  intro ys
  induction ys generalizing xs with
  | nil => intro h; cases xs with
    | nil => exact .nil
    | cons x xs => simp [okOs] at h
  | cons y ys ih =>
    intro h
    cases xs with
    | nil => simp [okOs] at h
    | cons x xs =>
      simp only [okOs, Bool.and_eq_true] at h
      have hr : OpdRel F pl env xs a.eval → RelL F pl (opds env xs) (ys.map a.eval) := fun h' => h' ys h.2
      have h1 : Rel F pl (opd env x) (a.eval y) := by
        have h1 := h.1
        unfold okO at h1
        split at h1
        · simp only [beq_iff_eq] at h1; subst h1; exact hx _ (by simp [tmpsOf])
        · exact constOk_rel h1
        · simp only [beq_iff_eq] at h1; subst h1
          exact rel_fn_iff.2 ⟨#[], rfl, .nil⟩
        · cases h1
      refine RelL.cons h1 (ih (fun s hs => hx s ?_) h.2)
      cases x with
      | t n => exact List.mem_cons_of_mem _ hs
      | c v => exact hs
theorem ObjOk.free {p : Place} {o : HO} (h : ObjOk F pl w p o) {cs : List AV} (ho : o.cells? = some cs) (hf : idFreeL cs = true) (pl' : PlT) : ObjOk F pl' w p o := by
  refine ⟨fun ds e => ?_, h.data, fun es e => ?_, h.pos⟩
  · obtain ⟨h1, h2, h3, h4⟩ := h.cells ds e
    rw [ho] at e; cases e
    exact ⟨h1, h2, h3, fun j x hx => let ⟨v, hv, hr⟩ := h4 j x hx; ⟨v, hv, hr.free (idFreeL_get hf hx)⟩⟩
  · subst e; simp [HO.cells?] at ho
theorem Inv.adopt (h : Inv F pl H w) {o : HO} {q : Place} (ho : ObjOk F (extPl pl H.length q) w q o) (hown : ¬ Own pl H q.block) (hF : ∀ a v, F a = some v → a.block ≠ q.block) :
    Inv F (extPl pl H.length q) (H ++ [some o]) w := by
  have hle := extPl_le (p := q) (h.fresh H.length (Nat.le_refl _))
  have hlv : ∀ i, live (H ++ [some o]) i → i ≠ H.length → live H i := fun i hi e => (live_push_old e).1 hi
  refine Inv.of_objs (fun i hi => ?_) (fun i o' hi => ?_) (fun i j p p' hi hj hp hp' e => ?_) h.ro fun a v i p ha hi hp => ?_
  · simp at hi
    rw [extPl_old (by omega)]
    exact h.fresh i (by omega)
  · by_cases e : i = H.length
    · subst e
      rw [get_push_new] at hi
      cases hi
      exact ⟨q, extPl_new, ho⟩
    · rw [get_push_old e] at hi
      obtain ⟨p, hp, ho'⟩ := h.obj hi
      exact ⟨p, hle _ _ hp, ho'.mono (LeF.refl _) hle rfl⟩
  · by_cases e1 : i = H.length
    · by_cases e2 : j = H.length
      · omega
      · subst e1
        rw [extPl_new] at hp; cases hp
        rw [extPl_old e2] at hp'
        exact absurd ⟨j, p', hlv j hj e2, hp', e.symm⟩ hown
    · by_cases e2 : j = H.length
      · subst e2
        rw [extPl_new] at hp'; cases hp'
        rw [extPl_old e1] at hp
        exact absurd ⟨i, p, hlv i hi e1, hp, e⟩ hown
      · rw [extPl_old e1] at hp
        rw [extPl_old e2] at hp'
        exact h.inj i j p p' (hlv i hi e1) (hlv j hj e2) hp hp' e
  · by_cases e : i = H.length
    · subst e
      rw [extPl_new] at hp; cases hp
      exact hF a v ha
    · rw [extPl_old e] at hp
      exact h.sep a v i p ha (hlv i hi e) hp
theorem Inv.grow (h : Inv F pl H w) {F' : RoT} {w' : World} (hF : LeF F F') (hnew : ∀ a v, F' a = some v → F a = some v ∨ w.heap.size ≤ a.block) (hro : ∀ a v, F' a = some v → w'.cell? a = some v)
    (hfr : Fr (fun _ => False) w w') : Inv F' pl H w' := by
  refine Inv.of_objs h.fresh (fun i o hi => ?_) h.inj hro fun a v i p ha hi hp => ?_
  · obtain ⟨p, hp, ho⟩ := h.obj hi
    exact ⟨p, hp, ho.mono hF (LeF.refl _) (hfr.block p.block ho.pos fun e => e)⟩
  · rcases hnew a v ha with h1 | h1
    · exact h.sep a v i p h1 hi hp
    · have := h.pos i p hi hp
      omega
theorem a_spec {i : AI} (hk : kindOf i = .a) {env : Env} {H H' : Heap} {v : AV} (h : StepOk call i env H v H') :
    ∃ e, i.op = .inr e ∧ i.guard = none ∧ idFreeL (opds env i.xs) = true ∧ ∃ v0 H1, evE call [] e (opds env i.xs) = some (v0, H1) ∧
      ((H1 = [] ∧ H' = H ∧ v = v0 ∧ v0.idFree = true) ∨ ∃ o cs, H1 = [some o] ∧ o.cells? = some cs ∧ idFreeL cs = true ∧ H' = H ++ [some o] ∧ v0.ren (fun i => some (H.length + i)) = some v) := by
  obtain ⟨op, xs, dst, guard, keep⟩ := i
  simp only [kindOf] at hk
  split at hk <;> try (cases hk; done)
  rename_i e
  split at hk
  · cases hk
  · rename_i hg
    have hg : guard = none := by cases guard <;> simp_all
    subst hg
    simp only [StepOk, opv] at h
    refine ⟨e, rfl, rfl, ?_⟩
    generalize opds env xs = ys at h
    split at hk <;> try (cases hk; done)
    · rename_i dat zero
      split at hk
      · rename_i hz
        cases ys with
        | cons y ys => simp [evE] at h
        | nil =>
          simp only [evE, Option.map_eq_some_iff, Prod.mk.injEq] at h
          obtain ⟨o, ho, rfl, rfl⟩ := h
          exact ⟨rfl, .ptr 0 0, [some o], by simp [evE, ho], .inr ⟨o, zero, rfl, (mkHO_inv ho).1, hz, rfl, by simp [AV.ren]⟩⟩
      · cases hk
    · rename_i dat frz sz len zero places
      simp only [evE, Option.bind_eq_some_iff] at h
      obtain ⟨cs, hcs, h⟩ := h
      split at h
      · rename_i hc
        have hc' := hc
        simp only [Bool.and_eq_true] at hc
        cases frz with
        | true =>
          simp only [newRow, if_true, Option.some.injEq, Prod.mk.injEq] at h
          obtain ⟨rfl, rfl⟩ := h
          exact ⟨hc.2, .rd sz len cs, [], by simp only [evE, hcs, Option.bind_some, hc', if_true, newRow, Bool.false_eq_true, if_false, List.length_nil, List.nil_append], .inl ⟨rfl, rfl, rfl, rfl⟩⟩
        | false =>
          simp only [newRow, Bool.false_eq_true, if_false, Option.some.injEq, Prod.mk.injEq] at h
          obtain ⟨rfl, rfl⟩ := h
          exact ⟨hc.2, .sl 0 sz 0 len, [some (.data cs)], by simp only [evE, hcs, Option.bind_some, hc', if_true, newRow, Bool.false_eq_true, if_false, List.length_nil, List.nil_append], .inr ⟨.data cs, cs, rfl, rfl, hc.1.1.2, rfl, by simp [AV.ren]⟩⟩
      · cases h
    · rename_i sz bytes zero
      split at hk
      · rename_i hz
        rcases ys with _ | ⟨x, _ | ⟨y, _ | ⟨z, r⟩⟩⟩
        · simp [evE] at h
        · cases x <;> simp [evE] at h
        · cases x <;> try (cases y <;> simp [evE] at h; done)
          cases y <;> try (simp [evE] at h; done)
          rename_i k1 n k2 c
          simp only [evE] at h
          split at h
          · rename_i hc
            simp only [Option.some.injEq, Prod.mk.injEq] at h
            obtain ⟨rfl, rfl⟩ := h
            refine ⟨rfl, .sl 0 sz 0 n.toNat, [some (.data (repl n.toNat zero))], by simp only [evE, if_pos hc, List.length_nil, List.nil_append], .inr ⟨_, _, rfl, rfl, ?_, rfl, by simp [AV.ren]⟩⟩
            exact idFreeL_iff.2 (repl_all (idFreeL_iff.1 hz))
          · cases h
        · cases x <;> cases y <;> simp [evE] at h
      · cases hk
end
section
variable {P : Program} {T : Tab} {F F0 : RoT} {pl pl0 : PlT} {H H0 : Heap} {w w0 : World} {N kk : Nat} {env : Env} {a : Act} {call : CallF} {dz : List Deferred}
variable {rows : List Row} {E : Nat → Env} {Hs : Nat → Heap} {V : Nat → AV}
structure Hidden (rows : List Row) (Hs : Nat → Heap) (k : Nat) (L : Nat → Bool) (p : Nat) (x : Row) (o : HO) : Prop where
  ge : k ≤ p
  row : rows[p]? = some x
  listed : L p = true
  kd : x.kd = .a
  heap : Hs (p + 1) = Hs p ++ [some o]
structure HidOk (Hs : Nat → Heap) (V : Nat → AV) (k : Nat) (a : Act) (w w0 : World) (F : RoT) (pl : PlT) (p : Nat) (x : Row) (o : HO) (q : Place) : Prop where
  rel : ∀ s, x.i.dst = some s → Rel F (fun i => if i = (Hs p).length then some q else none) (V p) (a.tmps.getD s Go.undef)
  obj : ObjOk F noPl w q o
  free : ∃ cs, o.cells? = some cs ∧ idFreeL cs = true
  own : ¬ Own pl (Hs k) q.block
  ro : ∀ a v, F a = some v → a.block ≠ q.block
  new : w0.heap.size ≤ q.block
structure DSt (rows : List Row) (E : Nat → Env) (Hs : Nat → Heap) (V : Nat → AV) (N kk : Nat) (dz : List Deferred) (F0 : RoT) (pl0 : PlT) (H0 : Heap) (w0 : World) (k : Nat) (L : Nat → Bool) (a : Act) (w : World) (F : RoT) (pl : PlT) (tB : Array Value) (hq : Nat → Place) : Prop where
  low : ∀ p, p < k → L p = true
  le : k ≤ rows.length
  inv : Inv F pl (Hs k) w
  base : EnvRel N F pl (E k) tB
  size : a.tmps.size = N
  defers : a.defers = dz
  late : ∀ s, (∀ p x, k ≤ p → rows[p]? = some x → L p = true → x.i.dst ≠ some s) → a.tmps.getD s Go.undef = tB.getD s Go.undef
  early : ∀ p x s, k ≤ p → rows[p]? = some x → L p = true → x.i.dst = some s → (x.kd = .a → Hs (p + 1) = Hs p) → Rel F pl (V p) (a.tmps.getD s Go.undef)
  kinds : ∀ p x, k ≤ p → rows[p]? = some x → L p = true → x.kd ≠ .e
  hid : ∀ p x o, Hidden rows Hs k L p x o → HidOk Hs V k a w w0 F pl p x o (hq p)
  sep : ∀ p p' x x' o o', Hidden rows Hs k L p x o → Hidden rows Hs k L p' x' o' → p ≠ p' → (hq p).block ≠ (hq p').block
  stp : Stp F0 pl0 H0 w0 F pl (Hs k) w
  keep : ∀ j p, j < kk → pl0 j = some p → pl j = some p
structure DCtx (P : Program) (T : Tab) (N : Nat) (call : CallF) (ops : Array Oper) (ms : List Nat) (rows : List Row) (E : Nat → Env) (Hs : Nat → Heap) (V : Nat → AV) : Prop where
  tok : TOk P T
  cok : CallOk P call
  pair : ∀ {p q : Nat} {x y : Row}, rows[p]? = some x → rows[q]? = some y → p < q → okPair rows ms x y = true
  row : ∀ {p : Nat} {x : Row}, rows[p]? = some x → ∃ o, ops[x.j]? = some o ∧ okI T N ops o x.i = true ∧ ms.getD x.j 0 = edgeMask ms o.after.toList ∧ ∀ e ∈ o.after, Region.binds .any e = true → ∃ q y, q < p ∧ rows[q]? = some y ∧ y.j = e.on
  step : ∀ (p : Nat) x, rows[p]? = some x → StepOk call x.i (E p) (Hs p) (V p) (Hs (p + 1))
  env : ∀ (p : Nat) x, rows[p]? = some x → E (p + 1) = putE (E p) x.i.dst (V p)
  kept : ∀ (p : Nat) x e, rows[p]? = some x → x.i.op = .inr e → keptOk (Hs p) (Hs (p + 1)) (opds (E p) x.i.keep) = true
  fixed : ∀ (p q : Nat) x z n, rows[p]? = some x → rows[q]? = some z → Opd.t n ∈ x.i.keep → z.i.dst ≠ some n
theorem step_pure {i : AI} {v : AV} {H' : Heap} (h : StepOk call i env H v H') (p : PO) (hp : i.op = .inl p) : H' = H := by
  unfold StepOk at h
  have key : ∀ {v H'}, opv call i env H = some (v, H') → H' = H := fun {v H'} h => by
    simp only [opv, hp, Option.map_eq_some_iff, Prod.mk.injEq] at h
    obtain ⟨_, _, _, e⟩ := h
    exact e.symm
  split at h
  · exact key h
  · obtain ⟨c, _, h⟩ := h
    rcases h with ⟨_, h⟩ | ⟨_, _, h⟩
    · exact key h
    · exact h
theorem callPure_keep {frz : Bool} {f : Nat} {args : List AV} {v : AV} {H' : Heap} (h : callPure call frz f args H = some (v, H')) : ∃ X, H' = H ++ X := by
  simp only [callPure, Option.bind_eq_some_iff] at h
  obtain ⟨_, _, _, _, h⟩ := h
  split at h
  · split at h
    · simp only [Option.map_eq_some_iff, Prod.mk.injEq] at h
      obtain ⟨_, _, _, rfl⟩ := h
      exact ⟨[], by simp⟩
    · simp only [Option.map_eq_some_iff, Prod.mk.injEq] at h
      obtain ⟨q, _, _, rfl⟩ := h
      exact ⟨q.2, rfl⟩
  · cases h
theorem step_keep {i : AI} {v : AV} {H' : Heap} (h : StepOk call i env H v H') (hm : mutE i = false) : ∃ X, H' = H ++ X := by
  have key : ∀ {v H'}, opv call i env H = some (v, H') → ∃ X, H' = H ++ X := fun {v H'} h => by
    unfold opv at h
    unfold mutE at hm
    split at h
    · simp only [Option.map_eq_some_iff, Prod.mk.injEq] at h
      obtain ⟨_, _, _, rfl⟩ := h
      exact ⟨[], by simp⟩
    · rename_i e he
      rw [he] at hm
      generalize opds env i.xs = ys at h
      split at hm <;> try (rename_i e'; cases e'; done)
      all_goals try (cases hm; done)
      all_goals (rename_i e'; cases e')
      · exact callPure_keep (by simpa only [evE] using h)
      · rcases ys with _ | ⟨y, ys⟩
        · simp [evE] at h
        · cases y <;> try (simp [evE] at h; done)
          exact callPure_keep (by simpa only [evE] using h)
      · rcases ys with _ | ⟨y, ys⟩
        · simp only [evE, Option.map_eq_some_iff, Prod.mk.injEq] at h
          obtain ⟨o, _, _, rfl⟩ := h
          exact ⟨_, rfl⟩
        · simp [evE] at h
      · simp only [evE, Option.bind_eq_some_iff] at h
        obtain ⟨cs, _, h⟩ := h
        split at h
        · unfold newRow at h
          split at h <;> (simp only [Option.some.injEq, Prod.mk.injEq] at h; obtain ⟨_, rfl⟩ := h)
          · exact ⟨[], by simp⟩
          · exact ⟨_, rfl⟩
        · cases h
      · rcases ys with _ | ⟨x, _ | ⟨y, _ | ⟨z, r⟩⟩⟩
        · simp [evE] at h
        · cases x <;> simp [evE] at h
        · cases x <;> try (cases y <;> simp [evE] at h; done)
          cases y <;> try (simp [evE] at h; done)
          simp only [evE] at h
          split at h
          · simp only [Option.some.injEq, Prod.mk.injEq] at h
            obtain ⟨_, rfl⟩ := h
            exact ⟨_, rfl⟩
          · cases h
        · cases x <;> cases y <;> simp [evE] at h
      · simp only [evE, Option.bind_eq_some_iff] at h
        obtain ⟨cs, _, h⟩ := h
        split at h
        · simp only [newBox, Option.some.injEq, Prod.mk.injEq] at h
          obtain ⟨_, rfl⟩ := h
          exact ⟨_, rfl⟩
        · cases h
      · rcases ys with _ | ⟨x, _ | ⟨y, _ | ⟨z, r⟩⟩⟩
        · simp [evE] at h
        · cases x <;> simp [evE] at h
        · cases x <;> try (cases y <;> simp [evE] at h; done)
          cases y <;> try (simp [evE] at h; done)
          simp only [evE] at h
          split at h
          · simp only [newBox, Option.some.injEq, Prod.mk.injEq] at h
            obtain ⟨_, rfl⟩ := h
            exact ⟨_, rfl⟩
          · cases h
        · cases x <;> cases y <;> simp [evE] at h
  unfold StepOk at h
  split at h
  · exact key h
  · obtain ⟨c, _, h⟩ := h
    rcases h with ⟨_, h⟩ | ⟨_, _, h⟩
    · exact key h
    · exact ⟨[], by simp [h]⟩
theorem kd_ne_e {x : Row} (h : x.kd ≠ .e) : x.kd = kindOf x.i := by
  unfold Row.kd at *
  split at h
  · exact absurd rfl h
  · rename_i h'; rw [if_neg h']
theorem kd_y_ld {x : Row} (h : x.kd = .y ∨ x.kd = .ld) : ∃ p, x.i.op = .inl p ∧ (x.kd = .ld ∨ ((∀ ag n, p ≠ .ld ag n) ∧ p ≠ .lenM ∧ ∀ a b c d, p ≠ .slcP a b c d)) := by
  have hk := kd_ne_e (x := x) (by rcases h with h | h <;> rw [h] <;> simp)
  rw [hk] at h
  obtain ⟨j, ch, op, xs, dst, guard, keep⟩ := x
  cases op with
  | inl p =>
    refine ⟨p, rfl, ?_⟩
    cases p <;> simp [kindOf, hk] at h ⊢
  | inr e =>
    simp only [kindOf] at h
    split at h
    · simp at h
    · split at h <;> first
        | (simp at h; done)
        | (split at h <;> simp at h)
theorem kd_cases (x : Row) : x.kd = .y ∨ x.kd = .ld ∨ x.kd = .a ∨ x.kd = .e := by
  cases x.kd <;> simp
end
section
variable {P : Program} {T : Tab} {F F0 : RoT} {pl pl0 : PlT} {H H0 : Heap} {w w0 : World} {N kk : Nat} {env : Env} {a : Act} {call : CallF} {dz : List Deferred}
variable {ops : Array Oper} {ms : List Nat} {rows : List Row} {E : Nat → Env} {Hs : Nat → Heap} {V : Nat → AV} {k : Nat} {L : Nat → Bool} {tB : Array Value} {hq : Nat → Place}
theorem look_keep (C : DCtx P T N call ops ms rows E Hs V) {s : Nat} : ∀ (d k : Nat), k + d ≤ rows.length → (∀ q x, k ≤ q → q < k + d → rows[q]? = some x → x.i.dst ≠ some s) → look (E (k + d)) s = look (E k) s
  | 0, k, _, _ => rfl
  | d + 1, k, hl, h => by
    have hx : rows[k + d]? = some rows[k + d] := List.getElem?_eq_getElem (by omega)
    have hne := h (k + d) _ (by omega) (by omega) hx
    rw [show k + (d + 1) = (k + d) + 1 by omega, C.env _ _ hx, ← look_keep C d k (by omega) fun q x h1 h2 => h q x h1 (by omega)]
    cases hd : (rows[k + d]).i.dst with
    | none => rfl
    | some t =>
      simp only [putE, look]
      rw [if_neg fun e => hne (by rw [hd, e])]
theorem look_put {env : Env} {s : Nat} {v : AV} : look (putE env (some s) v) s = v := by simp [putE, look]
theorem C_dst (C : DCtx P T N call ops ms rows E Hs V) {p q : Nat} {x y : Row} {s : Nat} (hp : rows[p]? = some x) (hq : rows[q]? = some y) (h1 : x.i.dst = some s) (h2 : y.i.dst = some s) : p = q := by
  rcases Nat.lt_trichotomy p q with h | h | h
  · exact ((okPair_spec (C.pair hp hq h)).1 s h1 h2).elim
  · exact h
  · exact ((okPair_spec (C.pair hq hp h)).1 s h2 h1).elim
theorem hits_iff {d : Option Nat} {l : List Nat} {s : Nat} (h : d = some s) (hs : s ∈ l) : hits d l = true := by subst h; simpa [hits] using hs
theorem reads_rel (C : DCtx P T N call ops ms rows E Hs V) (D : DSt rows E Hs V N kk dz F0 pl0 H0 w0 k L a w F pl tB hq) {p : Nat} {x : Row} (hp : rows[p]? = some x) (hkp : k ≤ p) (hL : L p = false)
    (h1 : ∀ q y, rows[q]? = some y → bef ms y.j x.j = true → L q = true) (h2 : ∀ q y, rows[q]? = some y → bef ms x.j y.j = true → L q = false) (hk : x.kd ≠ .e ∨ p = k) :
    ∀ s ∈ readsOf x.i, Rel F pl (look (E p) s) (a.tmps.getD s Go.undef) := by
  intro s hs
  have hpl : p < rows.length := (List.getElem?_eq_some_iff.1 hp).1
  by_cases hw : ∃ q y, k ≤ q ∧ q < p ∧ rows[q]? = some y ∧ y.i.dst = some s
  · obtain ⟨q, y, hkq, hqp, hy, hd⟩ := hw
    obtain ⟨_, _, s3, s4⟩ := okPair_spec (C.pair hy hp hqp)
    have hh := hits_iff hd hs
    have hb : bef ms y.j x.j = true := by
      cases e : bef ms y.j x.j with
      | true => rfl
      | false => have := (s3 e).1; rw [hh] at this; cases this
    have hLq := h1 q y hy hb
    have hne : x.kd ≠ .e := by
      rcases hk with h | h
      · exact h
      · omega
    have hr := D.early q y s hkq hy hLq hd fun e => absurd (s4 e hh) hne
    have e1 : look (E p) s = look (E (q + 1)) s := by
      have := look_keep C (s := s) (p - (q + 1)) (q + 1) (by omega) fun q' x' g1 g2 g3 g4 => by
        have := C_dst C g3 hy g4 hd
        omega
      rwa [show q + 1 + (p - (q + 1)) = p by omega] at this
    rw [e1, C.env q y hy, hd, look_put]
    exact hr
  · have e1 : look (E p) s = look (E k) s := by
      have := look_keep C (s := s) (p - k) k (by omega) fun q' x' g1 g2 g3 g4 => hw ⟨q', x', g1, by omega, g3, g4⟩
      rwa [show k + (p - k) = p by omega] at this
    have e2 := D.late s fun q y g1 g2 g3 g4 => by
      rcases Nat.lt_trichotomy q p with h | h | h
      · exact hw ⟨q, y, g1, h, g2, g4⟩
      · subst h; rw [hL] at g3; cases g3
      · obtain ⟨_, _, s3, _⟩ := okPair_spec (C.pair hp g2 h)
        cases e : bef ms x.j y.j with
        | true => have := h2 q y g2 e; rw [g3] at this; cases this
        | false => have := (s3 e).2.1; rw [hits_iff g4 hs] at this; cases this
    rw [e1, e2]
    exact D.base.rel s
theorem okI_dst {o : Oper} {i : AI} (h : okI T N ops o i = true) : o.dst = i.dst ∧ (∀ d, i.dst = some d → d < N) ∧ okG ops o.guard i.guard = true := by
  simp only [okI, Bool.and_eq_true, beq_iff_eq] at h
  obtain ⟨⟨⟨h1, h2⟩, h3⟩, _⟩ := h
  exact ⟨h1, fun d e => by rw [e] at h2; simpa using h2, h3⟩
theorem getD_put {a : Act} {dst : Option Nat} {u : Value} {s : Nat} (h : dst ≠ some s) : (a.put dst u).tmps.getD s Go.undef = a.tmps.getD s Go.undef := by
  cases dst with
  | none => rfl
  | some d =>
    have : d ≠ s := fun e => h (by rw [e])
    simp only [Act.put, Array.getD_eq_getD_getElem?, Array.getElem?_setIfInBounds_ne this]
theorem getD_put_eq {a : Act} {s : Nat} {u : Value} (h : s < a.tmps.size) : (a.put (some s) u).tmps.getD s Go.undef = u := by
  simp [Act.put, Array.getD_eq_getD_getElem?, h]
theorem size_put (a : Act) (dst : Option Tmp) (u : Value) : (a.put dst u).tmps.size = a.tmps.size := by cases dst <;> simp [Act.put]
def nxt (L : Nat → Bool) (p : Nat) : Nat → Bool := fun q => if q = p then true else L q
theorem nxt_ne {p q : Nat} (h : q ≠ p) : nxt L p q = L q := by simp [nxt, h]
theorem DSt.adopt (C : DCtx P T N call ops ms rows E Hs V) (D : DSt rows E Hs V N kk dz F0 pl0 H0 w0 k L a w F pl tB hq) (hk : k < rows.length) (hL : L k = true) :
    ∃ pl' tB', DSt rows E Hs V N kk dz F0 pl0 H0 w0 (k + 1) L a w F pl' tB' hq := by
  have hx : rows[k]? = some rows[k] := List.getElem?_eq_getElem hk
  generalize rows[k] = x at hx
  have hne := D.kinds k x (Nat.le_refl _) hx hL
  have hstep := C.step k x hx
  have henv := C.env k x hx
  obtain ⟨o, ho, hok, _⟩ := C.row hx
  obtain ⟨_, hN, _⟩ := okI_dst hok
  have fin : ∀ pl' , LeF pl pl' → Inv F pl' (Hs (k + 1)) w → (∀ s, x.i.dst = some s → Rel F pl' (V k) (a.tmps.getD s Go.undef)) → Stp F0 pl0 H0 w0 F pl' (Hs (k + 1)) w →
      (∀ p y o, Hidden rows Hs (k + 1) L p y o → ¬ Own pl' (Hs (k + 1)) (hq p).block) → ∃ pl' tB', DSt rows E Hs V N kk dz F0 pl0 H0 w0 (k + 1) L a w F pl' tB' hq := by
    intro pl' hle hI hrel hstp hown
    refine ⟨pl', (({ tmps := tB, defers := [] } : Act).put x.i.dst (a.tmps.getD (x.i.dst.getD 0) Go.undef)).tmps, ?_⟩
    have hbase : EnvRel N F pl' (E (k + 1)) (({ tmps := tB, defers := [] } : Act).put x.i.dst (a.tmps.getD (x.i.dst.getD 0) Go.undef)).tmps := by
      rw [henv]
      cases hd : x.i.dst with
      | none => exact D.base.mono (LeF.refl _) hle
      | some s =>
        refine EnvRel.put (a := { tmps := tB, defers := [] }) (D.base.mono (LeF.refl _) hle) (some s) (fun d e => hN d (hd.trans e)) ?_
        simpa using hrel s hd
    have low : ∀ p, p < k + 1 → L p = true := fun p hp => by
      rcases Nat.lt_or_ge p k with h | h
      · exact D.low p h
      · have : p = k := by omega
        subst this; exact hL
    refine ⟨low, hk, hI, hbase, D.size, D.defers, fun s hs => ?_, fun p y s g1 g2 g3 g4 g5 => (D.early p y s (by omega) g2 g3 g4 g5).mono (LeF.refl _) hle, fun p y g1 g2 g3 => D.kinds p y (by omega) g2 g3, fun p y o g => ?_, fun p p' y y' o o' g g' => D.sep p p' y y' o o' ⟨by have := g.ge; omega, g.row, g.listed, g.kd, g.heap⟩ ⟨by have := g'.ge; omega, g'.row, g'.listed, g'.kd, g'.heap⟩, hstp, fun j p hj hp => hle j p (D.keep j p hj hp)⟩
    · by_cases e : x.i.dst = some s
      · rw [e]
        have hsN : s < tB.size := by rw [D.base.size]; exact hN s e
        rw [getD_put_eq (a := { tmps := tB, defers := [] }) hsN]
        rfl
      · rw [getD_put (a := { tmps := tB, defers := [] }) e]
        refine D.late s fun p y g1 g2 g3 => ?_
        rcases Nat.lt_or_ge k p with h | h
        · exact hs p y h g2 g3
        · have : p = k := by omega
          subst this
          rw [hx] at g2; cases g2
          exact e
    · obtain ⟨h1, h2, h3, h4, h5, h6⟩ := D.hid p y o ⟨by have := g.ge; omega, g.row, g.listed, g.kd, g.heap⟩
      exact ⟨h1, h2, h3, hown p y o g, h5, h6⟩
  have plain : Hs (k + 1) = Hs k → (x.kd = .a → Hs (k + 1) = Hs k) → ∃ pl' tB', DSt rows E Hs V N kk dz F0 pl0 H0 w0 (k + 1) L a w F pl' tB' hq := fun he hc =>
    fin pl (LeF.refl _) (by rw [he]; exact D.inv) (fun s hs => D.early k x s (Nat.le_refl _) hx hL hs hc) (by rw [he]; exact D.stp) fun p y o g => by
      rw [he]
      exact (D.hid p y o ⟨by have := g.ge; omega, g.row, g.listed, g.kd, g.heap⟩).own
  rcases kd_cases x with h | h | h | h
  · obtain ⟨p, hp, _⟩ := kd_y_ld (.inl h)
    have he := step_pure hstep p hp
    exact plain he fun _ => he
  · obtain ⟨p, hp, _⟩ := kd_y_ld (.inr h)
    have he := step_pure hstep p hp
    exact plain he fun _ => he
  · obtain ⟨e, he, hg, hfree, v0, H1, hev, hc⟩ := a_spec (by rw [← kd_ne_e hne]; exact h) hstep
    rcases hc with ⟨_, he, _, _⟩ | ⟨o', cs, rfl, ho', hcs, hHs, hren⟩
    · exact plain he fun _ => he
    · have hH : Hidden rows Hs k L k x o' := ⟨Nat.le_refl _, hx, hL, h, hHs⟩
      obtain ⟨g1, g2, ⟨cs', hcs', hfr'⟩, g4, g5, g6⟩ := D.hid k x o' hH
      have hle := extPl_le (p := hq k) (D.inv.fresh (Hs k).length (Nat.le_refl _))
      refine fin (extPl pl (Hs k).length (hq k)) hle (by rw [hHs]; exact D.inv.adopt (g2.free hcs' hfr' _) g4 g5) (fun s hs => (g1 s hs).mono (LeF.refl _) fun i q hi => ?_) ⟨D.stp.fr, fun b hb => ?_, D.stp.leF, D.stp.newF⟩ fun p y o g hown => ?_
      · split at hi
        · rename_i e; cases hi; rw [e]; exact extPl_new
        · cases hi
      · rw [hHs] at hb
        obtain ⟨i, p, hi, hp, rfl⟩ := hb
        by_cases e : i = (Hs k).length
        · subst e
          rw [extPl_new] at hp; cases hp
          exact .inr g6
        · rw [extPl_old e] at hp
          exact D.stp.own p.block ⟨i, p, (live_push_old e).1 hi, hp, rfl⟩
      · have hp' : Hidden rows Hs k L p y o := ⟨by have := g.ge; omega, g.row, g.listed, g.kd, g.heap⟩
        rw [hHs] at hown
        obtain ⟨i, p', hi, hp, e'⟩ := hown
        by_cases e : i = (Hs k).length
        · subst e
          rw [extPl_new] at hp; cases hp
          exact D.sep k p x y o' o hH hp' (by have := g.ge; omega) e'
        · rw [extPl_old e] at hp
          exact (D.hid p y o hp').own ⟨i, p', (live_push_old e).1 hi, hp, e'⟩
  · exact absurd h hne
theorem DSt.norm (C : DCtx P T N call ops ms rows E Hs V) : ∀ (d k : Nat) (pl : PlT) (tB : Array Value), rows.length - k = d → DSt rows E Hs V N kk dz F0 pl0 H0 w0 k L a w F pl tB hq →
    ∃ k' pl' tB', DSt rows E Hs V N kk dz F0 pl0 H0 w0 k' L a w F pl' tB' hq ∧ (k' < rows.length → L k' = false)
  | 0, k, pl, tB, hd, D => ⟨k, pl, tB, D, fun h => by omega⟩
  | d + 1, k, pl, tB, hd, D => by
    cases e : L k with
    | false => exact ⟨k, pl, tB, D, fun _ => e⟩
    | true =>
      obtain ⟨pl', tB', D'⟩ := D.adopt C (by omega) e
      exact DSt.norm C d (k + 1) pl' tB' (by omega) D'
def DEx (rows : List Row) (E : Nat → Env) (Hs : Nat → Heap) (V : Nat → AV) (N kk : Nat) (dz : List Deferred) (F0 : RoT) (pl0 : PlT) (H0 : Heap) (w0 : World) (L : Nat → Bool) (a : Act) (w : World) : Prop :=
  ∃ k F pl tB hq, DSt rows E Hs V N kk dz F0 pl0 H0 w0 k L a w F pl tB hq
theorem DSt.putY (C : DCtx P T N call ops ms rows E Hs V) (D : DSt rows E Hs V N kk dz F0 pl0 H0 w0 k L a w F pl tB hq) {p : Nat} {x : Row} (hp : rows[p]? = some x) (hkp : k ≤ p) (hL : L p = false)
    (hk : x.kd = .y ∨ x.kd = .ld) {u : Value} (hu : Rel F pl (V p) u) : DSt rows E Hs V N kk dz F0 pl0 H0 w0 k (nxt L p) (a.put x.i.dst u) w F pl tB hq := by
  obtain ⟨o, ho, hok, _⟩ := C.row hp
  obtain ⟨_, hN, _⟩ := okI_dst hok
  have hka : x.kd ≠ .a := by rcases hk with h | h <;> rw [h] <;> simp
  have hke : x.kd ≠ .e := by rcases hk with h | h <;> rw [h] <;> simp
  have back : ∀ q, q ≠ p → nxt L p q = true → L q = true := fun q hne h => by rwa [nxt_ne hne] at h
  have hH : ∀ {q y o}, Hidden rows Hs k (nxt L p) q y o → q ≠ p ∧ Hidden rows Hs k L q y o := fun {q y o} g => by
    have hne : q ≠ p := fun e => by
      subst e
      have := g.row
      rw [hp] at this; cases this
      exact hka g.kd
    exact ⟨hne, g.ge, g.row, back q hne g.listed, g.kd, g.heap⟩
  refine ⟨fun q hq => ?_, D.le, D.inv, D.base, (size_put _ _ _).trans D.size, (put_defers _ _ _).trans D.defers, fun s hs => ?_, fun q y s g1 g2 g3 g4 g5 => ?_, fun q y g1 g2 g3 => ?_, fun q y o g => ?_, fun q q' y y' o o' g g' => D.sep q q' y y' o o' (hH g).2 (hH g').2, D.stp, D.keep⟩
  · simp only [nxt]
    split
    · rfl
    · exact D.low q hq
  · have hne := hs p x hkp hp (by simp [nxt])
    rw [getD_put hne]
    exact D.late s fun q y g1 g2 g3 => hs q y g1 g2 (by simp only [nxt]; split <;> simp_all)
  · by_cases e : q = p
    · subst e
      rw [hp] at g2; cases g2
      rw [g4, getD_put_eq (by rw [D.size]; exact hN s g4)]
      exact hu
    · have hne : x.i.dst ≠ some s := fun h => e (C_dst C g2 hp g4 h)
      rw [getD_put hne]
      exact D.early q y s g1 g2 (back q e g3) g4 g5
  · by_cases e : q = p
    · subst e
      rw [hp] at g2; cases g2
      exact hke
    · exact D.kinds q y g1 g2 (back q e g3)
  · obtain ⟨hne, g'⟩ := hH g
    obtain ⟨h1, h2, h3, h4, h5, h6⟩ := D.hid q y o g'
    refine ⟨fun s hs => ?_, h2, h3, h4, h5, h6⟩
    rw [getD_put fun h => hne (C_dst C g.row hp hs h)]
    exact h1 s hs
end
section
variable {P : Program} {T : Tab} {F F0 : RoT} {pl pl0 : PlT} {H H0 : Heap} {w w0 : World} {N kk : Nat} {env : Env} {a : Act} {call : CallF} {dz : List Deferred}
variable {ops : Array Oper} {ms : List Nat} {rows : List Row} {E : Nat → Env} {Hs : Nat → Heap} {V : Nat → AV} {k : Nat} {L : Nat → Bool} {tB : Array Value} {hq : Nat → Place}
theorem DSt.putA (C : DCtx P T N call ops ms rows E Hs V) (D : DSt rows E Hs V N kk dz F0 pl0 H0 w0 k L a w F pl tB hq) {p : Nat} {x : Row} (hp : rows[p]? = some x) (hkp : k ≤ p) (hL : L p = false)
    (hk : x.kd = .a) {u : Value} {F' : RoT} {pl2 : PlT} {H1 : Heap} {w' : World} {v0 : AV} (hu : Rel F' pl2 v0 u) (hI : Inv F' pl2 H1 w') (hs : Stp F noPl [] w F' pl2 H1 w')
    (hc : (H1 = [] ∧ Hs (p + 1) = Hs p ∧ V p = v0 ∧ v0.idFree = true) ∨ ∃ o cs, H1 = [some o] ∧ o.cells? = some cs ∧ idFreeL cs = true ∧ Hs (p + 1) = Hs p ++ [some o] ∧ v0.ren (fun i => some ((Hs p).length + i)) = some (V p)) :
    DSt rows E Hs V N kk dz F0 pl0 H0 w0 k (nxt L p) (a.put x.i.dst u) w' F' pl tB (fun q => if q = p then (pl2 0).getD ⟨0, 0, 0⟩ else hq q) := by
  obtain ⟨o, ho, hok, _⟩ := C.row hp
  obtain ⟨_, hN, _⟩ := okI_dst hok
  have hke : x.kd ≠ .e := by rw [hk]; simp
  have hfr : Fr (fun _ => False) w w' := hs.fr.mono fun _ _ h => own_none h
  have hnew : ∀ a v, F' a = some v → F a = some v ∨ w.heap.size ≤ a.block := fun a v hv => by
    rcases hs.newF a v hv with h | h | h
    · exact .inl h
    · exact (own_none h).elim
    · exact .inr h
  have hown2 : ∀ b, Own pl2 H1 b → w.heap.size ≤ b := fun b hb => (hs.own b hb).resolve_left own_none
  have back : ∀ q, q ≠ p → nxt L p q = true → L q = true := fun q hne h => by rwa [nxt_ne hne] at h
  have hH : ∀ {q y o}, q ≠ p → Hidden rows Hs k (nxt L p) q y o → Hidden rows Hs k L q y o := fun {q y o} hne g => ⟨g.ge, g.row, back q hne g.listed, g.kd, g.heap⟩
  have hq1 : ∀ q, q ≠ p → (if q = p then (pl2 0).getD ⟨0, 0, 0⟩ else hq q) = hq q := fun q h => by rw [if_neg h]
  have hobj : ∀ o' , Hs (p + 1) = Hs p ++ [some o'] → ∃ q, pl2 0 = some q ∧ ObjOk F' pl2 w' q o' ∧ (∃ cs, o'.cells? = some cs ∧ idFreeL cs = true) ∧ v0.ren (fun i => some ((Hs p).length + i)) = some (V p) ∧ live H1 0 ∧ H1.length = 1 := fun o' he => by
    rcases hc with ⟨_, e, _, _⟩ | ⟨o1, cs, rfl, h1, h2, h3, h4⟩
    · rw [e] at he
      have := congrArg List.length he
      simp at this
    · have e : o1 = o' := by
        have := List.append_cancel_left (h3.symm.trans he)
        simpa using this
      subst e
      obtain ⟨q, hq, ho'⟩ := hI.obj (i := 0) (o := o1) (by simp)
      exact ⟨q, hq, ho', ⟨cs, h1, h2⟩, h4, ⟨o1, by simp⟩, rfl⟩
  have hlt : ∀ q y o, Hidden rows Hs k L q y o → (hq q).block < w.heap.size := fun q y o g => (D.hid q y o g).obj.pos
  refine ⟨fun q hq => ?_, D.le, D.inv.grow hs.leF hnew hI.ro hfr, D.base.mono hs.leF (LeF.refl _), (size_put _ _ _).trans D.size, (put_defers _ _ _).trans D.defers, fun s hs' => ?_, fun q y s g1 g2 g3 g4 g5 => ?_, fun q y g1 g2 g3 => ?_, fun q y o g => ?_,
    fun q q' y y' o o' g g' hne => ?_, ⟨(D.stp.fr.trans hfr fun _ _ h => h.elim), D.stp.own, D.stp.leF.trans hs.leF, fun a v hv => ?_⟩, D.keep⟩
  · simp only [nxt]
    split
    · rfl
    · exact D.low q hq
  · have hne := hs' p x hkp hp (by simp [nxt])
    rw [getD_put hne]
    exact D.late s fun q y g1 g2 g3 => hs' q y g1 g2 (by simp only [nxt]; split <;> simp_all)
  · by_cases e : q = p
    · subst e
      rw [hp] at g2; cases g2
      rw [g4, getD_put_eq (by rw [D.size]; exact hN s g4)]
      have he := g5 hk
      rcases hc with ⟨_, _, e3, e4⟩ | ⟨o1, cs, _, _, _, h3, _⟩
      · rw [e3]; exact hu.free e4
      · rw [he] at h3
        have := congrArg List.length h3
        simp at this
    · have hne : x.i.dst ≠ some s := fun h => e (C_dst C g2 hp g4 h)
      rw [getD_put hne]
      exact (D.early q y s g1 g2 (back q e g3) g4 g5).mono hs.leF (LeF.refl _)
  · by_cases e : q = p
    · subst e
      rw [hp] at g2; cases g2
      exact hke
    · exact D.kinds q y g1 g2 (back q e g3)
  · by_cases e : q = p
    · subst e
      have := g.row
      rw [hp] at this; cases this
      obtain ⟨q', h1, h2, h3, h4, h5, h6⟩ := hobj o g.heap
      obtain ⟨cs, h7, h8⟩ := h3
      rw [if_pos rfl, h1]
      have hge : w.heap.size ≤ q'.block := hown2 q'.block ⟨0, q', h5, h1, rfl⟩
      refine ⟨fun s hs => ?_, h2.free h7 h8 _, ⟨cs, h7, h8⟩, fun hb => ?_, fun a v hv => hI.sep a v 0 q' hv h5 h1, Nat.le_trans D.stp.fr.size hge⟩
      · rw [hs, getD_put_eq (by rw [D.size]; exact hN s hs)]
        refine hu.ren (fun i j pp hij hpp => ?_) h4
        cases hij
        have : i < 1 := by have := hI.lt hpp; omega
        have : i = 0 := by omega
        subst this
        rw [h1] at hpp; cases hpp
        simp
      · obtain ⟨i, pp, hi, hpp, e'⟩ := hb
        have := D.inv.pos i pp hi hpp
        simp only [Option.getD_some] at e'
        omega
    · have g' := hH e g
      obtain ⟨h1, h2, h3, h4, h5, h6⟩ := D.hid q y o g'
      rw [hq1 q e]
      refine ⟨fun s hs' => ?_, h2.mono hs.leF (LeF.refl _) (hfr.block _ h2.pos fun e => e), h3, h4, fun a v hv => ?_, h6⟩
      · rw [getD_put fun h => e (C_dst C g.row hp hs' h)]
        exact (h1 s hs').mono hs.leF (LeF.refl _)
      · rcases hnew a v hv with h | h
        · exact h5 a v h
        · have := h2.pos
          omega
  · have mine : ∀ o, Hidden rows Hs k (nxt L p) p x o → w.heap.size ≤ ((pl2 0).getD ⟨0, 0, 0⟩).block := fun o g => by
      obtain ⟨q', h1, _, _, _, h5, _⟩ := hobj o g.heap
      rw [h1]
      exact hown2 q'.block ⟨0, q', h5, h1, rfl⟩
    by_cases e : q = p
    · subst e
      have := g.row
      rw [hp] at this; cases this
      rw [if_pos rfl, hq1 q' (Ne.symm hne)]
      have := mine o g
      have := hlt q' y' o' (hH (Ne.symm hne) g')
      omega
    · by_cases e' : q' = p
      · subst e'
        have := g'.row
        rw [hp] at this; cases this
        rw [if_pos rfl, hq1 q e]
        have := mine o' g'
        have := hlt q y o (hH e g)
        omega
      · rw [hq1 q e, hq1 q' e']
        exact D.sep q q' y y' o o' (hH e g) (hH e' g') hne
  · rcases hnew a v hv with h | h
    · exact D.stp.newF a v h
    · exact .inr (.inr (Nat.le_trans D.stp.fr.size h))
theorem DSt.putE (C : DCtx P T N call ops ms rows E Hs V) (D : DSt rows E Hs V N kk dz F0 pl0 H0 w0 k L a w F pl tB hq) {x : Row} (hp : rows[k]? = some x) (hL : L k = false)
    {u : Value} {F' : RoT} {pl' : PlT} {w' : World} (hu : Rel F' pl' (V k) u) (hI : Inv F' pl' (Hs (k + 1)) w') (hs : Stp F pl (Hs k) w F' pl' (Hs (k + 1)) w') (hle : LeF pl pl') :
    DSt rows E Hs V N kk dz F0 pl0 H0 w0 (k + 1) (nxt L k) (a.put x.i.dst u) w' F' pl' (({ tmps := tB, defers := [] } : Act).put x.i.dst u).tmps hq := by
  obtain ⟨o, ho, hok, _⟩ := C.row hp
  obtain ⟨_, hN, _⟩ := okI_dst hok
  have hkl : k < rows.length := (List.getElem?_eq_some_iff.1 hp).1
  have back : ∀ q, k + 1 ≤ q → nxt L k q = true → L q = true := fun q hne h => by rwa [nxt_ne (by omega)] at h
  have hH : ∀ {q y o}, Hidden rows Hs (k + 1) (nxt L k) q y o → q ≠ k ∧ Hidden rows Hs k L q y o := fun {q y o} g =>
    ⟨by have := g.ge; omega, by have := g.ge; omega, g.row, back q g.ge g.listed, g.kd, g.heap⟩
  refine ⟨fun q hq => ?_, hkl, hI, ?_, (size_put _ _ _).trans D.size, (put_defers _ _ _).trans D.defers, fun s hs' => ?_, fun q y s g1 g2 g3 g4 g5 => ?_, fun q y g1 g2 g3 => D.kinds q y (by omega) g2 (back q g1 g3), fun q y o g => ?_,
    fun q q' y y' o o' g g' => D.sep q q' y y' o o' (hH g).2 (hH g').2, D.stp.trans hs, fun j p hj hp => hle j p (D.keep j p hj hp)⟩
  · simp only [nxt]
    split
    · rfl
    · exact D.low q (by omega)
  · rw [C.env k x hp]
    exact EnvRel.put (a := { tmps := tB, defers := [] }) (D.base.mono hs.leF hle) x.i.dst hN hu
  · by_cases e : x.i.dst = some s
    · rw [e, getD_put_eq (by rw [D.size]; exact hN s e), getD_put_eq (a := { tmps := tB, defers := [] }) (by have := D.base.size; simp only at *; rw [this]; exact hN s e)]
    · rw [getD_put e, getD_put (a := { tmps := tB, defers := [] }) e]
      refine D.late s fun q y g1 g2 g3 => ?_
      rcases Nat.lt_or_ge k q with h | h
      · exact hs' q y h g2 (by rw [nxt_ne (by omega)]; exact g3)
      · have : q = k := by omega
        subst this
        rw [hL] at g3; cases g3
  · have hne : x.i.dst ≠ some s := fun h => by
      have := C_dst C g2 hp g4 h
      omega
    rw [getD_put hne]
    exact (D.early q y s (by omega) g2 (back q g1 g3) g4 g5).mono hs.leF hle
  · obtain ⟨hne, g'⟩ := hH g
    obtain ⟨h1, h2, h3, h4, h5, h6⟩ := D.hid q y o g'
    have hpos := h2.pos
    refine ⟨fun s hs' => ?_, h2.mono hs.leF (LeF.refl _) (hs.fr.block _ hpos h4), h3, fun hb => ?_, fun a v hv => ?_, h6⟩
    · rw [getD_put fun h => hne (C_dst C g.row hp hs' h)]
      exact (h1 s hs').mono hs.leF (LeF.refl _)
    · rcases hs.own _ hb with h | h
      · exact h4 h
      · omega
    · rcases hs.newF a v hv with h | h | h
      · exact h5 a v h
      · exact fun e => h4 (e ▸ h)
      · intro e; omega
theorem flatSame_eq : ∀ {c c' : List AV}, flatSame c c' = true → c = c'
  | [], [], _ => rfl
  | x :: r, y :: s, h => by
    cases x <;> cases y <;> simp only [flatSame, Bool.and_eq_true, beq_iff_eq, Bool.false_eq_true] at h
    · rw [h.1.1, h.1.2, flatSame_eq h.2]
    · rw [h.1, flatSame_eq h.2]
  | [], _ :: _, h => by simp [flatSame] at h
  | x :: _, [], h => by cases x <;> simp [flatSame] at h
theorem keptOk_get {H H' : Heap} {env : Env} {v : AV} {n : Nat} : ∀ {ks : List Opd}, keptOk H H' (opds env ks) = true → Opd.t n ∈ ks → look env n = v → keptV H H' v = true
  | [], _, hm, _ => by cases hm
  | k :: ks, h, hm, hv => by
    simp only [opds, keptOk, Bool.and_eq_true] at h
    rcases List.mem_cons.1 hm with e | e
    · rw [← e] at h
      simp only [opd, hv] at h
      exact h.1
    · exact keptOk_get h.2 e hv
theorem ld_keep (C : DCtx P T N call ops ms rows E Hs V) {id off : Nat} : ∀ (d k : Nat), k + d ≤ rows.length → id < (Hs k).length → (∀ q x, k ≤ q → q < k + d → rows[q]? = some x → mutE x.i = false ∨ keptV (Hs q) (Hs (q + 1)) (.ptr id off) = true) →
    Heap.cells? (Hs (k + d)) id = Heap.cells? (Hs k) id ∧ id < (Hs (k + d)).length
  | 0, k, _, hlt, _ => ⟨rfl, hlt⟩
  | d + 1, k, hl, hlt, h => by
    obtain ⟨h1, h2⟩ := ld_keep C d k (by omega) hlt fun q x g1 g2 => h q x g1 (by omega)
    have hx : rows[k + d]? = some rows[k + d] := List.getElem?_eq_getElem (by omega)
    rcases h _ _ (by omega) (by omega) hx with hm | hm
    · obtain ⟨Y, hY⟩ := step_keep (C.step _ _ hx) hm
      rw [show k + (d + 1) = (k + d) + 1 by omega, hY]
      exact ⟨by rw [← h1]; simp only [Heap.cells?, List.getElem?_append_left h2], by simp; omega⟩
    · rw [show k + (d + 1) = (k + d) + 1 by omega]
      simp only [keptV] at hm
      split at hm
      · rename_i c c' hc hc'
        rw [← h1, hc, hc', flatSame_eq hm]
        refine ⟨rfl, ?_⟩
        obtain ⟨o, ho⟩ := live_of_cells hc'
        exact (List.getElem?_eq_some_iff.1 ho).1
      · cases hm
theorem wpOp_of_out {Fn : Fence} (hF : Wide Fn) {n : Nat} {o : Oper} {j : Nat} (ho : ops[j]? = some o) (hw : Region.wanted o (yielded ops a.tmps) = true) (hd : ∀ c, o.op ≠ .defer c) {K : Value → World → Prop} (h : Out P o a.eval w K)
    {KK : Act → World → Prop} {Q : Exit → Act → World → Prop} (hK : ∀ u w', K u w' → KK (a.put o.dst u) w') : wpOpIn Fn n P ops Q j KK a w := by
  unfold wpOpIn
  rw [ho]
  simp only [hw, if_true]
  exact h.wpIn hF hd hK
theorem wpOp_skip {Fn : Fence} (hF : Wide Fn) {n : Nat} {o : Oper} {j : Nat} (ho : ops[j]? = some o) (hw : Region.wanted o (yielded ops a.tmps) = false)
    {KK : Act → World → Prop} {Q : Exit → Act → World → Prop} (hK : KK (a.put o.dst Go.undef) w) : wpOpIn Fn n P ops Q j KK a w := by
  unfold wpOpIn
  rw [ho]
  simp only [hw, Bool.false_eq_true, if_false]
  exact ⟨fun f _ => hF.fn f, hK⟩
theorem okI_defer {o : Oper} {i : AI} (h : okI T N ops o i = true) : ∀ c, o.op ≠ .defer c := by
  simp only [okI, Bool.and_eq_true] at h
  obtain ⟨_, h⟩ := h
  split at h
  · exact okP_defer h
  · exact okE_defer h
theorem evP_heap {pp : PO} (c1 : ∀ ag n, pp ≠ .ld ag n) (c2 : pp ≠ .lenM) (c3 : ∀ a b c d, pp ≠ .slcP a b c d) (H H' : Heap) (ys : List AV) : evP H pp ys = evP H' pp ys := by
  cases pp with
  | ld ag n => exact absurd rfl (c1 ag n)
  | lenM => exact absurd rfl c2
  | slcP a b c d => exact absurd rfl (c3 a b c d)
  | slc sz lo hi => cases lo <;> cases hi <;> (rcases ys with _ | ⟨x, _ | ⟨y, _ | ⟨z, _ | ⟨u, r⟩⟩⟩⟩ <;> rfl)
  | beq neg => rcases ys with _ | ⟨x, _ | ⟨y, _ | ⟨z, r⟩⟩⟩ <;> first | rfl | (cases x <;> first | rfl | (cases y <;> rfl))
  | eqagg neg ks => rcases ys with _ | ⟨x, _ | ⟨y, _ | ⟨z, r⟩⟩⟩ <;> first | rfl | (cases x <;> first | rfl | (cases y <;> rfl))
  | un op => cases op <;> (rcases ys with _ | ⟨x, _ | ⟨y, r⟩⟩ <;> first | rfl | (cases x <;> rfl))
  | conv k => rcases ys with _ | ⟨x, _ | ⟨y, r⟩⟩ <;> first | rfl | (cases x <;> rfl)
  | ext i => rcases ys with _ | ⟨x, _ | ⟨y, r⟩⟩ <;> first | rfl | (cases x <;> rfl)
  | _ => rcases ys with _ | ⟨x, _ | ⟨y, _ | ⟨z, _ | ⟨u, r⟩⟩⟩⟩ <;> rfl
theorem DSt.exec {Fn : Fence} (hF : Wide Fn) {n : Nat} (C : DCtx P T N call ops ms rows E Hs V) (D : DSt rows E Hs V N kk dz F0 pl0 H0 w0 k L a w F pl tB hq) (hnorm : k < rows.length → L k = false) {p : Nat} {x : Row} (hp : rows[p]? = some x) (hL : L p = false)
    (h1 : ∀ q y, rows[q]? = some y → bef ms y.j x.j = true → L q = true) (h2 : ∀ q y, rows[q]? = some y → bef ms x.j y.j = true → L q = false) {KK : Act → World → Prop} {Q : Exit → Act → World → Prop}
    (hK : ∀ a' w', DEx rows E Hs V N kk dz F0 pl0 H0 w0 (nxt L p) a' w' → KK a' w') : wpOpIn Fn n P ops Q x.j KK a w := by
  have hpl : p < rows.length := (List.getElem?_eq_some_iff.1 hp).1
  have hkp : k ≤ p := by
    rcases Nat.lt_or_ge p k with h | h
    · rw [D.low p h] at hL; cases hL
    · exact h
  have hkd : x.kd ≠ .e ∨ p = k := by
    by_cases e : x.kd = .e
    · right
      rcases Nat.lt_or_ge k p with h | h
      · have hk' : rows[k]? = some rows[k] := List.getElem?_eq_getElem (by omega)
        obtain ⟨_, _, s3, _⟩ := okPair_spec (C.pair hk' hp h)
        cases hb : bef ms (rows[k]).j x.j with
        | true => have := h1 k _ hk' hb; rw [hnorm (by omega)] at this; cases this
        | false => exact absurd e (s3 hb).2.2.1
      · omega
    · exact .inl e
  have hreads := reads_rel C D hp hkp hL h1 h2 hkd
  obtain ⟨o, ho, hok, _⟩ := C.row hp
  obtain ⟨hd, hN, hg⟩ := okI_dst hok
  have hdef := okI_defer hok
  have hstep := C.step p x hp
  have hw := wanted_of (F := F) (pl := pl) (env := E p) (a := a) (o := o) (g' := x.i.guard) (fun s b e => hreads s (by unfold readsOf; rw [e]; simp)) hg
  have hxs : OpdRel F pl (E p) x.i.xs a.eval := opds_rel fun s hs => hreads s (by unfold readsOf; split <;> simp [hs])
  have hop := hok
  simp only [okI, Bool.and_eq_true] at hop
  replace hop := hop.2
  rcases kd_cases x with h | h | h | h
  · -- pure
    obtain ⟨pp, hpp, hcls⟩ := kd_y_ld (.inl h)
    rw [hpp] at hop
    have done : ∀ u, Rel F pl (V p) u → KK (a.put o.dst u) w := fun u hu => hK _ _ ⟨k, F, pl, tB, hq, by rw [hd]; exact D.putY C hp hkp hL (.inl h) hu⟩
    have go : opv call x.i (E p) (Hs p) = some (V p, Hs (p + 1)) → Region.wanted o (yielded ops a.tmps) = true → wpOpIn Fn n P ops Q x.j KK a w := fun hv hwt => by
      simp only [opv, hpp, Option.map_eq_some_iff, Prod.mk.injEq] at hv
      obtain ⟨v, hv, e, _⟩ := hv
      subst e
      have hv' : evP (Hs k) pp (opds (E p) x.i.xs) = some (V p) := by
        rcases hcls with hc | ⟨c1, c2, c3⟩
        · rw [h] at hc; cases hc
        · rw [← evP_heap c1 c2 c3 (Hs p)]; exact hv
      exact wpOp_of_out hF ho hwt hdef (Yields1.out (K := fun u w' => Rel F pl (V p) u ∧ w' = w) (evP_sound C.tok D.inv hxs hop hv') fun u hu => ⟨hu, rfl⟩) fun u w' ⟨hu, e⟩ => by rw [e]; exact done u hu
    unfold StepOk at hstep
    split at hstep
    · exact go hstep (hw.1 (by assumption))
    · rename_i s b hgd
      obtain ⟨c, hc, hstep⟩ := hstep
      have hwt := hw.2 s b hgd c hc
      rcases hstep with ⟨e, hv⟩ | ⟨e, hv, _⟩
      · exact go hv (by rw [hwt]; simpa using e)
      · exact wpOp_skip hF ho (by rw [hwt]; simpa using e) (done _ (by rw [hv]; exact rel_undef))
  · -- a load
    obtain ⟨pp, hpp, hcls⟩ := kd_y_ld (.inr h)
    rw [hpp] at hop
    have done : ∀ u, Rel F pl (V p) u → KK (a.put o.dst u) w := fun u hu => hK _ _ ⟨k, F, pl, tB, hq, by rw [hd]; exact D.putY C hp hkp hL (.inr h) hu⟩
    have hmutk : ∀ q y, k ≤ q → q < p → rows[q]? = some y → mutE y.i = false ∨ (keptBy rows ms y x = true ∧ y.kd = .e) := fun q y g1 g2 g3 => by
        cases hm : mutE y.i with
        | false => exact .inl rfl
        | true =>
          right
          obtain ⟨_, _, s3, _⟩ := okPair_spec (C.pair g3 hp (by omega))
          have hye : y.kd = .e := by
            rcases kd_cases y with g | g | g | g
            · obtain ⟨p', hp', _⟩ := kd_y_ld (.inl g); simp [mutE, hp'] at hm
            · obtain ⟨p', hp', _⟩ := kd_y_ld (.inr g); simp [mutE, hp'] at hm
            · exfalso
              have hk' := kd_ne_e (x := y) (by rw [g]; simp)
              rw [g] at hk'
              obtain ⟨e, he, _, _, v0, H1, hev, _⟩ := a_spec (hk'.symm) (C.step q y g3)
              obtain ⟨yj, ych, op, xs, dst, guard, keep⟩ := y
              simp only at he
              subst he
              simp only [kindOf] at hk'
              split at hk'
              · cases hk'
              · split at hk' <;> first
                  | (simp [mutE] at hm; done)
                  | cases hk'
            · exact g
          cases hb : bef ms y.j x.j with
          | true =>
            have hl := h1 q y g3 hb
            exact absurd hye (D.kinds q y g1 g3 hl)
          | false => exact ⟨(s3 hb).2.2.2 h hye hm, hye⟩
    have go : opv call x.i (E p) (Hs p) = some (V p, Hs (p + 1)) → Region.wanted o (yielded ops a.tmps) = true → wpOpIn Fn n P ops Q x.j KK a w := fun hv hwt => by
      simp only [opv, hpp, Option.map_eq_some_iff, Prod.mk.injEq] at hv
      obtain ⟨v, hv, e, _⟩ := hv
      subst e
      have hv' : evP (Hs k) pp (opds (E p) x.i.xs) = some (V p) := by
        have hk' := kd_ne_e (x := x) (by rw [h]; simp)
        rw [h] at hk'
        obtain ⟨ag, nn, rfl⟩ : ∃ ag nn, pp = .ld ag nn := by
          obtain ⟨xj, ych, op, xs, dst, guard, keep⟩ := x
          simp only at hpp
          subst hpp
          cases pp <;> first
            | exact ⟨_, _, rfl⟩
            | simp [kindOf] at hk'
        have hxs1 : ∃ y1, okOs [y1] x.i.xs = true := by
          generalize o.op = oop at hop
          cases oop <;> simp only [okP, Bool.and_eq_true, Bool.false_eq_true] at hop
          exact ⟨_, hop.2⟩
        obtain ⟨y1, hy1⟩ := hxs1
        obtain ⟨z, e, hz⟩ := rel1 (hxs _ hy1)
        rw [e] at hv ⊢
        simp only [evP, Option.bind_eq_some_iff] at hv ⊢
        obtain ⟨cs, hcs, hv⟩ := hv
        refine ⟨cs, ?_, hv⟩
        cases z <;> simp only [ldc] at hcs ⊢ <;> try exact hcs
        rename_i id off
        generalize a.eval y1 = uz at hz
        cases hz with
        | ptr hpid =>
          have hlt := D.inv.lt hpid
          have : Heap.cells? (Hs p) id = Heap.cells? (Hs k) id := by
            have := (ld_keep C (off := off) (p - k) k (by omega) hlt fun q y g1 g2 g3 => ?_).1
            · rwa [show k + (p - k) = p by omega] at this
            · rcases hmutk q y g1 (by omega) g3 with hm | ⟨hm, hye⟩
              · exact .inl hm
              · by_cases hme : mutE y.i = false
                · exact .inl hme
                · right
                  obtain ⟨ee, hee⟩ : ∃ ee, y.i.op = .inr ee := by
                    cases hyo : y.i.op with
                    | inl pp => exact absurd (by simp [mutE, hyo]) hme
                    | inr ee => exact ⟨ee, rfl⟩
                  have hkp := C.kept q y ee g3 hee
                  unfold keptBy at hm
                  split at hm
                  · rename_i n hxn
                    simp only [List.any_eq_true] at hm
                    obtain ⟨kq, hkq, hm⟩ := hm
                    split at hm
                    · rename_i m
                      have e1 : look (E p) n = .ptr id off := by
                        rw [hxn] at e
                        simpa [opds, opd] using e
                      have e2 := look_keep C (s := m) (p - q) q (by omega) fun q' x' _ _ g3' => C.fixed q q' y x' m g3 g3' hkq
                      rw [show q + (p - q) = p by omega] at e2
                      simp only [Bool.or_eq_true, beq_iff_eq, List.any_eq_true, Bool.and_eq_true] at hm
                      rcases hm with hm | ⟨z, hzm, ⟨hz1, hz2⟩, hz3⟩
                      · subst hm
                        exact keptOk_get hkp hkq (by rw [← e2, e1])
                      · obtain ⟨pz, hpz⟩ := List.getElem?_of_mem hzm
                        obtain ⟨o0, hzo, hzg, hzx⟩ := isFld_inv hz2
                        have hnr : n ∈ readsOf x.i := by
                          unfold readsOf
                          split <;> simp [hxn, tmpsOf]
                        have hlt2 : pz < p := by
                          rcases Nat.lt_trichotomy pz p with h' | h' | h'
                          · exact h'
                          · subst h'
                            rw [hp] at hpz
                            cases hpz
                            rw [hpp] at hzo
                            cases hzo
                          · exfalso
                            obtain ⟨_, _, s3, _⟩ := okPair_spec (C.pair hp hpz h')
                            cases hb : bef ms x.j z.j with
                            | true =>
                              have a1 := h1 pz z hpz hz3
                              have a2 := h2 pz z hpz hb
                              rw [a1] at a2; cases a2
                            | false =>
                              have := (s3 hb).2.1
                              rw [hits_iff hz1 hnr] at this
                              cases this
                        have hzs := C.step pz z hpz
                        unfold StepOk at hzs
                        rw [hzg] at hzs
                        simp only [opv, hzo, Option.map_eq_some_iff, Prod.mk.injEq] at hzs
                        obtain ⟨v', hv', hvv, _⟩ := hzs
                        have e3 := look_keep C (s := n) (p - (pz + 1)) (pz + 1) (by omega) fun q' x' b1 b2 b3 b4 => by
                          have := C_dst C hpz b3 hz1 b4
                          omega
                        rw [show pz + 1 + (p - (pz + 1)) = p by omega, C.env pz z hpz, hz1, look_put, e1] at e3
                        have e4 : look (E pz) m = look (E p) m := by
                          have := look_keep C (s := m) (p - pz) pz (by omega) fun q' x' _ _ g3' => C.fixed q q' y x' m g3 g3' hkq
                          rw [show pz + (p - pz) = p by omega] at this
                          exact this.symm
                        rw [hzx] at hv'
                        simp only [opds, opd, evP] at hv'
                        rw [hvv, ← e3, e4, e2] at hv'
                        cases hlm : look (E q) m with
                        | ptr i0 o1 =>
                          rw [hlm] at hv'
                          simp only [fldAt, Option.some.injEq, AV.ptr.injEq] at hv'
                          have := keptOk_get hkp hkq hlm
                          rw [← hv'.1]
                          exact this
                        | _ => rw [hlm] at hv'; simp [fldAt] at hv'
                    · cases hm
                  · cases hm
          simpa only [getRow, this] using hcs
      exact wpOp_of_out hF ho hwt hdef (Yields1.out (K := fun u w' => Rel F pl (V p) u ∧ w' = w) (evP_sound C.tok D.inv hxs hop hv') fun u hu => ⟨hu, rfl⟩) fun u w' ⟨hu, e⟩ => by rw [e]; exact done u hu
    unfold StepOk at hstep
    split at hstep
    · exact go hstep (hw.1 (by assumption))
    · rename_i s b hgd
      obtain ⟨c, hc, hstep⟩ := hstep
      have hwt := hw.2 s b hgd c hc
      rcases hstep with ⟨e, hv⟩ | ⟨e, hv, _⟩
      · exact go hv (by rw [hwt]; simpa using e)
      · exact wpOp_skip hF ho (by rw [hwt]; simpa using e) (done _ (by rw [hv]; exact rel_undef))
  · -- a new object
    obtain ⟨e, he, hgd, hfree, v0, H1, hev, hc⟩ := a_spec (by rw [← kd_ne_e (by rw [h]; simp)]; exact h) hstep
    rw [he] at hop
    have hwt := hw.1 hgd
    refine wpOp_of_out hF ho hwt hdef (evE_sound (F := F) (pl := noPl) (H := []) (env := E p) (K := fun u w' => DEx rows E Hs V N kk dz F0 pl0 H0 w0 (nxt L p) (a.put o.dst u) w') C.tok C.cok (Inv.none D.inv.ro) (fun ys hy => (hxs ys hy).free hfree) hop hev fun u F' pl2 w' g1 g2 g3 g4 => ?_) fun u w' hA => hK _ _ hA
    exact ⟨k, F', pl, tB, _, by rw [hd]; exact D.putA C hp hkp hL h g1 g2 g3 hc⟩
  · -- one of the chain
    have hpk : p = k := hkd.resolve_left fun hne => hne h
    subst hpk
    have done : ∀ u F' pl' w', Rel F' pl' (V p) u → Inv F' pl' (Hs (p + 1)) w' → Stp F pl (Hs p) w F' pl' (Hs (p + 1)) w' → LeF pl pl' → KK (a.put o.dst u) w' := fun u F' pl' w' g1 g2 g3 g4 =>
      hK _ _ ⟨p + 1, F', pl', _, hq, by rw [hd]; exact D.putE C hp hL g1 g2 g3 g4⟩
    have go : opv call x.i (E p) (Hs p) = some (V p, Hs (p + 1)) → Region.wanted o (yielded ops a.tmps) = true → wpOpIn Fn n P ops Q x.j KK a w := fun hv hwt => by
      simp only [opv] at hv
      split at hv
      · rename_i pp hpp
        rw [hpp] at hop
        simp only [Option.map_eq_some_iff, Prod.mk.injEq] at hv
        obtain ⟨v, hv, e, e2⟩ := hv
        subst e
        exact wpOp_of_out hF ho hwt hdef (Yields1.out (K := fun u w' => Rel F pl (V p) u ∧ w' = w) (evP_sound C.tok D.inv hxs hop hv) fun u hu => ⟨hu, rfl⟩) fun u w' ⟨hu, e⟩ => by
          rw [e]; exact done u F pl w hu (e2 ▸ D.inv) (e2 ▸ Stp.refl _ _ _ _) (LeF.refl _)
      · rename_i e he
        rw [he] at hop
        exact wpOp_of_out hF ho hwt hdef (evE_sound (K := fun u w' => KK (a.put o.dst u) w') C.tok C.cok D.inv hxs hop hv fun u F' pl' w' g1 g2 g3 g4 => done u F' pl' w' g1 g2 g3 g4) fun u w' hA => hA
    unfold StepOk at hstep
    split at hstep
    · exact go hstep (hw.1 (by assumption))
    · rename_i s b hgd
      obtain ⟨c, hc, hstep⟩ := hstep
      have hwt := hw.2 s b hgd c hc
      rcases hstep with ⟨e, hv⟩ | ⟨e, hv, e2⟩
      · exact go hv (by rw [hwt]; simpa using e)
      · exact wpOp_skip hF ho (by rw [hwt]; simpa using e) (done _ F pl w (by rw [hv]; exact rel_undef) (e2.symm ▸ D.inv) (e2.symm ▸ Stp.refl _ _ _ _) (LeF.refl _))
end
section
variable {P : Program} {T : Tab} {F F0 : RoT} {pl pl0 : PlT} {H H0 : Heap} {w w0 : World} {N kk k : Nat} {env : Env} {a : Act} {call : CallF} {dz : List Deferred}
variable {ops : Array Oper} {ms : List Nat} {rows : List Row} {E : Nat → Env} {Hs : Nat → Heap} {V : Nat → AV}
def Lof (rows : List Row) (listed : Array Bool) (p : Nat) : Bool := match rows[p]? with
  | some x => listed.getD x.j true
  | none => false
def cnt : Nat → (Nat → Bool) → Nat
  | 0, _ => 0
  | m + 1, L => (if L m then 0 else 1) + cnt m L
theorem cnt_same : ∀ (m : Nat) {L L' : Nat → Bool}, (∀ q, q < m → L q = L' q) → cnt m L = cnt m L'
  | 0, _, _, _ => rfl
  | m + 1, L, L', h => by simp only [cnt, h m (by omega), cnt_same m fun q hq => h q (by omega)]
theorem cnt_nxt : ∀ (m : Nat) {L : Nat → Bool} {p : Nat}, p < m → L p = false → cnt m L = cnt m (nxt L p) + 1
  | m + 1, L, p, hp, hL => by
    by_cases e : p = m
    · subst e
      have : cnt p (nxt L p) = cnt p L := cnt_same p fun q hq => nxt_ne (by omega)
      simp [cnt, hL, this, nxt]
      try omega
    · have := cnt_nxt m (L := L) (p := p) (by omega) hL
      have h2 : nxt L p m = L m := nxt_ne (by omega)
      simp only [cnt, h2, this]; omega
theorem cnt_zero : ∀ (m : Nat) {L : Nat → Bool}, cnt m L = 0 → ∀ q, q < m → L q = true
  | m + 1, L, h, q, hq => by
    simp only [cnt] at h
    by_cases e : q = m
    · subst e
      cases hL : L q with
      | true => rfl
      | false => rw [hL] at h; simp at h
    · exact cnt_zero m (by omega) q (by omega)
theorem least_false : ∀ (m : Nat) {L : Nat → Bool}, (∃ q, q < m ∧ L q = false) → ∃ q, q < m ∧ L q = false ∧ ∀ q', q' < q → L q' = true
  | 0, L, ⟨q, hq, _⟩ => by omega
  | m + 1, L, ⟨q, hq, hL⟩ => by
    by_cases h : ∃ q, q < m ∧ L q = false
    · obtain ⟨q, h1, h2, h3⟩ := least_false m h
      exact ⟨q, by omega, h2, h3⟩
    · have e : q = m := by
        rcases Nat.lt_or_ge q m with h' | h'
        · exact absurd ⟨q, h', hL⟩ h
        · omega
      subst e
      exact ⟨q, by omega, hL, fun q' hq' => by
        cases e : L q' with
        | true => rfl
        | false => exact absurd ⟨q', hq', e⟩ h⟩
def Down (rows : List Row) (ops : Array Oper) (listed : Array Bool) : Prop :=
  ∀ (q : Nat) (y : Row) (o : Oper), rows[q]? = some y → ops[y.j]? = some o → listed.getD y.j false = true → ∀ e ∈ o.after, Region.binds .any e = true → listed.getD e.on false = true
theorem closed (C : DCtx P T N call ops ms rows E Hs V) {listed : Array Bool} (hd : Down rows ops listed) : ∀ (p : Nat) (x : Row) (o : Oper), rows[p]? = some x → ops[x.j]? = some o →
    (∀ e ∈ o.after, Region.binds .any e = true → listed.getD e.on false = true) → ∀ j, bef ms j x.j = true → listed.getD j false = true := by
  intro p
  induction p using Nat.strongRecOn with
  | _ p ih =>
    intro x o hp ho he j hb
    obtain ⟨o', ho', _, hm, hrow⟩ := C.row hp
    rw [ho] at ho'; cases ho'
    unfold bef at hb
    rw [hm] at hb
    obtain ⟨e, he1, he2, he3⟩ := edgeMask_bit hb
    have hl := he e (by simpa using he1) he2
    rcases he3 with h | h
    · rw [← h]; exact hl
    · obtain ⟨q, y, hq, hy, hj⟩ := hrow e (by simpa using he1) he2
      obtain ⟨oy, hoy, _⟩ := C.row hy
      exact ih q hq y oy hy hoy (hd q y oy hy hoy (by rw [hj]; exact hl)) j (by unfold bef; rw [hj]; exact h)
theorem getD_bool {l : Array Bool} {j : Nat} (h : j < l.size) : l.getD j false = l.getD j true := by simp [Array.getD_eq_getD_getElem?, h]
theorem Lof_nxt (C : DCtx P T N call ops ms rows E Hs V) {listed : Array Bool} (hs : listed.size = ops.size) {p : Nat} {x : Row} (hp : rows[p]? = some x) :
    Lof rows (listed.setIfInBounds x.j true) = nxt (Lof rows listed) p := by
  obtain ⟨o, ho, _⟩ := C.row hp
  have hj : x.j < ops.size := (Array.getElem?_eq_some_iff.1 ho).1
  funext q
  unfold nxt Lof
  by_cases e : q = p
  · subst e
    simp [hp, Array.getD_eq_getD_getElem?, hs, hj]
  · rw [if_neg e]
    cases hq : rows[q]? with
    | none => rfl
    | some y =>
      have hne : x.j ≠ y.j := by
        rcases Nat.lt_or_gt_of_ne e with h | h
        · exact fun e' => (okPair_spec (C.pair hq hp h)).2.1 e'.symm
        · exact (okPair_spec (C.pair hp hq h)).2.1
      simp only [Array.getD_eq_getD_getElem?, Array.getElem?_setIfInBounds_ne hne]
theorem any_sound {Fn : Fence} (hF : Wide Fn) {m : Nat} (C : DCtx P T N call ops ms rows E Hs V) (hsurj : ∀ j, j < ops.size → ∃ (p : Nat) (x : Row), rows[p]? = some x ∧ x.j = j) {Q : Exit → Act → World → Prop}
    (hQ : ∀ a w, At N kk dz F0 pl0 H0 w0 (E rows.length) (Hs rows.length) a w → Q .normal a w) :
    ∀ (fuel : Nat) (listed : Array Bool) (a : Act) (w : World), cnt rows.length (Lof rows listed) ≤ fuel → listed.size = ops.size → Down rows ops listed → DEx rows E Hs V N kk dz F0 pl0 H0 w0 (Lof rows listed) a w →
      wpAnyIn Fn m P .any ops Q fuel listed a w := by
  intro fuel
  induction fuel with
  | zero =>
    intro listed a w hc hs hd hD
    have hall := cnt_zero _ (by omega : cnt rows.length (Lof rows listed) = 0)
    exact wpAnyIn_done (noReady hs hall) (final hall hD) 0
  | succ fuel ih =>
    intro listed a w hc hs hd hD
    by_cases hun : ∃ q, q < rows.length ∧ Lof rows listed q = false
    · obtain ⟨k, F, pl, tB, hq, D0⟩ := hD
      obtain ⟨k', pl', tB', D, hnorm⟩ := D0.norm C _ k pl tB rfl
      refine ⟨fun hr => ?_, fun i hi => ?_⟩
      · obtain ⟨q, h1, h2, h3⟩ := least_false _ hun
        have hx : rows[q]? = some rows[q] := List.getElem?_eq_getElem h1
        obtain ⟨o, ho, _, _, hrow⟩ := C.row hx
        have : (rows[q]).j ∈ Region.ready .any ops listed := mem_ready.2 ⟨by simpa [Lof, hx] using h2, o, ho, fun e he hb => by
          obtain ⟨q', y, g1, g2, g3⟩ := hrow e he hb
          have := h3 q' g1
          obtain ⟨oy, hoy, _⟩ := C.row g2
          have hj : y.j < listed.size := by rw [hs]; exact (Array.getElem?_eq_some_iff.1 hoy).1
          simp only [Lof, g2] at this
          rw [← g3, getD_bool hj]
          exact this⟩
        rw [hr] at this
        cases this
      · obtain ⟨hi1, o, ho, hi2⟩ := mem_ready.1 hi
        have hisz : i < ops.size := (Array.getElem?_eq_some_iff.1 ho).1
        obtain ⟨p, x, hp, rfl⟩ := hsurj i hisz
        have hpl : p < rows.length := (List.getElem?_eq_some_iff.1 hp).1
        have hL : Lof rows listed p = false := by simpa [Lof, hp] using hi1
        have inL : ∀ q y, rows[q]? = some y → (Lof rows listed q = true ↔ listed.getD y.j false = true) := fun q y hy => by
          obtain ⟨oy, hoy, _⟩ := C.row hy
          have hj : y.j < listed.size := by rw [hs]; exact (Array.getElem?_eq_some_iff.1 hoy).1
          simp only [Lof, hy, getD_bool hj]
        refine D.exec hF C hnorm hp hL (fun q y hy hb => (inL q y hy).2 (closed C hd p x o hp ho hi2 y.j hb)) (fun q y hy hb => ?_) fun a' w' hD' => ?_
        · cases e : Lof rows listed q with
          | false => rfl
          | true =>
            obtain ⟨oy, hoy, _⟩ := C.row hy
            have h1 := closed C hd q y oy hy hoy (hd q y oy hy hoy ((inL q y hy).1 e)) x.j hb
            have h2 := (inL p x hp).2 h1
            rw [hL] at h2; cases h2
        · rw [← Lof_nxt C hs hp] at hD'
          refine ih _ a' w' ?_ (by simpa using hs) (fun q y oy hy hoy hl e he hb => ?_) hD'
          · rw [Lof_nxt C hs hp]
            have := cnt_nxt rows.length hpl hL
            omega
          · have mono : ∀ j, listed.getD j false = true → (listed.setIfInBounds x.j true).getD j false = true := fun j hj => by
              by_cases e : x.j = j
              · subst e
                simp [Array.getD_eq_getD_getElem?, hs, hisz]
              · simpa only [Array.getD_eq_getD_getElem?, Array.getElem?_setIfInBounds_ne e] using hj
            by_cases e' : x.j = y.j
            · rw [e'] at ho
              rw [ho] at hoy; cases hoy
              exact mono _ (hi2 e he hb)
            · refine mono _ (hd q y oy hy hoy ?_ e he hb)
              simpa only [Array.getD_eq_getD_getElem?, Array.getElem?_setIfInBounds_ne e'] using hl
    · have hall : ∀ q, q < rows.length → Lof rows listed q = true := fun q hq => by
        cases e : Lof rows listed q with
        | true => rfl
        | false => exact absurd ⟨q, hq, e⟩ hun
      exact wpAnyIn_done (noReady hs hall) (final hall hD) (fuel + 1)
where
  noReady {listed : Array Bool} (hs : listed.size = ops.size) (hall : ∀ q, q < rows.length → Lof rows listed q = true) : Region.ready .any ops listed = [] := by
    cases hr : Region.ready .any ops listed with
    | nil => rfl
    | cons i r =>
      have hi : i ∈ Region.ready .any ops listed := by rw [hr]; simp
      obtain ⟨hi1, o, ho, _⟩ := mem_ready.1 hi
      obtain ⟨p, x, hp, rfl⟩ := hsurj i (Array.getElem?_eq_some_iff.1 ho).1
      have := hall p (List.getElem?_eq_some_iff.1 hp).1
      simp only [Lof, hp] at this
      rw [hi1] at this; cases this
  final {listed : Array Bool} {a : Act} {w : World} (hall : ∀ q, q < rows.length → Lof rows listed q = true) (hD : DEx rows E Hs V N kk dz F0 pl0 H0 w0 (Lof rows listed) a w) : Q .normal a w := by
    obtain ⟨k, F, pl, tB, hq, D0⟩ := hD
    obtain ⟨k', pl', tB', D, hnorm⟩ := D0.norm C _ k pl tB rfl
    have hk : k' = rows.length := by
      rcases Nat.lt_or_ge k' rows.length with h | h
      · have := hnorm h
        rw [hall k' h] at this; cases this
      · have := D.le; omega
    subst hk
    refine hQ a w ⟨F, pl', D.inv, ⟨D.size, fun s => ?_⟩, D.defers, D.stp, D.keep⟩
    rw [D.late s fun p x hp hx => by have := (List.getElem?_eq_some_iff.1 hx).1; omega]
    exact D.base.rel s
theorem rowsOf_get : ∀ {ord chs : List Nat} {is : List AI} {p : Nat} {x : Row}, (rowsOf ord chs is)[p]? = some x → is[p]? = some x.i ∧ ord[p]? = some x.j
  | j :: js, chs, i :: is, 0, x, h => by simp [rowsOf] at h; subst h; simp
  | j :: js, chs, i :: is, p + 1, x, h => by
    have := rowsOf_get (ord := js) (chs := chs) (is := is) (p := p) (x := x) (by simpa [rowsOf] using h)
    simpa using this
  | [], chs, is, p, x, h => by simp [rowsOf] at h
  | j :: js, chs, [], p, x, h => by simp [rowsOf] at h
def okReg (T : Tab) (N : Nat) (ops : Array Oper) (is : List AI) (draw : Bool) (ord : Option (List Nat × List Nat × List Nat)) : Bool :=
  match draw, ord with
  | false, _ => okSeq T N ops ops.toList is
  | true, some (o, chs, ms) => okDraw T N ops is o chs ms
  | true, none => false
theorem reg_sound (hmix : P.follows .mixedOrders = true) {Fn : Fence} (hF : Wide Fn) {n : Nat} (hT : TOk P T) (hc : CallOk P call) {id : Nat} {ops : Array Oper} {draw : Bool} {is : List AI} {ord : Option (List Nat × List Nat × List Nat)} (hok : okReg T N ops is draw ord = true)
    {K : KT} {r : AV × Heap} {Q : Exit → Act → World → Prop}
    (hQ : ∀ env H a w, K env H = some r → At N kk dz F0 pl0 H0 w0 env H a w → Q .normal a w) (hev : evR call is K env H = some r) (hA : At N kk dz F0 pl0 H0 w0 env H a w) :
    (Code.region id ops draw).wpIn Fn n P Q a w := by
  unfold okReg at hok
  split at hok
  · have := seq_sound hF (n := n) hT hc hQ ops.toList is 0 env H a w hok (fun m => by simp) hev hA
    refine wpIn_region ?_
    rw [List.range_eq_range']
    simpa using this
  · rename_i o chs ms
    refine wpIn_region_any hmix ?_
    simp only [okDraw, Bool.and_eq_true, beq_iff_eq, List.all_eq_true, List.mem_range, List.contains_eq_mem, decide_eq_true_eq] at hok
    obtain ⟨⟨⟨⟨⟨h1, h2⟩, h3⟩, hfix⟩, h4⟩, h5⟩ := hok
    obtain ⟨E, Hs, V, e1, e2, ht, hk⟩ := trace_of is env H hev
    have C : DCtx P T N call ops ms (rowsOf o chs is) E Hs V := ⟨hT, hc, fun hp hq hlt => okPairs_get h4 hp hq hlt, fun hp => by
        obtain ⟨o', ho', g1, g2, g3⟩ := okRows_get h5 hp
        exact ⟨o', ho', g1, g2, fun e he hb => (g3 e he hb).resolve_left (by simp)⟩, fun p x hx => ht.step p _ (rowsOf_get hx).1, fun p x hx => ht.env p _ (rowsOf_get hx).1, fun p x e hx he => ht.kept p _ e (rowsOf_get hx).1 he, fun p q x z m hx hz hm => by
          have := hfix x (List.mem_of_getElem? hx) m (tmpsOf_mem hm) z (List.mem_of_getElem? hz)
          simpa using this⟩
    have hsurj : ∀ j, j < ops.size → ∃ (p : Nat) (x : Row), (rowsOf o chs is)[p]? = some x ∧ x.j = j := fun j hj => by
      have := h3 j hj
      simp only [List.any_eq_true, beq_iff_eq] at this
      obtain ⟨x, hx, e⟩ := this
      obtain ⟨p, hp, e'⟩ := List.mem_iff_getElem.1 hx
      exact ⟨p, x, by rw [List.getElem?_eq_getElem hp, e'], e⟩
    obtain ⟨F, pl, h⟩ := hA
    have hlen : is.length = (rowsOf o chs is).length := by omega
    have hnone : ∀ q, Lof (rowsOf o chs is) (Array.replicate ops.size false) q = false := fun q => by
      unfold Lof
      cases hq : (rowsOf o chs is)[q]? with
      | none => rfl
      | some x =>
        obtain ⟨o', ho', _⟩ := C.row hq
        have : x.j < ops.size := (Array.getElem?_eq_some_iff.1 ho').1
        simp [Array.getD_eq_getD_getElem?, this]
    refine any_sound (N := N) (kk := kk) (F0 := F0) (pl0 := pl0) (H0 := H0) (w0 := w0) hF C hsurj (fun a w hA => hQ _ _ a w (by rw [← hlen]; exact hk) hA) ops.size (Array.replicate ops.size false) a w.drew ?_ (by simp) ?_ ?_
    · rw [← h1]
      exact cnt_le _ _
    · intro q y o' hq ho' hl
      obtain ⟨o1, ho1, _⟩ := C.row hq
      have : y.j < ops.size := (Array.getElem?_eq_some_iff.1 ho1).1
      simp [Array.getD_eq_getD_getElem?, this] at hl
    · refine ⟨0, F, pl, a.tmps, fun _ => ⟨0, 0, 0⟩, fun p hp => by omega, Nat.zero_le _, by rw [e2]; exact h.inv.drew, by rw [e1]; exact h.env, h.env.size, h.defers, fun s _ => rfl, fun p x s _ _ hl => ?_, fun p x _ _ hl => ?_, fun p x o g => ?_, fun p p' x x' o o' g => ?_, ?_, h.keep⟩
      · rw [hnone] at hl; cases hl
      · rw [hnone] at hl; cases hl
      · have := g.listed; rw [hnone] at this; cases this
      · have := g.listed; rw [hnone] at this; cases this
      · rw [e2]; exact h.stp.trans (Stp.drew _ _ _ _)
  · cases hok
where
  tmpsOf_mem : ∀ {xs : List Opd} {m : Nat}, Opd.t m ∈ xs → m ∈ tmpsOf xs
    | [], m, h => by cases h
    | .t n :: r, m, h => by
      rcases List.mem_cons.1 h with e | e
      · cases e; simp [tmpsOf]
      · simp [tmpsOf, tmpsOf_mem e]
    | .c v :: r, m, h => by
      rcases List.mem_cons.1 h with e | e
      · cases e
      · simpa [tmpsOf] using tmpsOf_mem e
  cnt_le : ∀ (m : Nat) (L : Nat → Bool), cnt m L ≤ m
    | 0, _ => Nat.le_refl _
    | m + 1, L => by
      have := cnt_le m L
      simp only [cnt]
      split <;> omega
end
end Go.AM
