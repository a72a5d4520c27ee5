/- The abstract machine, part M3. -/
import Derived.Scope
import Derived.Test.YtdgkchedoooffaaM2
import Derived.RangeFuncLeaves
import Derived.RangeFuncSeq
import Derived.RangeFuncKeeps
import Derived.ChangeArms
import Derived.ChangeShapes
import Derived.OpenShut
import Derived.ProofKit
set_option linter.unusedVariables false
set_option linter.unusedSimpArgs false
set_option linter.unusedSectionVars false
namespace Go.AM
open Go.RowKit
section
variable {P : Program} {T : Tab} {F F0 : RoT} {pl pl0 : PlT} {H H0 : Heap} {w w0 : World} {N k : Nat} {env : Env} {a : Act} {call : CallF} {it : IterF} {dz : List Deferred}
structure DefsOk (ds : List Deferred) (wo : World) (pl : PlT) (H : Heap) (w : World) : Prop where
  each : ∀ d ∈ ds, ∃ D, d = { target := .collected D, args := #[] } ∧ w.heap[D]? = some (.deferred (some [])) ∧ ¬ Own pl H D ∧ wo.heap.size ≤ D
  nodup : ds.Pairwise (· ≠ ·)
  le : wo.heap.size ≤ w.heap.size
theorem DefsOk.stp {ds : List Deferred} {wo : World} (h : DefsOk ds wo pl H w) {F' : RoT} {pl' : PlT} {H' : Heap} {w' : World} (hs : Stp F pl H w F' pl' H' w') : DefsOk ds wo pl' H' w' :=
  ⟨fun d hd => by
    obtain ⟨D, e, hD, hn, hl⟩ := h.each d hd
    have hlt : D < w.heap.size := (Array.getElem?_eq_some_iff.1 hD).1
    refine ⟨D, e, (hs.fr.block D hlt hn).trans hD, fun ho => ?_, hl⟩
    rcases hs.own D ho with h1 | h1
    · exact hn h1
    · omega, h.nodup, Nat.le_trans h.le hs.fr.size⟩
def AtC (N k : Nat) (F0 : RoT) (pl0 : PlT) (H0 : Heap) (w0 wo : World) (env : Env) (H : Heap) (a : Act) (w : World) : Prop :=
  ∃ dz F pl, Cfg N k dz F0 pl0 H0 w0 env H a w F pl ∧ DefsOk dz wo pl H w
theorem Cfg.self (h : Cfg N k dz F0 pl0 H0 w0 env H a w F pl) : Cfg N k dz F pl H w env H a w F pl := ⟨h.inv, h.env, h.defers, Stp.refl _ _ _ _, fun j p _ hp => hp⟩
theorem Cfg.at (h : Cfg N k dz F0 pl0 H0 w0 env H a w F pl) {wo : World} (hd : DefsOk dz wo pl H w) {env' : Env} {H' : Heap} {a' : Act} {w' : World} (hA : At N k dz F pl H w env' H' a' w') : AtC N k F0 pl0 H0 w0 wo env' H' a' w' := by
  obtain ⟨F', pl', h'⟩ := hA
  exact ⟨dz, F', pl', ⟨h'.inv, h'.env, h'.defers, h.stp.trans h'.stp, fun j p hj hp => h'.keep j p hj (h.keep j p hj hp)⟩, hd.stp h'.stp⟩
theorem Inv.other (h : Inv F pl H w) {w' : World} {b : Nat} (hs : w'.heap.size = w.heap.size) (hb : ∀ j : Nat, j ≠ b → w'.heap[j]? = w.heap[j]?) (hn : ¬ Own pl H b) (hF : ∀ a v, F a = some v → a.block ≠ b) : Inv F pl H w' := by
  refine Inv.of_objs h.fresh (fun i o hi => ?_) h.inj (fun a v hv => ?_) h.sep
  · obtain ⟨p, hp, ho⟩ := h.obj hi
    exact ⟨p, hp, ho.mono (LeF.refl _) (LeF.refl _) (hb p.block fun e => hn ⟨i, p, ⟨o, hi⟩, hp, e⟩)⟩
  · have := hb a.block (hF a v hv)
    have e : w'.cell? a = w.cell? a := by simp [World.cell?, this]
    rw [e]; exact h.ro a v hv
theorem ro_ne (h : Inv F pl H w) {b : Nat} {o : Obj} (hb : w.heap[b]? = some o) (ho : o.isCells = false) : ∀ a v, F a = some v → a.block ≠ b := fun a v hv e => by
  have := h.ro a v hv
  obtain ⟨o', h1, h2⟩ := cells_of_cell this
  rw [e, hb] at h1
  cases h1
  rw [ho] at h2; cases h2
theorem Stp.other {F' : RoT} {pl' : PlT} {H' : Heap} {W W' : World} (h : Stp F pl H w F' pl' H' W) {b : Nat} (hb : w.heap.size ≤ b) (ho : W'.os = W.os) (htp : W'.tape = W.tape) (hout : W'.output = W.output) (hs : W'.heap.size = W.heap.size)
    (hk : ∀ j : Nat, j ≠ b → W'.heap[j]? = W.heap[j]?) : Stp F pl H w F' pl' H' W' :=
  ⟨⟨ho.trans h.fr.os, htp.trans h.fr.tape, hout.trans h.fr.output, by have := h.fr.size; omega, fun j hj hn => (hk j (by omega)).trans (h.fr.block j hj hn)⟩, h.own, h.leF, h.newF⟩
def IterC (P : Program) (g : Nat) (lb : Array Value) (xs : List AV) (w : World) : Prop :=
  ∀ (l : Nat) (J : Nat → World → Prop) (W : World), w.heap.size ≤ W.heap.size → (∀ j, j < w.heap.size → W.heap[j]? = w.heap[j]?) →
    (∀ i W1 W2, J i W1 → Fr (fun _ => False) W1 W2 → J i W2) →
    (∀ i x u W1, J i W1 → xs[i]? = some x → Rel (fun _ => none) noPl x u → YieldAt Fence.wide 0 P l #[u] W1 fun e W2 => e = .returned (.bool true) ∧ J (i + 1) W2) →
    J 0 W → Calls P g (#[.func (.yield l) #[] #[]] ++ lb) W fun e W' => (∃ v, e = .returned v) ∧ J xs.length W'
def ItOk (P : Program) (it : IterF) : Prop := ∀ f H xs, it f H = some xs → ∃ g cap, f = .fn g cap ∧ Entry P g ∧ ∀ F pl w (lb : Array Value), Inv F pl H w → RelL F pl cap lb.toList → IterC P g lb xs w
theorem rebox (h : Inv F pl H w) {id j : Nat} {cs : List AV} {v : AV} {p : Place} {u : Value} (hi : H[id]? = some (some (.box cs))) (hp : pl id = some p) (hu : w.cell? ⟨p.block, p.base + j, none⟩ = some u) (hr : Rel F pl v u) (h1 : v.one = true) :
    Inv F pl (H.set id (some (.box (cs.set j v)))) w := by
  have hlt : id < H.length := (List.getElem?_eq_some_iff.1 hi).1
  have lv : ∀ {i : Nat}, live (H.set id (some (.box (cs.set j v)))) i → live H i := fun {i} ⟨o, ho⟩ => by
    rw [List.getElem?_set] at ho
    split at ho
    · rename_i e; subst e; exact ⟨_, hi⟩
    · exact ⟨o, ho⟩
  refine Inv.of_objs (fun i hl => h.fresh i (by simpa using hl)) (fun i o ho => ?_) (fun i j p q a b => h.inj i j p q (lv a) (lv b)) h.ro (fun a x i p ha hl => h.sep a x i p ha (lv hl))
  rw [List.getElem?_set] at ho
  split at ho
  · rename_i e
    subst e
    cases ho
    obtain ⟨q, hq, ok⟩ := h.obj hi
    rw [hp] at hq; cases hq
    obtain ⟨g1, g2, g3, g4⟩ := ok.cells cs rfl
    refine ⟨p, hp, fun cs' e => ?_, fun _ e => (by cases e), fun _ e => (by cases e), ok.pos⟩
    simp only [HO.cells?, Option.some.injEq] at e
    subst e
    refine ⟨by simpa using g1, ?_, g3, fun i x hx => ?_⟩
    · rw [oneL_iff]
      intro x hx
      rcases List.mem_or_eq_of_mem_set hx with hx | rfl
      · exact (oneL_iff.1 g2) x hx
      · exact h1
    · rw [List.getElem?_set] at hx
      split at hx
      · rename_i e
        subst e
        split at hx
        · cases hx; exact ⟨u, hu, hr⟩
        · cases hx
      · exact g4 i x hx
  · exact h.obj ho
theorem Cfg.fz (P : Program) (h : Cfg N k dz F pl H w env H a w F pl) {s : Nat} {j : Option Nat} {env' : Env} {H' : Heap} (hg : fzS env H s j = some (env', H')) :
    At N k dz F pl H w env' H' a w := by
  have hS := h.env.rel s
  cases j with
  | none =>
    simp only [fzS, Option.map_eq_some_iff, Prod.mk.injEq] at hg
    obtain ⟨⟨v, H1⟩, hg, rfl, rfl⟩ := hg
    obtain ⟨w', F', pl', h1, h2, h3, h4⟩ := frz_op_sound (P := P) h.inv hS hg
    rcases h1 with ⟨u, hu, hr⟩ | ⟨hu, _⟩
    · simp only [Sem.run_pure, Result.ok.injEq, Next.value.injEq] at hu
      obtain ⟨rfl, rfl⟩ := hu
      refine ⟨F', pl', h2, ⟨h.env.size, fun i => ?_⟩, h.defers, h3, fun j p _ hp => h4 j p hp⟩
      simp only [look]
      split
      · rename_i e; subst e; exact hr
      · exact (h.env.rel i).mono h3.leF h4
    · simp at hu
  | some j =>
    simp only [fzS] at hg
    split at hg
    · rename_i id hs
      split at hg
      · rename_i cs hcs
        simp only [Option.bind_eq_some_iff] at hg
        obtain ⟨⟨v, H1⟩, hf, hg⟩ := hg
        split at hg
        · rename_i cs' hcs'
          split at hg
          · rename_i hone
            simp only [Option.some.injEq, Prod.mk.injEq] at hg
            obtain ⟨rfl, rfl⟩ := hg
            obtain ⟨p, hp, ok⟩ := h.inv.obj hcs
            obtain ⟨g1, g2, g3, g4⟩ := ok.cells cs rfl
            by_cases hj : j < cs.length
            · obtain ⟨u, hu, hr⟩ := g4 j _ (List.getElem?_eq_getElem hj)
              rw [List.getD_eq_getElem?_getD, List.getElem?_eq_getElem hj, Option.getD_some] at hf
              obtain ⟨w', F', pl', h1, h2, h3, h4⟩ := frz_op_sound (P := P) h.inv hr hf
              rcases h1 with ⟨u', hu', hr'⟩ | ⟨hu', _⟩
              · simp only [Sem.run_pure, Result.ok.injEq, Next.value.injEq] at hu'
                obtain ⟨rfl, rfl⟩ := hu'
                refine ⟨F', pl', rebox h2 hcs' (h4 _ _ hp) hu hr' hone, ⟨h.env.size, fun i => (h.env.rel i).mono h3.leF h4⟩, h.defers, ⟨h3.fr, fun b hb => ?_, h3.leF, h3.newF⟩, fun j p _ hp => h4 j p hp⟩
                obtain ⟨i, q, ⟨o, ho⟩, hq, e⟩ := hb
                refine h3.own b ⟨i, q, ?_, hq, e⟩
                rw [List.getElem?_set] at ho
                split at ho
                · rename_i e2; subst e2; exact ⟨_, hcs'⟩
                · exact ⟨o, ho⟩
              · simp at hu'
            · rw [List.getD_eq_getElem?_getD, List.getElem?_eq_none (by omega), Option.getD_none] at hf
              simp [evE] at hf
          · cases hg
        · cases hg
      · cases hg
    · cases hg
def okC (T : Tab) (N : Nat) (rd : Bool) : Code → AC → Bool
  | c, .pre _ c' => okC T N rd c c'
  | c, .fz _ _ c' => okC T N rd c c'
  | .skip, .skip => true
  | .label _, .skip => true
  | .ret, .ret => true
  | .region _ ops draw, .reg is ord => okReg T N ops is draw ord
  | .seq a b, .seq a' b' => okC T N rd a a' && okC T N rd b b'
  | .scope c, .seq .skip c' => !rd && okC T N rd c c'
  | .cond c a b, .cond c' a' b' => okO c c' && okC T N rd a a' && okC T N rd b b'
  | .block id c, .block id' c' => id == id' && okC T N rd c c'
  | .loop c, .loop c' => okC T N rd c c'
  | .exit id, .exit id' => id == id'
  | .rangeFunc f ps asg body, .rangeF f' p asg' body' => !rd && okO f f' && ps == #[p] && decide (p < N) && okC T N true asg asg' && okC T N true body body'
  | _, _ => false
theorem wpIn_scopeS {n : Nat} {Q : Exit → Act → World → Prop} {a : Act} {w : World} {c : Code} (h : c.wpIn Fence.wide n P (Exit.noGoto Q) a w) : (Code.scope c).wpIn Fence.wide n P Q a w := wpIn_wide.2 (wp_scope_straight (wpIn_wide.1 h))
structure QOk (N k : Nat) (F0 : RoT) (pl0 : PlT) (H0 : Heap) (w0 wo : World) (r : AV × Heap) (K : KT) (X : Nat → KT) (Rt : KT) (Q : Exit → Act → World → Prop) : Prop where
  normal : ∀ env H a w, K env H = some r → AtC N k F0 pl0 H0 w0 wo env H a w → Q .normal a w
  exit : ∀ id env H a w, X id env H = some r → AtC N k F0 pl0 H0 w0 wo env H a w → Q (.exit id) a w
  ret : ∀ env H a w, Rt env H = some r → AtC N k F0 pl0 H0 w0 wo env H a w → Q .ret a w
theorem evC_sound (hmix : P.follows .mixedOrders = true) (hit : ItOk P it) {m n : Nat} (hT : TOk P T) (hc : CallOk P call) {r : AV × Heap} : ∀ (ac : AC) (Fn : Fence) (rd : Bool), Wide Fn → (rd = false → Fn = Fence.wide) → ∀ (k : Nat) (F0 : RoT) (pl0 : PlT) (H0 : Heap) (w0 wo : World) (c : Code), okC T N rd c ac = true → ∀ (K : KT) (X : Nat → KT) (Rt : KT) (Q : Exit → Act → World → Prop),
    QOk N k F0 pl0 H0 w0 wo r K X Rt Q → ∀ (env : Env) (H : Heap) (a : Act) (w : World), evC call it n ac k K X Rt env H = some r → AtC N k F0 pl0 H0 w0 wo env H a w → c.wpIn Fn m P Q a w
  | .pre live ac, Fn, rd, hF, hrd, k, F0, pl0, H0, w0, wo, c, hok, K, X, Rt, Q, hQ, env, H, a, w, hev, ⟨dz, F, pl, h, hd⟩ => by
    have hok : okC T N rd c ac = true := by cases c <;> simpa [okC] using hok
    simp only [evC, Option.bind_eq_some_iff] at hev
    obtain ⟨⟨vs, H1⟩, hg, hev⟩ := hev
    exact evC_sound hmix hit hT hc ac Fn rd hF hrd k F0 pl0 H0 w0 wo c hok K X Rt Q hQ _ _ a w hev (h.at hd (h.self.pre hg))
  | .fz s j ac, Fn, rd, hF, hrd, k, F0, pl0, H0, w0, wo, c, hok, K, X, Rt, Q, hQ, env, H, a, w, hev, ⟨dz, F, pl, h, hd⟩ => by
    have hok : okC T N rd c ac = true := by cases c <;> simpa [okC] using hok
    simp only [evC, Option.bind_eq_some_iff] at hev
    obtain ⟨⟨env1, H1⟩, hg, hev⟩ := hev
    exact evC_sound hmix hit hT hc ac Fn rd hF hrd k F0 pl0 H0 w0 wo c hok K X Rt Q hQ _ _ a w hev (h.at hd (h.self.fz P hg))
  | .skip, Fn, rd, hF, hrd, k, F0, pl0, H0, w0, wo, c, hok, K, X, Rt, Q, hQ, env, H, a, w, hev, hA => by
    cases c <;> simp [okC] at hok
    · exact wpIn_skip (hQ.normal _ _ _ _ hev hA)
    · exact wpIn_label (hQ.normal _ _ _ _ hev hA)
  | .ret, Fn, rd, hF, hrd, k, F0, pl0, H0, w0, wo, c, hok, K, X, Rt, Q, hQ, env, H, a, w, hev, hA => by
    cases c <;> simp [okC] at hok
    exact wpIn_ret (hQ.ret _ _ _ _ hev hA)
  | .reg is d, Fn, rd, hF, hrd, k, F0, pl0, H0, w0, wo, c, hok, K, X, Rt, Q, hQ, env, H, a, w, hev, ⟨dz, F, pl, h, hd⟩ => by
    cases c <;> simp [okC] at hok
    exact reg_sound hmix hF hT hc hok (fun env' H' a' w' he hA => hQ.normal env' H' a' w' he (h.at hd hA)) hev ⟨F, pl, h.self⟩
  | .seq x y, Fn, rd, hF, hrd, k, F0, pl0, H0, w0, wo, c, hok, K, X, Rt, Q, hQ, env, H, a, w, hev, hA => by
    cases c <;> try (simp [okC] at hok; done)
    · rename_i ca cb
      simp [okC] at hok
      refine wpIn_seq ?_
      refine evC_sound hmix hit hT hc x Fn rd hF hrd k F0 pl0 H0 w0 wo ca hok.1 _ X Rt (Exit.then (cb.wpIn Fn m P Q) Q) ⟨fun env H a w he hA => ?_, fun id env H a w he hA => hQ.exit id env H a w he hA, fun env H a w he hA => hQ.ret env H a w he hA⟩ env H a w hev hA
      exact evC_sound hmix hit hT hc y Fn rd hF hrd k F0 pl0 H0 w0 wo _ hok.2 K X Rt Q hQ env H a w he hA
    · rename_i cb
      cases x <;> try (simp [okC] at hok; done)
      simp [okC] at hok
      have hFw := hrd hok.1
      subst hFw
      refine wpIn_scopeS ?_
      exact evC_sound hmix hit hT hc y Fence.wide rd hF hrd k F0 pl0 H0 w0 wo cb hok.2 K X Rt (Exit.noGoto Q) ⟨hQ.normal, hQ.exit, hQ.ret⟩ env H a w hev hA
  | .cond b x y, Fn, rd, hF, hrd, k, F0, pl0, H0, w0, wo, c, hok, K, X, Rt, Q, hQ, env, H, a, w, hev, hA => by
    cases c <;> simp [okC] at hok
    obtain ⟨⟨ho, h1⟩, h2⟩ := hok
    obtain ⟨dz, F, pl, h, hd⟩ := hA
    have hr := okO_rel h.env ho
    simp only [evC, ifB, Option.bind_eq_some_iff] at hev
    obtain ⟨t, ht, hev⟩ := hev
    have hb : opd env b = .bool t := by
      cases hv : opd env b <;> rw [hv] at ht <;> simp [asB] at ht
      rw [ht]
    rw [hb] at hr
    refine wpIn_cond (rel_bool_inv hr) ?_
    cases t with
    | true => exact evC_sound hmix hit hT hc x Fn rd hF hrd k F0 pl0 H0 w0 wo _ h1 K X Rt Q hQ env H a w (by simpa using hev) ⟨dz, F, pl, h, hd⟩
    | false => exact evC_sound hmix hit hT hc y Fn rd hF hrd k F0 pl0 H0 w0 wo _ h2 K X Rt Q hQ env H a w (by simpa using hev) ⟨dz, F, pl, h, hd⟩
  | .block id x, Fn, rd, hF, hrd, k, F0, pl0, H0, w0, wo, c, hok, K, X, Rt, Q, hQ, env, H, a, w, hev, hA => by
    cases c <;> simp [okC] at hok
    rename_i cid cb
    obtain ⟨rfl, hok⟩ := hok
    refine wpIn_block ?_
    refine evC_sound hmix hit hT hc x Fn rd hF hrd k F0 pl0 H0 w0 wo cb hok K _ Rt (Exit.inBlock cid Q) ⟨hQ.normal, fun id' env H a w he hA => ?_, hQ.ret⟩ env H a w hev hA
    simp only [Exit.inBlock]
    by_cases e : id' = cid
    · rw [if_pos e] at he
      rw [if_pos e]
      exact hQ.normal env H a w he hA
    · rw [if_neg e] at he
      rw [if_neg e]
      exact hQ.exit id' env H a w he hA
  | .loop x, Fn, rd, hF, hrd, k, F0, pl0, H0, w0, wo, c, hok, K, X, Rt, Q, hQ, env, H, a, w, hev, hA => by
    cases c <;> simp [okC] at hok
    simp only [evC] at hev
    refine wpIn_loop_ghost' (fun j a w => ∃ env H, loopIt j (fun K => evC call it n x k K X Rt) env H = some r ∧ AtC N k F0 pl0 H0 w0 wo env H a w) n ⟨env, H, hev, hA⟩ ?_
    rintro j a w ⟨env, H, hev, hA⟩
    cases j with
    | zero => simp [loopIt] at hev
    | succ j =>
      simp only [loopIt] at hev
      exact evC_sound hmix hit hT hc x Fn rd hF hrd k F0 pl0 H0 w0 wo _ hok _ X Rt (Exit.then (fun a' w' => ∃ n', n' < j + 1 ∧ ∃ env H, loopIt n' (fun K => evC call it n x k K X Rt) env H = some r ∧ AtC N k F0 pl0 H0 w0 wo env H a' w') Q) ⟨fun env H a w he hA => ⟨j, Nat.lt_succ_self j, env, H, he, hA⟩, hQ.exit, hQ.ret⟩ env H a w hev hA
  | .exit id, Fn, rd, hF, hrd, k, F0, pl0, H0, w0, wo, c, hok, K, X, Rt, Q, hQ, env, H, a, w, hev, hA => by
    cases c <;> simp [okC] at hok
    subst hok
    exact wpIn_exit (hQ.exit _ _ _ _ _ hev hA)
  | .rangeF f p x y, Fn, rd, hF, hrd, k, F0, pl0, H0, w0, wo, c, hok, K, X, Rt, Q, hQ, env, H, a, w, hev, ⟨dz, F, pl, h, hd⟩ => by
    cases c <;> simp [okC] at hok
    rename_i g ps asg body
    obtain ⟨⟨⟨⟨⟨hrd', ho⟩, rfl⟩, hpN⟩, hasg⟩, hbody⟩ := hok
    have hFw := hrd hrd'
    subst hFw
    simp only [evC, Option.bind_eq_some_iff] at hev
    obtain ⟨xs, hxs, hev⟩ := hev
    obtain ⟨gf, cap, hfn, hent, hiter⟩ := hit _ _ _ hxs
    have hr := okO_rel h.env ho
    rw [hfn] at hr
    obtain ⟨lb, hg, hcap⟩ := rel_fn_iff.1 hr
    have hIter := hiter F pl w lb h.inv hcap
    generalize hstep : (fun (K : Heap → R) (x' : AV) (H' : Heap) => evC call it n x H.length (evC call it n y H.length (fun _ H2 => K H2) (fun _ _ _ => none) (fun _ _ => none)) (fun _ _ _ => none) (fun _ _ => none) (putE env (some p) x') H') = step at hev
    refine wpIn_rangeFunc ?_
    intro fn _
    obtain ⟨rec, hrec⟩ : ∃ rec : LoopState → Option Code → Loop, rec = fun st pe => { state := st, pending := pe, fn, tmps := a.tmps, params := #[p], assign := asg, body, defers := w.heap.size } := ⟨_, rfl⟩
    obtain ⟨W1, hW1⟩ : ∃ W1, (w.alloc (.deferred (some []))).alloc (.loop (rec .ready none)) = W1 := ⟨_, rfl⟩
    have hL1 : W1.heap[w.heap.size + 1]? = some (.loop (rec .ready none)) := by
      rw [← hW1]; have := World.alloc_heap_new (w.alloc (.deferred (some []))) (.loop (rec .ready none)); rwa [World.size_alloc] at this
    have hK1 : W1.heap[w.heap.size]? = some (.deferred (some [])) := by
      rw [← hW1]; exact (Below.heap_alloc _ _ _ (by simp)).trans (World.alloc_heap_new w _)
    have hfr1 : Fr (fun _ => False) w W1 := by
      rw [← hW1]; exact (Fr.alloc _ _ _).trans (Fr.alloc _ _ _) fun _ _ h => h
    have hI1 : Inv F pl H W1 := h.inv.grow (LeF.refl _) (fun a v hv => .inl hv) (fun a v hv => by
      have h1 := h.inv.ro a v hv
      have : W1.heap[a.block]? = w.heap[a.block]? := hfr1.block _ (cell_lt h1) fun e => e
      have e : W1.cell? a = w.cell? a := by simp [World.cell?, this]
      rw [e]; exact h1) hfr1
    have hs1 : Stp F pl H w F pl H W1 := ⟨hfr1.mono fun _ _ h => h.elim, fun b hb => .inl hb, LeF.refl _, fun _ _ hv => .inl hv⟩
    have nown : ∀ {F' : RoT} {pl' : PlT} {H' : Heap} {W : World} {b : Nat}, Stp F pl H w F' pl' H' W → True := fun _ => trivial
    have ownlt : ∀ b, Own pl H b → b < w.heap.size := fun b ⟨i, q, hi, hq, e⟩ => e ▸ h.inv.pos i q hi hq
    let J : Nat → World → Prop := fun i W => W.heap[w.heap.size + 1]? = some (.loop (rec .ready none)) ∧ W.heap[w.heap.size]? = some (.deferred (some [])) ∧
      ∃ H' F' pl', rangeIt step (xs.drop i) (fun H' => K env H') H' = some r ∧ Inv F' pl' H' W ∧ Stp F pl H w F' pl' H' W ∧ LeF pl pl' ∧ ¬ Own pl' H' (w.heap.size + 1) ∧ ¬ Own pl' H' w.heap.size
    have hJ0 : J 0 W1 := ⟨hL1, hK1, H, F, pl, by simpa using hev, hI1, hs1, LeF.refl _, fun ho => by have := ownlt _ ho; omega, fun ho => by have := ownlt _ ho; omega⟩
    have hJfr : ∀ i W2 W3, J i W2 → Fr (fun _ => False) W2 W3 → J i W3 := by
      rintro i W2 W3 ⟨g1, g2, H', F', pl', g3, g4, g5, g6, g7, g8⟩ hfr
      have hb : ∀ {b : Nat} {o}, W2.heap[b]? = some o → W3.heap[b]? = some o := fun {b o} hb => (hfr.block b (Array.getElem?_eq_some_iff.1 hb).1 fun e => e).trans hb
      refine ⟨hb g1, hb g2, H', F', pl', g3, g4.grow (LeF.refl _) (fun a v hv => .inl hv) (fun a v hv => ?_) hfr, g5.trans ⟨hfr.mono fun _ _ h => h.elim, fun b hb => .inl hb, LeF.refl _, fun _ _ hv => .inl hv⟩, g6, g7, g8⟩
      have h1 := g4.ro a v hv
      have : W3.heap[a.block]? = W2.heap[a.block]? := hfr.block _ (cell_lt h1) fun e => e
      have e : W3.cell? a = W2.cell? a := by simp [World.cell?, this]
      rw [e]; exact h1
    have hround : ∀ i x' u W2, J i W2 → xs[i]? = some x' → Rel (fun _ => none) noPl x' u → YieldAt Fence.wide 0 P (w.heap.size + 1) #[u] W2 fun e W3 => e = .returned (.bool true) ∧ J (i + 1) W3 := by
      rintro i x' u W2 ⟨g1, g2, H', F', pl', g3, g4, g5, g6, g7, g8⟩ hx hu
      have hy := run_yield (P := P) (args := #[u]) g1 (by rw [hrec]; rfl)
      rw [hrec] at hy
      refine ⟨fn, _, asg, body, hy, roundIn_of_wpIn trivial ?_⟩
      have hdrop : xs.drop i = x' :: xs.drop (i + 1) := by
        have hi : i < xs.length := (List.getElem?_eq_some_iff.1 hx).1
        rw [List.drop_eq_getElem_cons hi]
        rw [List.getElem?_eq_getElem hi] at hx
        cases hx; rfl
      rw [hdrop] at g3
      simp only [rangeIt] at g3
      rw [← hstep] at g3
      have hW : Wide (Fence.wide.inRound (w.heap.size + 1)) := .inr ⟨_, rfl⟩
      have hu' : Rel F' pl' x' u := hu.mono (fun a b hab => by cases hab) (fun a b hab => by cases hab)
      have henv : EnvRel N F' pl' (putE env (some p) x') ((#[p].zip #[u]).foldl (fun tmps (t, a) => tmps.setIfInBounds t a) a.tmps) := by
        have := EnvRel.put (a := a) (h.env.mono g5.leF g6) (some p) (fun d e => by cases e; exact hpN) hu'
        simpa [Act.put] using this
      refine evC_sound (m := 0) hmix hit hT hc x _ true hW (fun e => by cases e) H.length F' pl' H' W2 W2 asg hasg _ _ _ _ ⟨?_, fun id env H a w he => (by simp at he), fun env H a w he => (by simp at he)⟩ _ _ _ _ g3
        ⟨[], F', pl', ⟨g4, henv, rfl, Stp.refl _ _ _ _, fun j p _ hp => hp⟩, ⟨fun d hd => (by cases hd), List.Pairwise.nil, Nat.le_refl _⟩⟩
      rintro env3 H3 a3 w3 he3 ⟨dz3, F3, pl3, c3, d3⟩
      have lsame : ∀ {b : Nat} {o}, W2.heap[b]? = some o → ¬ Own pl' H' b → w3.heap[b]? = some o := fun {b o} hb hn => (c3.stp.fr.block b (Array.getElem?_eq_some_iff.1 hb).1 hn).trans hb
      have hl3 := lsame g1 g7
      have hk3 := lsame g2 g8
      have hn3 : ∀ {b : Nat} {o}, W2.heap[b]? = some o → ¬ Own pl' H' b → ¬ Own pl3 H3 b := fun {b o} hb hn ho => by
        rcases c3.stp.own b ho with h1 | h1
        · exact hn h1
        · have := (Array.getElem?_eq_some_iff.1 hb).1; omega
      have hlt3 : w.heap.size + 1 < w3.heap.size := (Array.getElem?_eq_some_iff.1 hl3).1
      refine ⟨_, run_beginRound hl3 (by rw [hrec]), ?_⟩
      generalize hw4 : w3.putObj (w.heap.size + 1) (.loop { rec .ready none with state := .busy }) = w4
      have h4s : w4.heap.size = w3.heap.size := by rw [← hw4]; simp
      have h4b : ∀ j : Nat, j ≠ w.heap.size + 1 → w4.heap[j]? = w3.heap[j]? := fun j hj => by rw [← hw4]; exact World.putObj_heap_other hj
      have h4l : w4.heap[w.heap.size + 1]? = some (.loop { rec .ready none with state := .busy }) := by rw [← hw4]; exact World.putObj_heap_same hlt3
      have h4k : w4.heap[w.heap.size]? = some (.deferred (some [])) := (h4b _ (by omega)).trans hk3
      have hI4 : Inv F3 pl3 H3 w4 := c3.inv.other h4s h4b (hn3 g1 g7) (ro_ne c3.inv hl3 rfl)
      refine evC_sound (m := 0) hmix hit hT hc y _ true hW (fun e => by cases e) H.length F3 pl3 H3 w4 W2 body hbody _ _ _ _ ⟨?_, fun id env H a w he => (by simp at he), fun env H a w he => (by simp at he)⟩ _ _ _ _ he3
        ⟨dz3, F3, pl3, ⟨hI4, c3.env, c3.defers, Stp.refl _ _ _ _, fun j p _ hp => hp⟩, ?_⟩
      · rintro env5 H5 a5 w5 he5 ⟨dz5, F5, pl5, c5, d5⟩
        rw [hstep] at he5
        have lsame5 : ∀ {b : Nat} {o}, w4.heap[b]? = some o → ¬ Own pl3 H3 b → w5.heap[b]? = some o := fun {b o} hb hn => (c5.stp.fr.block b (Array.getElem?_eq_some_iff.1 hb).1 hn).trans hb
        have hl5 := lsame5 h4l (hn3 g1 g7)
        have hk5 := lsame5 h4k (hn3 g2 g8)
        have hn5 : ∀ {b : Nat} {o}, w4.heap[b]? = some o → ¬ Own pl3 H3 b → ¬ Own pl5 H5 b := fun {b o} hb hn ho => by
          rcases c5.stp.own b ho with h1 | h1
          · exact hn h1
          · have := (Array.getElem?_eq_some_iff.1 hb).1; omega
        have hend := run_endRound (P := P) none hl5
        refine ⟨_, _, hend, rfl, ?_⟩
        have hlt5 : w.heap.size + 1 < w5.heap.size := (Array.getElem?_eq_some_iff.1 hl5).1
        have hob : ∀ j : Nat, j ≠ w.heap.size + 1 → (w5.putObj (w.heap.size + 1) (.loop (rec .ready none))).heap[j]? = w5.heap[j]? := fun j hj => World.putObj_heap_other hj
        have hbase : Stp F pl H w F5 pl5 H5 w5 := by
          have s3 : Stp F pl H w F3 pl3 H3 w3 := g5.trans c3.stp
          have s4 : Stp F pl H w F3 pl3 H3 w4 := s3.other (b := w.heap.size + 1) (by omega) (by rw [← hw4]; rfl) (by rw [← hw4]; rfl) (by rw [← hw4]; rfl) h4s h4b
          exact s4.trans c5.stp
        have goal : J (i + 1) (w5.putObj (w.heap.size + 1) (.loop (rec .ready none))) := by
          refine ⟨World.putObj_heap_same hlt5, (hob _ (by omega)).trans hk5, H5, F5, pl5, he5, c5.inv.other (by simp) hob (hn5 h4l (hn3 g1 g7)) (ro_ne c5.inv hl5 rfl), hbase.other (b := w.heap.size + 1) (by omega) rfl rfl rfl (by simp) hob, fun j q hq => ?_, hn5 h4l (hn3 g1 g7), hn5 h4k (hn3 g2 g8)⟩
          have hj := h.inv.lt hq
          exact c5.keep j q hj (c3.keep j q hj (g6 j q hq))
        rw [hrec] at goal ⊢
        exact goal
      · exact ⟨fun d hdm => by
          obtain ⟨D, e, hD, hn, hle⟩ := d3.each d hdm
          have hne : D ≠ w.heap.size + 1 := fun e' => by rw [e', hl3] at hD; cases hD
          exact ⟨D, e, (h4b D hne).trans hD, hn, hle⟩, d3.nodup, by rw [h4s]; exact d3.le⟩
    refine ⟨w.heap.size + 1, [{ target := .collected w.heap.size, args := #[] }], W1, { target := .fn (.func gf) lb, args := #[.func (.yield (w.heap.size + 1)) #[] #[]] }, W1, gf,
      #[.func (.yield (w.heap.size + 1)) #[] #[]] ++ lb, W1, ?_, ?_, fun _ _ => trivial, ?_, fun e => (by cases e), ?_⟩
    · rw [← hW1, hrec]; exact run_enterLoop_outer _ _ _ _ _
    · simp only [resolve, hg]
      simp [go_sem]
    · simp [invoke]
      exact hent.run _ _
    · refine Wide.calls (.inl rfl) (Calls.mono (hIter (w.heap.size + 1) J W1 hfr1.size (fun j hj => hfr1.block j hj fun e => e) hJfr hround hJ0) ?_)
      rintro e W2 ⟨⟨v, rfl⟩, g1, g2, H', F', pl', g3, g4, g5, g6, g7, g8⟩
      have hend : (Instr.endLoop (w.heap.size + 1)).run P W2 = .ok none (W2.putObj (w.heap.size + 1) (.loop { state := .exhausted, pending := none, fn, tmps := a.tmps, params := #[p], assign := asg, body, defers := w.heap.size })) := by
        have := run_endLoop (P := P) g1 (by rw [hrec]; simp)
        rw [hrec] at this
        exact this
      have hlt : w.heap.size + 1 < W2.heap.size := (Array.getElem?_eq_some_iff.1 g1).1
      refine ⟨none, _, hend, ?_⟩
      have hob : ∀ (o : Obj) (j : Nat), j ≠ w.heap.size + 1 → (W2.putObj (w.heap.size + 1) o).heap[j]? = W2.heap[j]? := fun o j hj => World.putObj_heap_other hj
      have g3' : K env H' = some r := by simpa [rangeIt] using g3
      refine hQ.normal env H' _ _ g3' ⟨{ target := .collected w.heap.size, args := #[] } :: dz, F', pl', ⟨g4.other (by simp) (hob _) g7 (ro_ne g4 g1 rfl), h.env.mono g5.leF g6, by simp [h.defers],
        h.stp.trans (g5.other (b := w.heap.size + 1) (by omega) rfl rfl rfl (by simp) (hob _)), fun j q hj hq => g6 j q (h.keep j q hj hq)⟩, ?_⟩
      have hdz := hd.stp (g5.other (W' := W2.putObj (w.heap.size + 1) (.loop { state := .exhausted, pending := none, fn, tmps := a.tmps, params := #[p], assign := asg, body, defers := w.heap.size })) (b := w.heap.size + 1) (by omega) rfl rfl rfl (by simp) (hob _))
      refine ⟨fun d hdm => ?_, List.Pairwise.cons (fun d hdm e => ?_) hd.nodup, hdz.le⟩
      · rcases List.mem_cons.1 hdm with rfl | hdm
        · exact ⟨w.heap.size, rfl, (hob _ _ (by omega)).trans g2, g8, hd.le⟩
        · have := hdz.each d hdm
          simpa [hrec] using this
      · obtain ⟨D, e1, hD, _⟩ := hd.each d hdm
        have := (Array.getElem?_eq_some_iff.1 hD).1
        rw [e1] at e
        cases e
        omega
where
  wpIn_loop_ghost' {Fn : Fence} {m : Nat} {Q : Exit → Act → World → Prop} {a : Act} {w : World} {c : Code} (I : Nat → Act → World → Prop) (n₀ : Nat) (h₀ : I n₀ a w)
    (round : ∀ n a w, I n a w → c.wpIn Fn m P (Exit.then (fun a' w' => ∃ n', n' < n ∧ I n' a' w') Q) a w) : (Code.loop c).wpIn Fn m P Q a w := by
    refine wpIn_loop (fun a w => ∃ n, I n a w) (fun a w => leastOf (fun n => I n a w)) ⟨n₀, h₀⟩ ?_
    intro a w hI
    refine wpIn_mono (round _ a w (leastOf_spec hI).1) ?_
    intro e a' w' hq
    cases e with
    | normal =>
      obtain ⟨n', hlt, hI'⟩ := hq
      exact show (∃ n, I n a' w') ∧ leastOf (fun n => I n a' w') < leastOf (fun n => I n a w) from ⟨⟨n', hI'⟩, Nat.lt_of_le_of_lt ((leastOf_spec ⟨n', hI'⟩).2 n' hI') hlt⟩
    | exit id => exact hq
    | goto l => exact hq
    | ret => exact hq
    | panic ch => exact hq
    | outgrown => exact hq
end
section
variable {P : Program} {T : Tab} {F F0 : RoT} {pl pl0 : PlT} {H H0 : Heap} {w w0 : World} {N k : Nat} {env : Env} {a : Act} {call : CallF} {it : IterF} {dz : List Deferred}
def okR (T : Tab) : ResultVar → ARes → Bool
  | .tmp t, .t t' => t == t'
  | .cell p t, .cell p' agg n => p == p' && hasT T t (fun s => s.kind.agg == agg && s.size == n && (agg || n == 1))
  | _, _ => false
def okRs (T : Tab) : List ResultVar → List ARes → Bool
  | [], [] => true
  | x :: xs, y :: ys => okR T x y && okRs T xs ys
  | _, _ => false
def resSem (tmps : Array Value) : ResultVar → Sem Value
  | .tmp t => pure (tmps.getD t undef)
  | .cell a t => do loadVar t (← asAddr (tmps.getD a undef))
theorem ress_sound (hT : TOk P T) (hI : Inv F pl H w) (he : EnvRel N F pl env a.tmps) : ∀ (rs : List ResultVar) (ars : List ARes) (vs : List AV), okRs T rs ars = true → ress env H ars = some vs →
    ∃ us : List Value, RelL F pl vs us ∧ (rs.mapM (resSem a.tmps)).run P w = .ok us w
  | [], [], vs, _, h => by simp [ress] at h; subst h; exact ⟨[], .nil, rfl⟩
  | x :: xs, y :: ys, vs, hok, h => by
    simp only [okRs, Bool.and_eq_true] at hok
    simp only [ress, Option.bind_eq_some_iff, Option.map_eq_some_iff] at h
    obtain ⟨v, hv, vs', hvs, rfl⟩ := h
    obtain ⟨us, h1, h2⟩ := ress_sound hT hI he xs ys vs' hok.2 hvs
    have one : ∃ u, Rel F pl v u ∧ (resSem a.tmps x).run P w = .ok u w := by
      have hx := hok.1
      unfold okR at hx
      split at hx
      · simp only [beq_iff_eq] at hx
        subst hx
        simp only [resOf, Option.some.injEq] at hv
        subst hv
        exact ⟨_, he.rel _, rfl⟩
      · rename_i p t p' agg n
        simp only [Bool.and_eq_true, beq_iff_eq] at hx
        obtain ⟨rfl, hx⟩ := hx
        obtain ⟨s, hs, hx⟩ := hasT_inv hx
        simp only [Bool.and_eq_true, beq_iff_eq, Bool.or_eq_true] at hx
        obtain ⟨⟨rfl, rfl⟩, hn⟩ := hx
        obtain ⟨f⟩ := tfact hT hs
        simp only [resOf] at hv
        obtain ⟨u, hu, hr⟩ := ld_sound f hI (he.rel p) (fun ha => by rw [ha] at hn; simpa using hn) hv
        refine ⟨u, hr, ?_⟩
        simp only [Option.bind_eq_some_iff] at hv
        obtain ⟨cs, hcs, _⟩ := hv
        obtain ⟨b, o, hp, _⟩ := ldc_sound hI (he.rel p) hcs
        rw [hp] at hu
        simp only [resSem, hp, asAddr, Sem.run_bind, Sem.run_pure, Result.andThen_ok]
        simpa [Instr.loadAt, Instr.sureAddr] using hu
      · cases hx
    obtain ⟨u, hu, hur⟩ := one
    exact ⟨u :: us, h1.cons hu, by simp [hur, h2]⟩
  | [], _ :: _, _, hok, _ => by simp [okRs] at hok
  | _ :: _, [], _, hok, _ => by simp [okRs] at hok
def okF (T : Tab) (fn : Func) (af : AFunc) : Bool :=
  (match fn.body with
    | some c => okC T fn.ntmps false c af.body
    | none => false) && okRs T fn.results.toList af.res && decide (af.np ≤ fn.ntmps) && !(fn.name == "runtime.NumGoroutine")
theorem envOf_look : ∀ (vs : List AV) (i s : Nat), look (envOf i vs) s = if i ≤ s then vs.getD (s - i) .undef else .undef
  | [], i, s => by simp [envOf, look]
  | v :: vs, i, s => by
    simp only [envOf, look]
    by_cases e : i = s
    · subst e; simp
    · rw [if_neg e, envOf_look vs (i + 1) s]
      by_cases h : i + 1 ≤ s
      · rw [if_pos h, if_pos (by omega), show s - i = (s - (i + 1)) + 1 by omega]
        simp
      · rw [if_neg h, if_neg (by omega)]
theorem initEnv {args : List AV} {us : List Value} (hr : RelL F pl args us) {n : Nat} (hn : args.length ≤ n) : EnvRel n F pl (envOf 0 args) (us.toArray ++ Array.replicate (n - us.toArray.size) undef) := by
  have hl := hr.1
  refine ⟨by simp; omega, fun s => ?_⟩
  rw [envOf_look, if_pos (Nat.zero_le s), Nat.sub_zero]
  rcases Nat.lt_or_ge s args.length with h | h
  · obtain ⟨v, hv, hrv⟩ := hr.get (List.getElem?_eq_getElem h)
    rw [List.getD_eq_getElem?_getD, List.getElem?_eq_getElem h]
    have : (us.toArray ++ Array.replicate (n - us.toArray.size) undef).getD s undef = v := by
      rw [Array.getD_eq_getD_getElem?, Array.getElem?_append_left (by simp; omega)]
      simp [hv]
    rw [this]
    exact hrv
  · rw [List.getD_eq_getElem?_getD, List.getElem?_eq_none h]
    exact .undef _
theorem evFn_sound (hmix : P.follows .mixedOrders = true) (hit : ItOk P it) (hT : TOk P T) (hc : CallOk P call) {n : Nat} {f : Nat} {fn : Func} {af : AFunc} (hf : P.funcs[f]? = some fn) (hok : okF T fn af = true) {args : List AV} {v : AV} {H' : Heap}
    (hev : evFn call it n af args H = some (v, H')) : Entry P f ∧ ∀ F pl w us, Inv F pl H w → RelL F pl args us → Calls P f us.toArray w (Post F pl H w v H') := by
  simp only [okF, Bool.and_eq_true, decide_eq_true_eq, Bool.not_eq_true'] at hok
  obtain ⟨⟨⟨hb, hres⟩, hnp⟩, hname⟩ := hok
  split at hb
  · rename_i c hbody
    refine ⟨⟨fn, hf, by simp [hbody], hname⟩, fun F pl w us hI hr => ?_⟩
    unfold evFn at hev
    split at hev
    · rename_i hlen
      have fin : ∀ env H1 a w1 dz, finish H.length af.res env H1 = some (v, H') → At fn.ntmps H.length dz F pl H w env H1 a w1 → ∃ u, (results fn a.tmps).run P w1 = .ok u w1 ∧ Post F pl H w v H' (.returned u) w1 := by
        rintro env H1 a w1 dz hfin ⟨F1, pl1, h⟩
        simp only [finish, Option.bind_eq_some_iff, Option.some.injEq, Prod.mk.injEq] at hfin
        obtain ⟨vs, hvs, ⟨vs1, H2⟩, hg, rfl, rfl⟩ := hfin
        obtain ⟨us, h1, h2⟩ := ress_sound hT h.inv h.env fn.results.toList af.res vs hres hvs
        have hrun : (results fn a.tmps).run P w1 = .ok (if h : us.toArray.size = 1 then us.toArray[0] else .tuple us.toArray) w1 := by
          have key : ∀ xs : Array ResultVar, (xs.toList.mapM (resSem a.tmps)).run P w1 = .ok us w1 → (xs.mapM (resSem a.tmps)).run P w1 = .ok us.toArray w1 := by
            rintro ⟨l⟩ hl
            rw [List.mapM_toArray]
            have hl : (l.mapM (resSem a.tmps)).run P w1 = .ok us w1 := hl
            simp [hl]
          have e2 : results fn a.tmps = (do let vs ← fn.results.mapM (resSem a.tmps); pure (if h : vs.size = 1 then vs[0] else .tuple vs)) := by
            unfold results
            congr 1
          rw [e2, Sem.run_bind, key _ h2]
          rfl
        have hrel : Rel F1 pl1 (tupOf vs) (if h : us.toArray.size = 1 then us.toArray[0] else .tuple us.toArray) := by
          have hl := h1.1
          unfold tupOf
          split
          · obtain ⟨u, r, rfl, g1, g2⟩ := h1.uncons
            rw [g2.nil_inv]
            simpa using g1
          · rename_i hne
            have : us.toArray.size ≠ 1 := fun e => by
              obtain ⟨x, hx⟩ : ∃ x, vs = [x] := List.length_eq_one_iff.1 (by simpa [hl] using e)
              exact hne x hx
            rw [dif_neg this]
            exact rel_tup_iff.2 ⟨_, rfl, by simpa using h1⟩
        obtain ⟨pl2, g1, g2, g3, g4⟩ := h.gc (vs := [tupOf vs]) (us := [_]) (RelL.nil.cons hrel) hg
        refine ⟨_, hrun, _, F1, pl2, rfl, ?_, g1, g3, fun j p hp => g4 j p (hI.lt hp) hp⟩
        obtain ⟨y, rfl, hy⟩ := rel1 g2
        simpa using hy
      have leave : ∀ (ds : List Deferred) env H1 a w1 F1 pl1, finish H.length af.res env H1 = some (v, H') → Cfg fn.ntmps H.length a.defers F pl H w env H1 a w1 F1 pl1 → DefsOk ds w pl1 H1 w1 →
          LeavesInM Fence.wide 0 P fn a.tmps (Post F pl H w v H') ds .returning w1 := by
        intro ds
        induction ds with
        | nil =>
          intro env H1 a w1 F1 pl1 hfin h _
          exact fin env H1 a w1 _ hfin ⟨F1, pl1, h⟩
        | cons d ds ih =>
          intro env H1 a w1 F1 pl1 hfin h hd
          obtain ⟨D, e, hD, hn, hle⟩ := hd.each d (by simp)
          refine ⟨by simp, .inl ⟨D, _, by rw [e], run_takeDeferred hD, ?_⟩⟩
          have hlt : D < w1.heap.size := (Array.getElem?_eq_some_iff.1 hD).1
          have hob : ∀ j : Nat, j ≠ D → (w1.putObj D (.deferred none)).heap[j]? = w1.heap[j]? := fun j hj => World.putObj_heap_other hj
          refine ih env H1 a _ F1 pl1 hfin ⟨h.inv.other (by simp) hob hn (ro_ne h.inv hD rfl), h.env, h.defers, h.stp.other hle rfl rfl rfl (by simp) hob, h.keep⟩ ⟨fun d' hd' => ?_, (List.pairwise_cons.1 hd.nodup).2, by simpa using hd.le⟩
          obtain ⟨D', e', hD', hn', hle'⟩ := hd.each d' (List.mem_cons_of_mem _ hd')
          have hne : D' ≠ D := fun e'' => (List.pairwise_cons.1 hd.nodup).1 d' hd' (by rw [e, e', e''])
          exact ⟨D', e', (hob D' hne).trans hD', hn', hle'⟩
      refine (callsIn_wide (n := 0)).1 (callsIn_of_wp_marks hf hbody trivial ?_)
      refine evC_sound hmix hit hT hc af.body Fence.wide false (.inl rfl) (fun _ => rfl) H.length F pl H w w c hb (finish H.length af.res) (fun _ _ _ => none) (finish H.length af.res) _ ⟨?_, ?_, ?_⟩ (envOf 0 args) H _ w hev
        ⟨[], F, pl, ⟨hI, initEnv hr (by omega), rfl, Stp.refl _ _ _ _, fun j p _ hp => hp⟩, ⟨fun d hd => (by cases hd), List.Pairwise.nil, Nat.le_refl _⟩⟩
      · rintro env H1 a w1 he ⟨dz, F1, pl1, h, hd⟩
        have e := h.defers
        subst e
        exact leave a.defers env H1 a w1 F1 pl1 he h hd
      · intro id env H1 a w1 he
        cases he
      · rintro env H1 a w1 he ⟨dz, F1, pl1, h, hd⟩
        have e := h.defers
        subst e
        exact leave a.defers env H1 a w1 F1 pl1 he h hd
    · cases hev
  · cases hb
def TabOk (P : Program) (T : Tab) (tab : Nat → Option AFunc) : Prop := ∀ f af, tab f = some af → ∃ fn, P.funcs[f]? = some fn ∧ okF T fn af = true
theorem evF_sound (hmix : P.follows .mixedOrders = true) (hit : ItOk P it) (hT : TOk P T) {tab : Nat → Option AFunc} (ht : TabOk P T tab) : ∀ n, CallOk P (evF tab it n)
  | 0 => fun f args H v H' h => by simp [evF] at h
  | n + 1 => fun f args H v H' h => by
    simp only [evF, Option.bind_eq_some_iff] at h
    obtain ⟨af, ha, h⟩ := h
    obtain ⟨fn, hf, hok⟩ := ht f af ha
    exact evFn_sound hmix hit hT (evF_sound hmix hit hT ht n) hf hok h
end
section
variable {P : Program} {T : Tab} {F F0 : RoT} {pl pl0 : PlT} {H H0 : Heap} {w w0 : World} {N k : Nat} {env : Env} {a : Act} {call : CallF} {it : IterF} {dz : List Deferred}
def plY (l : Nat) : PlT := fun i => if i = 0 then some ⟨l, 0, 0⟩ else none
theorem Inv.yl {l : Nat} (h : ∀ a v, F a = some v → w.cell? a = some v) : Inv F (plY l) [Option.none] w := by
  have hn : ∀ i, ¬ live [Option.none] i := fun i ⟨o, ho⟩ => by
    cases i with
    | zero => simp at ho
    | succ i => simp at ho
  exact Inv.of_objs (fun i hi => by simp at hi; simp only [plY]; rw [if_neg (by omega)]) (fun i o hi => absurd ⟨o, hi⟩ (hn i)) (fun i j p q hi => absurd hi (hn i)) h fun a v i p _ hi => absurd hi (hn i)
theorem envNoRd_look : ∀ {env : Env} (s : Nat), envNoRd env = true → (look env s).hasRd = false
  | [], s, _ => rfl
  | (t, v) :: r, s, h => by
    simp only [envNoRd, Bool.and_eq_true, Bool.not_eq_true'] at h
    simp only [look]
    split
    · exact h.1
    · exact envNoRd_look s h.2
structure GY (N l : Nat) (xs : List AV) (J : Nat → World → Prop) (rem : List AV) (env : Env) (H : Heap) (a : Act) (w : World) : Prop where
  heap : H = [none]
  env : ∃ F : RoT, EnvRel N F (plY l) env a.tmps ∧ ∀ a v, F a = some v → w.cell? a = some v
  defers : a.defers = []
  at_ : ∃ i, rem = xs.drop i ∧ i ≤ xs.length ∧ J i w
def okIY (T : Tab) (N : Nat) (ops : Array Oper) (o : Oper) (i : AI) : Bool :=
  match i.op with
  | .inr .yld => o.dst == i.dst && (match i.dst with
    | none => true
    | some d => decide (d < N)) && okG ops o.guard i.guard && (match o.op with
    | .call ⟨.value g, args, _⟩ => args.size == 1 && okOs (g :: args.toList) i.xs
    | _ => false)
  | .inr _ => false
  | .inl _ => okI T N ops o i
def okSeqY (T : Tab) (N : Nat) (ops : Array Oper) : List Oper → List AI → Bool
  | [], [] => true
  | o :: os, i :: is => okIY T N ops o i && okSeqY T N ops os is
  | _, _ => false
def okCY (T : Tab) (N : Nat) : Code → AC → Bool
  | c, .pre _ c' => okCY T N c c'
  | .skip, .skip => true
  | .ret, .ret => true
  | .region _ ops draw, .reg is _ => !draw && okSeqY T N ops ops.toList is
  | .seq a b, .seq a' b' => okCY T N a a' && okCY T N b b'
  | .cond c a b, .cond c' a' b' => okO c c' && okCY T N a a' && okCY T N b b'
  | .block id c, .block id' c' => id == id' && okCY T N c c'
  | .loop c, .loop c' => okCY T N c c'
  | .exit id, .exit id' => id == id'
  | _, _ => false
variable {l : Nat} {xs : List AV} {J : Nat → World → Prop}
theorem GY.put {rem : List AV} (h : GY N l xs J rem env H a w) {dst : Option Nat} (hd : ∀ d, dst = some d → d < N) {v : AV} {u : Value} (hr : ∀ F, EnvRel N F (plY l) env a.tmps → (∀ a v, F a = some v → w.cell? a = some v) → Rel F (plY l) v u) :
    GY N l xs J rem (putE env dst v) H (a.put dst u) w := by
  obtain ⟨F, he, hF⟩ := h.env
  exact ⟨h.heap, ⟨F, he.put dst hd (hr F he hF), hF⟩, (put_defers _ _ _).trans h.defers, h.at_⟩
theorem yld_sound (hJ : ∀ i x u W1, J i W1 → xs[i]? = some x → Rel (fun _ => none) noPl x u → YieldAt Fence.wide 0 P l #[u] W1 fun e W2 => e = .returned (.bool true) ∧ J (i + 1) W2)
    {rem : List AV} (h : GY N l xs J rem env H a w) {o : Oper} {i : AI} {g : Operand} {args : Array Operand} {ats : Array TypeId} (ho : o.op = .call ⟨.value g, args, ats⟩) (hsz : args.size = 1) (hx : okOs (g :: args.toList) i.xs = true)
    (hd : o.dst = i.dst) (hN : ∀ d, i.dst = some d → d < N) {K : KT} (hev : yldV K env i.dst (opds env i.xs) = some (.tup rem, [none])) :
    ∃ rem' v, K (putE env i.dst v) [none] = some (.tup rem', [none]) ∧ ∀ (KK : Act → World → Prop) (Q : Exit → Act → World → Prop),
      (∀ a' w', GY N l xs J rem' (putE env i.dst v) [none] a' w' → KK a' w') → o.wpIn Fence.wide 0 P a w KK Q := by
  obtain ⟨F, he, hF⟩ := h.env
  obtain ⟨p, rfl⟩ := size_one hsz
  obtain ⟨z, x, e, h1, h2⟩ := rel2 (okOs_rel he hx)
  rw [e] at hev
  cases z <;> try (simp [yldV] at hev; done)
  rename_i id
  simp only [yldV] at hev
  split at hev
  · rename_i hc
    simp only [Bool.and_eq_true, Bool.not_eq_true'] at hc
    obtain ⟨⟨hf, hrd⟩, henv⟩ := hc
    simp only [Option.bind_eq_some_iff] at hev
    obtain ⟨⟨v, H1⟩, hK, hev⟩ := hev
    dsimp only at hev
    split at hev
    · rename_i ys
      simp only [Option.some.injEq, Prod.mk.injEq, AV.tup.injEq] at hev
      obtain ⟨hrem, rfl⟩ := hev
      refine ⟨ys, .bool true, hK, fun KK Q hKK => ?_⟩
      obtain ⟨j, hj, hjl, hJj⟩ := h.at_
      have hlt : j < xs.length := by
        rcases Nat.lt_or_ge j xs.length with h' | h'
        · exact h'
        · rw [List.drop_eq_nil_of_le h'] at hj
          rw [← hrem] at hj; cases hj
      rw [List.drop_eq_getElem_cons hlt, ← hrem] at hj
      simp only [List.cons.injEq] at hj
      obtain ⟨hx0, hys⟩ := hj
      generalize hyv : a.eval g = yv at h1
      cases h1 with
      | yl hp =>
        have : id = 0 := by
          simp only [plY] at hp
          split at hp
          · assumption
          · cases hp
        subst this
        simp only [plY, if_true, Option.some.injEq] at hp
        subst hp
        obtain ⟨fn, tmps, asg, body, hrun, hround⟩ := hJ j x (a.eval p) w hJj (by rw [List.getElem?_eq_getElem hlt, hx0]) ((h2.noRd hrd).free hf)
        refine ⟨fun f _ => trivial, ?_⟩
        rw [Oper.semAt_eq _ _ _ (fun c e => by rw [ho] at e; cases e)]
        have hex : (execOp a.eval o).run P w = .ok (.round l fn tmps asg body) w := by
          simp only [execOp, ho, resolve, hyv, Deferred.ofValue, Sem.run_bind, Sem.run_pure, Result.andThen_ok, invoke]
          simpa using hrun
        rw [hex, Oper.uponIn_round]
        refine ⟨fun e => (by cases e), hround.mono fun e w' ⟨he', hJ'⟩ => ?_⟩
        subst he'
        refine hKK _ _ ?_
        rw [hd]
        refine ⟨rfl, ⟨fun _ => none, EnvRel.put ⟨he.size, fun s => (he.rel s).noRd (envNoRd_look s henv)⟩ i.dst hN (.bool true), fun a v hv => by cases hv⟩, (put_defers _ _ _).trans h.defers, j + 1, hys, hlt, hJ'⟩
    · cases hev
  · cases hev
theorem seqY_sound (hT : TOk P T) (hJ : ∀ i x u W1, J i W1 → xs[i]? = some x → Rel (fun _ => none) noPl x u → YieldAt Fence.wide 0 P l #[u] W1 fun e W2 => e = .returned (.bool true) ∧ J (i + 1) W2)
    {ops : Array Oper} {K : KT} {Q : Exit → Act → World → Prop} (hQ : ∀ rem env H a w, K env H = some (.tup rem, [none]) → GY N l xs J rem env H a w → Q .normal a w) :
    ∀ (os : List Oper) (is : List AI) (j : Nat) (rem : List AV) (env : Env) (H : Heap) (a : Act) (w : World), okSeqY T N ops os is = true → (∀ m, ops[j + m]? = os[m]?) → evRY is K env H = some (.tup rem, [none]) → GY N l xs J rem env H a w →
      wpOpsIn Fence.wide 0 P ops Q (List.range' j os.length) a w
  | [], [], j, rem, env, H, a, w, _, _, hev, hA => by
    simp only [evRY] at hev
    exact hQ rem env H a w hev hA
  | o :: os, i :: is, j, rem, env, H, a, w, hok, hops, hev, h => by
    simp only [okSeqY, Bool.and_eq_true] at hok
    simp only [evRY] at hev
    have ho : ops[j]? = some o := by simpa using hops 0
    simp only [List.length_cons, List.range'_succ, wpOpsIn, ho]
    have next : ∀ rem' v H', evRY is K (putE env i.dst v) H' = some (.tup rem', [none]) → ∀ a' w', GY N l xs J rem' (putE env i.dst v) H' a' w' → wpOpsIn Fence.wide 0 P ops Q (List.range' (j + 1) os.length) a' w' :=
      fun rem' v H' hk a' w' hg => seqY_sound hT hJ hQ os is (j + 1) rem' _ _ a' w' hok.2 (fun m => by rw [show j + 1 + m = j + (m + 1) by omega, hops]; simp) hk hg
    obtain ⟨F, he, hF⟩ := h.env
    have hH := h.heap
    subst hH
    have hi := hok.1
    unfold okIY at hi
    unfold evIY at hev
    split at hi
    · rename_i hop
      simp only [Bool.and_eq_true, beq_iff_eq] at hi
      obtain ⟨⟨⟨hd, hN⟩, hg⟩, hcall⟩ := hi
      have hN' : ∀ d, i.dst = some d → d < N := fun d e => by rw [e] at hN; simpa using hN
      have hw := wanted_of (F := F) (pl := plY l) (env := env) (fun s b _ => he.rel s) hg
      rw [hop] at hev
      dsimp only at hev
      split at hcall
      · rename_i g args ats hoop
        simp only [Bool.and_eq_true, beq_iff_eq] at hcall
        split at hev
        · rename_i hgd
          obtain ⟨rem', v, hk, hwp⟩ := yld_sound hJ h hoop hcall.1 hcall.2 hd hN' hev
          rw [if_pos (hw.1 hgd)]
          exact hwp _ Q fun a' w' hg => next rem' v _ hk a' w' hg
        · rename_i s b hgd
          simp only [Option.bind_eq_some_iff] at hev
          obtain ⟨c, hc, hev⟩ := hev
          rw [hw.2 s b hgd c hc]
          split at hev
          · rename_i e
            obtain ⟨rem', v, hk, hwp⟩ := yld_sound hJ h hoop hcall.1 hcall.2 hd hN' hev
            rw [if_pos e]
            exact hwp _ Q fun a' w' hg => next rem' v _ hk a' w' hg
          · rename_i e
            rw [if_neg e]
            exact ⟨fun f _ => trivial, next rem _ _ hev _ _ (by rw [hd]; exact h.put hN' fun F he hF => rel_undef)⟩
      · cases hcall
    · cases hi
    · rename_i p hop
      have hi' := hi
      simp only [okI, Bool.and_eq_true, beq_iff_eq] at hi'
      obtain ⟨⟨⟨hd, hN⟩, hg⟩, hpp⟩ := hi'
      rw [hop] at hpp hev
      dsimp only at hev
      have hN' : ∀ d, i.dst = some d → d < N := fun d e => by rw [e] at hN; simpa using hN
      have hw := wanted_of (F := F) (pl := plY l) (env := env) (fun s b _ => he.rel s) hg
      have go : ∀ v, evP [none] p (opds env i.xs) = some v → evRY is K (putE env i.dst v) [none] = some (.tup rem, [none]) → o.wpIn Fence.wide 0 P a w (wpOpsIn Fence.wide 0 P ops Q (List.range' (j + 1) os.length)) Q := fun v hv hk => by
        refine Out.wpIn (.inl rfl) (Yields1.out (F := F) (pl := plY l) (K := fun u w' => Rel F (plY l) v u ∧ w' = w) (evP_sound hT (Inv.yl hF) (he.opd _) hpp hv) fun u hu => ⟨hu, rfl⟩) (okP_defer hpp) fun u w' ⟨hu, e⟩ => ?_
        subst e
        refine next rem v _ hk _ _ ?_
        rw [hd]
        exact ⟨h.heap, ⟨F, he.put _ hN' hu, hF⟩, (put_defers _ _ _).trans h.defers, h.at_⟩
      split at hev
      · rename_i hgd
        simp only [Option.bind_eq_some_iff] at hev
        obtain ⟨v, hv, hk⟩ := hev
        rw [if_pos (hw.1 hgd)]
        exact go v hv hk
      · rename_i s b hgd
        simp only [gdV, Option.bind_eq_some_iff] at hev
        obtain ⟨v, ⟨c, hc, hv⟩, hk⟩ := hev
        rw [hw.2 s b hgd c hc]
        split at hv
        · rename_i e
          rw [if_pos e]
          exact go v hv hk
        · rename_i e
          cases hv
          rw [if_neg e]
          exact ⟨fun f _ => trivial, next rem _ _ hk _ _ (by rw [hd]; exact h.put hN' fun F he hF => rel_undef)⟩
  | [], _ :: _, _, _, _, _, _, _, hok, _, _, _ => by simp [okSeqY] at hok
  | _ :: _, [], _, _, _, _, _, _, hok, _, _, _ => by simp [okSeqY] at hok
structure QY (N l : Nat) (xs : List AV) (J : Nat → World → Prop) (K : KT) (X : Nat → KT) (Rt : KT) (Q : Exit → Act → World → Prop) : Prop where
  normal : ∀ rem env H a w, K env H = some (.tup rem, [none]) → GY N l xs J rem env H a w → Q .normal a w
  exit : ∀ id rem env H a w, X id env H = some (.tup rem, [none]) → GY N l xs J rem env H a w → Q (.exit id) a w
  ret : ∀ rem env H a w, Rt env H = some (.tup rem, [none]) → GY N l xs J rem env H a w → Q .ret a w
theorem evCY_sound (hT : TOk P T) (hJ : ∀ i x u W1, J i W1 → xs[i]? = some x → Rel (fun _ => none) noPl x u → YieldAt Fence.wide 0 P l #[u] W1 fun e W2 => e = .returned (.bool true) ∧ J (i + 1) W2) {n : Nat} :
    ∀ (ac : AC) (c : Code), okCY T N c ac = true → ∀ (K : KT) (X : Nat → KT) (Rt : KT) (Q : Exit → Act → World → Prop),
    QY N l xs J K X Rt Q → ∀ (rem : List AV) (env : Env) (H : Heap) (a : Act) (w : World), evCY n ac K X Rt env H = some (.tup rem, [none]) → GY N l xs J rem env H a w → c.wpIn Fence.wide 0 P Q a w
  | .pre live ac, c, hok, K, X, Rt, Q, hQ, rem, env, H, a, w, hev, h => by
    have hok : okCY T N c ac = true := by cases c <;> simpa [okCY] using hok
    simp only [evCY] at hev
    refine evCY_sound hT hJ ac c hok K X Rt Q hQ rem _ _ a w hev ⟨h.heap, ?_, h.defers, h.at_⟩
    obtain ⟨F, he, hF⟩ := h.env
    refine ⟨F, ⟨he.size, fun s => ?_⟩, hF⟩
    rcases bindEnv_look live 0 (looks env live) s with e | ⟨j, e1, e2⟩
    · rw [e]; exact .undef _
    · rw [e2, Nat.zero_add]
      have hl : (looks env live)[j]? = some (look env s) := looks_get live j s e1
      rw [List.getD_eq_getElem?_getD, hl]
      exact he.rel s
  | .skip, c, hok, K, X, Rt, Q, hQ, rem, env, H, a, w, hev, hA => by
    cases c <;> simp [okCY] at hok
    exact wpIn_skip (hQ.normal _ _ _ _ _ hev hA)
  | .ret, c, hok, K, X, Rt, Q, hQ, rem, env, H, a, w, hev, hA => by
    cases c <;> simp [okCY] at hok
    exact wpIn_ret (hQ.ret _ _ _ _ _ hev hA)
  | .reg is d, c, hok, K, X, Rt, Q, hQ, rem, env, H, a, w, hev, hA => by
    cases c <;> simp [okCY] at hok
    rename_i id ops draw
    obtain ⟨rfl, hok⟩ := hok
    have := seqY_sound hT hJ hQ.normal ops.toList is 0 rem env H a w hok (fun m => by simp) hev hA
    refine wpIn_region ?_
    rw [List.range_eq_range']
    simpa using this
  | .seq x y, c, hok, K, X, Rt, Q, hQ, rem, env, H, a, w, hev, hA => by
    cases c <;> simp [okCY] at hok
    rename_i ca cb
    refine wpIn_seq ?_
    refine evCY_sound hT hJ x ca hok.1 _ X Rt (Exit.then (cb.wpIn Fence.wide 0 P Q) Q) ⟨fun rem env H a w he hA => ?_, fun id rem env H a w he hA => hQ.exit id rem env H a w he hA, fun rem env H a w he hA => hQ.ret rem env H a w he hA⟩ rem env H a w hev hA
    exact evCY_sound hT hJ y _ hok.2 K X Rt Q hQ rem env H a w he hA
  | .cond b x y, c, hok, K, X, Rt, Q, hQ, rem, env, H, a, w, hev, hA => by
    cases c <;> simp [okCY] at hok
    obtain ⟨⟨ho, h1⟩, h2⟩ := hok
    obtain ⟨F, he, hF⟩ := hA.env
    have hr := okO_rel he ho
    simp only [evCY, ifB, Option.bind_eq_some_iff] at hev
    obtain ⟨t, ht, hev⟩ := hev
    have hb : opd env b = .bool t := by
      cases hv : opd env b <;> rw [hv] at ht <;> simp [asB] at ht
      rw [ht]
    rw [hb] at hr
    refine wpIn_cond (rel_bool_inv hr) ?_
    cases t with
    | true => exact evCY_sound hT hJ x _ h1 K X Rt Q hQ rem env H a w (by simpa using hev) hA
    | false => exact evCY_sound hT hJ y _ h2 K X Rt Q hQ rem env H a w (by simpa using hev) hA
  | .block id x, c, hok, K, X, Rt, Q, hQ, rem, env, H, a, w, hev, hA => by
    cases c <;> simp [okCY] at hok
    rename_i cid cb
    obtain ⟨rfl, hok⟩ := hok
    refine wpIn_block ?_
    refine evCY_sound hT hJ x cb hok K _ Rt (Exit.inBlock cid Q) ⟨hQ.normal, fun id' rem env H a w he hA => ?_, hQ.ret⟩ rem env H a w hev hA
    simp only [Exit.inBlock]
    by_cases e : id' = cid
    · rw [if_pos e] at he
      rw [if_pos e]
      exact hQ.normal rem env H a w he hA
    · rw [if_neg e] at he
      rw [if_neg e]
      exact hQ.exit id' rem env H a w he hA
  | .loop x, c, hok, K, X, Rt, Q, hQ, rem, env, H, a, w, hev, hA => by
    cases c <;> simp [okCY] at hok
    simp only [evCY] at hev
    refine evC_sound.wpIn_loop_ghost' (fun j a w => ∃ rem env H, loopIt j (fun K => evCY n x K X Rt) env H = some (.tup rem, [none]) ∧ GY N l xs J rem env H a w) n ⟨rem, env, H, hev, hA⟩ ?_
    rintro j a w ⟨rem, env, H, hev, hA⟩
    cases j with
    | zero => simp [loopIt] at hev
    | succ j =>
      simp only [loopIt] at hev
      exact evCY_sound hT hJ x _ hok _ X Rt (Exit.then (fun a' w' => ∃ n', n' < j + 1 ∧ ∃ rem env H, loopIt n' (fun K => evCY n x K X Rt) env H = some (.tup rem, [none]) ∧ GY N l xs J rem env H a' w') Q) ⟨fun rem env H a w he hA => ⟨j, Nat.lt_succ_self j, rem, env, H, he, hA⟩, hQ.exit, hQ.ret⟩ rem env H a w hev hA
  | .exit id, c, hok, K, X, Rt, Q, hQ, rem, env, H, a, w, hev, hA => by
    cases c <;> simp [okCY] at hok
    subst hok
    exact wpIn_exit (hQ.exit _ _ _ _ _ _ hev hA)
  | .rangeF f p x y, c, hok, K, X, Rt, Q, hQ, rem, env, H, a, w, hev, h => by
    cases c <;> simp [okCY] at hok
  | .fz s j x, c, hok, K, X, Rt, Q, hQ, rem, env, H, a, w, hev, h => by
    cases c <;> simp [okCY] at hok
where
  looks_get : ∀ {env : Env} (live : List Nat) (j s : Nat), live[j]? = some s → (looks env live)[j]? = some (look env s)
    | _, [], j, s, h => by simp at h
    | _, t :: r, 0, s, h => by simp at h; subst h; simp [looks]
    | _, t :: r, j + 1, s, h => by simpa [looks] using looks_get r j s (by simpa using h)
def okFY (T : Tab) (fn : Func) (af : AFunc) : Bool :=
  (match fn.body with
    | some c => okCY T fn.ntmps c af.body
    | none => false) && fn.results.size == 0 && decide (af.np ≤ fn.ntmps) && !(fn.name == "runtime.NumGoroutine")
def TabIOk (P : Program) (T : Tab) (tabI : Nat → Option AFunc) : Prop := ∀ f af, tabI f = some af → ∃ fn, P.funcs[f]? = some fn ∧ okFY T fn af = true
theorem itF_ok (hT : TOk P T) {tabI : Nat → Option AFunc} (ht : TabIOk P T tabI) (n : Nat) : ItOk P (itF tabI n) := by
  intro f H xs h
  cases f <;> try (simp [itF] at h; done)
  rename_i g cap
  simp only [itF, Option.bind_eq_some_iff] at h
  obtain ⟨af, haf, cap', hcap, h⟩ := h
  split at h
  · rename_i hnp
    simp only [Option.bind_eq_some_iff] at h
    obtain ⟨⟨v, H1⟩, hev, h⟩ := h
    dsimp only at h
    split at h
    · rename_i xs
      cases h
      obtain ⟨fn, hf, hok⟩ := ht g af haf
      simp only [okFY, Bool.and_eq_true, beq_iff_eq, decide_eq_true_eq, Bool.not_eq_true'] at hok
      obtain ⟨⟨⟨hb, hres⟩, hnt⟩, hname⟩ := hok
      split at hb
      · rename_i c hbody
        refine ⟨g, cap, rfl, ⟨fn, hf, by simp [hbody], hname⟩, fun F pl w lb hI hr l J W hsz hsame hJfr hJ hJ0 => ?_⟩
        obtain ⟨g1, g2, g3⟩ := (frz_sound hI (F3 := w.cell?) hI.ro (fun i p hi hp o x hx => hx) (plY l) 140).2 cap cap' lb.toList hr hcap
        have hro : ∀ a v, w.cell? a = some v → W.cell? a = some v := fun a v hv => by
          have := hsame a.block (cell_lt hv)
          simpa only [World.cell?, this] using hv
        have henv : EnvRel fn.ntmps w.cell? (plY l) (envOf 0 (.yl 0 :: cap')) ((#[.func (.yield l) #[] #[]] ++ lb) ++ Array.replicate (fn.ntmps - (#[Value.func (.yield l) #[] #[]] ++ lb).size) undef) := by
          have hrl : RelL w.cell? (plY l) (.yl 0 :: cap') ((.func (.yield l) #[] #[]) :: lb.toList) := RelL.cons (.yl (p := ⟨l, 0, 0⟩) (by simp [plY])) g1
          have hlen := g1.1
          have := initEnv hrl (n := fn.ntmps) (by simp; have := hr.1; simp at *; omega)
          have e : (Value.func (.yield l) #[] #[] :: lb.toList).toArray = #[Value.func (.yield l) #[] #[]] ++ lb := by
            apply Array.toList_inj.1
            simp only [Array.toList_append]
            rfl
          rw [e] at this
          exact this
        refine (callsIn_wide (n := 0)).1 (callsIn_of_wp hf hbody trivial ?_)
        have fin : ∀ rem env H a w, finY env H = some (.tup rem, [none]) → GY fn.ntmps l xs J rem env H a w → bodyPost P fn (fun e W' => (∃ v, e = .returned v) ∧ J xs.length W') .normal a w := by
          intro rem env H a w he hg
          simp only [finY, Option.some.injEq, Prod.mk.injEq, AV.tup.injEq] at he
          obtain ⟨i, hi, hil, hJi⟩ := hg.at_
          refine ⟨hg.defers, .tuple #[], ?_, ⟨_, rfl⟩, ?_⟩
          · have e : fn.results = #[] := Array.eq_empty_of_size_eq_zero hres
            simp [results, e]
          · rw [← he.1] at hi
            have : xs.length ≤ i := List.drop_eq_nil_iff.1 hi.symm
            have : i = xs.length := by omega
            rw [← this]; exact hJi
        exact evCY_sound hT hJ af.body c hb finY (fun _ _ _ => none) finY _ ⟨fin, fun id rem env H a w he => (by cases he), fun rem env H a w he hg => fin rem env H a w he hg⟩ xs _ _ _ W hev ⟨rfl, ⟨_, henv, hro⟩, rfl, 0, by simp, Nat.zero_le _, hJ0⟩
      · cases hb
    · cases h
  · cases h
end
def contig (T : Tab) : List (Nat × Nat) → Nat → Nat → Bool
  | [], at_, total => at_ == total
  | g :: r, at_, total => g.1 == at_ && (match T g.2 with
    | some s => contig T r (at_ + s.size) total
    | none => false)
def inT (T : Tab) : Nat → Nat → Bool
  | 0, _ => false
  | k + 1, t => match T t with
    | some s => (match s.kind with
      | .int _ => s.size == 1
      | .bool => s.size == 1
      | .slice e => (match T e with
        | some se => se.size != 0
        | none => false) && inT T k e
      | .struct gs => contig T gs 0 s.size && gs.all fun g => inT T k g.2
      | .array n e => (match T e with
        | some se => s.size == n * se.size
        | none => false) && inT T k e
      | _ => false)
    | none => false
def TyAV (T : Tab) : Nat → Nat → List AV → Prop
  | 0, _, _ => False
  | k + 1, t, cs => ∃ s, T t = some s ∧ match s.kind with
    | .int q => ∃ n, cs = [.int q n] ∧ (Lit.int q n).wf = true
    | .bool => ∃ b, cs = [.bool b]
    | .slice e => cs = [.nilS] ∨ ∃ len cells se, T e = some se ∧ cs = [.rd se.size len cells] ∧ cells.length = len * se.size ∧ len < 2 ^ 63 ∧ ∀ i, i < len → TyAV T k e ((cells.drop (i * se.size)).take se.size)
    | .struct gs => cs.length = s.size ∧ ∀ g ∈ gs, ∃ sg, T g.2 = some sg ∧ TyAV T k g.2 ((cs.drop g.1).take sg.size)
    | .array n e => ∃ se, T e = some se ∧ cs.length = n * se.size ∧ ∀ i, i < n → TyAV T k e ((cs.drop (i * se.size)).take se.size)
    | _ => False
section
variable {P : Program} {T : Tab} {H : Type} {enc : TypeId × Value → H} {w : World}
theorem contig_le : ∀ {gs : List (Nat × Nat)} {at_ total : Nat}, contig T gs at_ total = true → at_ ≤ total ∧ ∀ g ∈ gs, at_ ≤ g.1
  | [], at_, total, h => by simp [contig] at h; exact ⟨by omega, fun g hg => by cases hg⟩
  | g :: r, at_, total, h => by
    simp only [contig, Bool.and_eq_true, beq_iff_eq] at h
    obtain ⟨h1, h2⟩ := h
    split at h2
    · obtain ⟨h3, h4⟩ := contig_le h2
      refine ⟨by omega, fun g' hg' => ?_⟩
      rcases List.mem_cons.1 hg' with rfl | hg'
      · omega
      · have := h4 g' hg'; omega
    · cases h2
theorem fields_join {k : Nat} {F : RoT} {cs : List Value} : ∀ (gs : List (Nat × Nat)) (at_ : Nat), contig T gs at_ cs.length = true →
    (∀ g ∈ gs, ∀ sg, T g.2 = some sg → ∃ xs, RelL F noPl xs ((cs.drop g.1).take sg.size) ∧ (idFreeL xs = true ∧ oneL xs = true) ∧ TyAV T k g.2 xs) →
    ∃ xs, RelL F noPl xs (cs.drop at_) ∧ (idFreeL xs = true ∧ oneL xs = true) ∧ ∀ g ∈ gs, ∃ sg, T g.2 = some sg ∧ TyAV T k g.2 ((xs.drop (g.1 - at_)).take sg.size)
  | [], at_, h, _ => by
    simp [contig] at h
    rw [List.drop_eq_nil_of_le (by omega)]
    exact ⟨[], .nil, ⟨rfl, rfl⟩, fun g hg => by cases hg⟩
  | g :: r, at_, h, hp => by
    simp only [contig, Bool.and_eq_true, beq_iff_eq] at h
    obtain ⟨h1, h2⟩ := h
    split at h2
    · rename_i sg hsg
      obtain ⟨h3, h4⟩ := contig_le h2
      obtain ⟨ys, y1, y2, y3⟩ := hp g (by simp) sg hsg
      obtain ⟨zs, z1, z2, z3⟩ := fields_join r _ h2 fun g' hg' => hp g' (List.mem_cons_of_mem _ hg')
      rw [h1] at y1
      have hyl : ys.length = sg.size := by rw [← y1.1, List.length_take, List.length_drop]; omega
      refine ⟨ys ++ zs, ?_, fl_append y2 z2, fun g' hg' => ?_⟩
      · have := y1.append z1
        rwa [← List.drop_drop, List.take_append_drop] at this
      · rcases List.mem_cons.1 hg' with rfl | hg'
        · refine ⟨sg, hsg, ?_⟩
          rw [h1, Nat.sub_self, List.drop_zero, ← hyl, List.take_left]
          exact y3
        · obtain ⟨s', hs', ht'⟩ := z3 g' hg'
          refine ⟨s', hs', ?_⟩
          have := h4 g' hg'
          rw [List.drop_append, List.drop_eq_nil_of_le (by omega), List.nil_append, hyl, show g'.1 - at_ - sg.size = g'.1 - (at_ + sg.size) by omega]
          exact ht'
    · cases h2
theorem arr_join {k e sz : Nat} {F : RoT} {cs : List Value} : ∀ (n : Nat), n * sz ≤ cs.length → (∀ i, i < n → ∃ ys : List AV, RelL F noPl ys ((cs.drop (i * sz)).take sz) ∧ (idFreeL ys = true ∧ oneL ys = true) ∧ TyAV T k e ys) →
    ∃ xs : List AV, RelL F noPl xs (cs.take (n * sz)) ∧ xs.length = n * sz ∧ (idFreeL xs = true ∧ oneL xs = true) ∧ ∀ i, i < n → TyAV T k e ((xs.drop (i * sz)).take sz)
  | 0, _, _ => ⟨[], by simpa using RelL.nil, by simp, ⟨rfl, rfl⟩, fun i hi => by omega⟩
  | n + 1, hl, h => by
    rw [Nat.succ_mul] at hl
    obtain ⟨xs, x1, x0, x2, x3⟩ := arr_join n (by omega) fun i hi => h i (by omega)
    obtain ⟨ys, y1, y2, y3⟩ := h n (by omega)
    have hyl : ys.length = sz := by rw [← y1.1, List.length_take, List.length_drop]; omega
    refine ⟨xs ++ ys, ?_, by rw [List.length_append, x0, hyl, Nat.succ_mul], fl_append x2 y2, fun i hi => ?_⟩
    · have := x1.append y1
      rwa [← List.take_add, ← Nat.succ_mul] at this
    · rcases Nat.lt_or_ge i n with h' | h'
      · have : i * sz + sz ≤ n * sz := by rw [← Nat.succ_mul]; exact Nat.mul_le_mul_right _ h'
        rw [List.drop_append_of_le_length (by omega), List.take_append_of_le_length (by rw [List.length_drop]; omega)]
        exact x3 i h'
      · have : i = n := by omega
        subst this
        rw [← x0, List.drop_left, ← hyl, List.take_length]
        exact y3
theorem rows_join {k e sz : Nat} {F : RoT} {b o : Nat} : ∀ (len : Nat), (∀ i, i < len → ∃ ys : List AV, ys.length = sz ∧ (idFreeL ys = true ∧ oneL ys = true) ∧ TyAV T k e ys ∧ ∀ (j : Nat) y, ys[j]? = some y → ∃ v, w.cell? ⟨b, o + (i * sz + j), none⟩ = some v ∧ Rel F noPl y v) →
    ∃ xs : List AV, xs.length = len * sz ∧ (idFreeL xs = true ∧ oneL xs = true) ∧ (∀ i, i < len → TyAV T k e ((xs.drop (i * sz)).take sz)) ∧ ∀ (j : Nat) y, xs[j]? = some y → ∃ v, w.cell? ⟨b, o + j, none⟩ = some v ∧ Rel F noPl y v
  | 0, _ => ⟨[], by simp, ⟨rfl, rfl⟩, fun i hi => by omega, fun j y hy => by simp at hy⟩
  | len + 1, h => by
    obtain ⟨xs, x1, x2, x3, x4⟩ := rows_join len fun i hi => h i (by omega)
    obtain ⟨ys, y1, y2, y3, y4⟩ := h len (by omega)
    refine ⟨xs ++ ys, by rw [List.length_append, x1, y1, Nat.succ_mul], fl_append x2 y2, fun i hi => ?_, fun j y hj => ?_⟩
    · rcases Nat.lt_or_ge i len with h' | h'
      · have : i * sz + sz ≤ len * sz := by rw [← Nat.succ_mul]; exact Nat.mul_le_mul_right _ h'
        rw [List.drop_append_of_le_length (by omega), List.take_append_of_le_length (by rw [List.length_drop]; omega)]
        exact x3 i h'
      · have : i = len := by omega
        subst this
        rw [← x1, List.drop_left, ← y1, List.take_length]
        exact y3
    · rcases Nat.lt_or_ge j xs.length with h' | h'
      · rw [List.getElem?_append_left h'] at hj
        exact x4 j y hj
      · rw [List.getElem?_append_right h', x1] at hj
        obtain ⟨v, hv, hr⟩ := y4 _ y hj
        refine ⟨v, ?_, hr⟩
        rw [← hv]
        congr 2
        omega
theorem open_trod {base : Nat} {held : Bool} (hT : TOk P T) : ∀ (k t : Nat), inT T k t = true → ∀ (fuel : Nat) (cs : List Value) x, DataW.trod enc P w base (fun _ => true) held fuel t cs = some x →
    ∃ xs, RelL w.cell? noPl xs cs ∧ (idFreeL xs = true ∧ oneL xs = true) ∧ TyAV T k t xs
  | 0, t, h, _, _, _, _ => by simp [inT] at h
  | k + 1, t, h, fuel, cs, x, htr => by
    simp only [inT] at h
    split at h
    · rename_i s hs
      obtain ⟨ft⟩ := tfact hT hs
      split at h
      · rename_i q hk
        obtain ⟨n, rfl, _, hw⟩ := DataW.trod_int (kind_int (hk ▸ ft.hk) ▸ ft.hu) htr
        exact ⟨[.int q n], .cons (.int _ _) .nil, ⟨rfl, rfl⟩, s, hs, by rw [hk]; exact ⟨n, rfl, hw⟩⟩
      · rename_i hk
        obtain ⟨b, rfl, _⟩ := DataW.trod_bool (kind_bool (hk ▸ ft.hk) ▸ ft.hu) htr
        exact ⟨[.bool b], .cons (.bool _) .nil, ⟨rfl, rfl⟩, s, hs, by rw [hk]; exact ⟨b, rfl⟩⟩
      · rename_i e hk
        simp only [Bool.and_eq_true] at h
        obtain ⟨h1, h2⟩ := h
        split at h1
        · rename_i se hse
          simp only [bne_iff_ne, ne_eq] at h1
          obtain ⟨fe⟩ := tfact hT hse
          have hce : P.cellsOf e = se.size := by simp [Program.cellsOf, fe.hi, fe.hs]
          rcases DataW.trod_slice (kind_slice (hk ▸ ft.hk) ▸ ft.hu) htr with ⟨rfl, _⟩ | ⟨a, len, cap, elems, rest, n, _, rfl, _, _, hl, hmx, hlen, hel, hre, _⟩
          · exact ⟨[.nilS], .cons .nilS .nil, ⟨rfl, rfl⟩, s, hs, by rw [hk]; exact .inl rfl⟩
          · rw [hce] at hel hre
            obtain ⟨hrl, hre⟩ := hre rfl
            have spot : 0 < cap → a.spot = none := fun hcap => by
              have one : ∀ (y : _), (w.cells? base (a.add 0) se.size).bind (DataW.trod enc P w base (fun _ => true) held n e) = some y → a.spot = none := fun y hy => by
                obtain ⟨cs', hcs', _⟩ := Option.bind_eq_some_iff.1 hy
                obtain ⟨_, hl', hc'⟩ := World.cells?_some hcs'
                have h0 := hc' 0 (by omega)
                have e0 : (a.add 0).add 0 = a := by simp [Addr.add]
                rw [e0, List.getElem?_eq_getElem (by omega)] at h0
                unfold World.cell? at h0
                split at h0
                · cases hsp : a.spot with
                  | none => rfl
                  | some z => simp [hsp] at h0
                · cases h0
              rcases Nat.eq_zero_or_pos len with h0 | h0
              · have := hre 0 (by omega)
                rw [h0, Nat.zero_add, Nat.zero_mul, List.getElem?_eq_getElem (by omega)] at this
                exact one _ this
              · have := hel 0 h0
                rw [Nat.zero_mul, List.getElem?_eq_getElem (by omega)] at this
                exact one _ this
            have hrows : ∀ i, i < len → ∃ ys : List AV, ys.length = se.size ∧ (idFreeL ys = true ∧ oneL ys = true) ∧ TyAV T k e ys ∧ ∀ (j : Nat) y, ys[j]? = some y → ∃ v, w.cell? ⟨a.block, a.off + (i * se.size + j), none⟩ = some v ∧ Rel w.cell? noPl y v := fun i hi => by
              have hi' := hel i hi
              rw [List.getElem?_eq_getElem (by omega)] at hi'
              obtain ⟨cs', hcs', htr'⟩ := Option.bind_eq_some_iff.1 hi'
              obtain ⟨_, hl', hc'⟩ := World.cells?_some hcs'
              obtain ⟨ys, g1, g2, g3⟩ := open_trod hT k e h2 n cs' _ htr'
              have hsp := spot (by omega)
              refine ⟨ys, by rw [← g1.1]; omega, g2, g3, fun j y hy => ?_⟩
              obtain ⟨v, hv, hrv⟩ := g1.get hy
              have hj : j < cs'.length := (List.getElem?_eq_some_iff.1 hv).1
              have hcell := hc' j (by omega)
              obtain ⟨ab, ao, asp⟩ := a
              dsimp only at hsp
              subst hsp
              rw [addr_add, addr_add, Nat.add_assoc] at hcell
              exact ⟨v, by rw [hcell, hv], hrv⟩
            obtain ⟨xs, x1, x2, x3, x4⟩ := rows_join (T := T) (k := k) (e := e) (F := w.cell?) (b := a.block) (o := a.off) len hrows
            refine ⟨[.rd se.size len xs], .cons ?_ .nil, ⟨rfl, rfl⟩, s, hs, by rw [hk]; exact .inr ⟨len, xs, se, hse, rfl, x1, by unfold maxLen at hmx; omega, x3⟩⟩
            refine Rel.rd (fun j => (w.cell? ⟨a.block, a.off + j, none⟩).getD Go.undef) x1 hl spot x2 (fun j y hy => ?_) fun j y hy => ?_
            · obtain ⟨v, hv, _⟩ := x4 j y hy
              rw [hv]; rfl
            · obtain ⟨v, hv, hr⟩ := x4 j y hy
              rw [hv]; exact hr
        · cases h1
      · rename_i gs hk
        simp only [Bool.and_eq_true, List.all_eq_true] at h
        obtain ⟨fs, hd, hgs⟩ := kind_struct (hk ▸ ft.hk)
        obtain ⟨xs, n, _, _, hlen, hxl, hf⟩ := DataW.trod_struct (hd ▸ ft.hu) htr
        have hcl : cs.length = s.size := by rw [hlen]; simp [Program.cellsOf, ft.hi, ft.hs]
        rw [← hcl] at h
        obtain ⟨ys, y1, y2, y3⟩ := fields_join (F := w.cell?) gs 0 h.1 fun g hg sg hsg => by
          rw [← hgs] at hg
          obtain ⟨f, hfm, rfl⟩ := List.mem_map.1 hg
          obtain ⟨i, hi, hfi⟩ := List.mem_iff_getElem.1 hfm
          have hfi' : fs[i]? = some f := by rw [← Array.getElem?_toList, List.getElem?_eq_getElem hi, hfi]
          have := hf i f hfi'
          have hil : i < xs.length := by rw [hxl]; simpa using hi
          rw [List.getElem?_eq_getElem hil] at this
          obtain ⟨fg⟩ := tfact hT hsg
          have hcg : P.cellsOf f.type = sg.size := by simp [Program.cellsOf, fg.hi, fg.hs]
          rw [hcg] at this
          exact open_trod hT k f.type (h.2 _ (by rw [← hgs]; exact List.mem_map_of_mem hfm)) n _ _ this
        refine ⟨ys, by simpa using y1, y2, s, hs, by rw [hk]; exact ⟨by have := y1.1; simp at this; omega, fun g hg => by simpa using y3 g hg⟩⟩
      · rename_i len e hk
        simp only [Bool.and_eq_true] at h
        obtain ⟨h1, h2⟩ := h
        split at h1
        · rename_i se hse
          simp only [beq_iff_eq] at h1
          obtain ⟨fe⟩ := tfact hT hse
          have hce : P.cellsOf e = se.size := by simp [Program.cellsOf, fe.hi, fe.hs]
          obtain ⟨xs, n, _, _, hlen, hxl, hf⟩ := DataW.trod_array (kind_array (hk ▸ ft.hk) ▸ ft.hu) htr
          have hcl : cs.length = len * se.size := by rw [hlen, ← h1]; simp [Program.cellsOf, ft.hi, ft.hs]
          rw [hce] at hf
          obtain ⟨ys, y1, y0, y2, y3⟩ := arr_join (T := T) (k := k) (e := e) (sz := se.size) (F := w.cell?) (cs := cs) len (by omega) fun i hi => by
            have := hf i hi
            rw [List.getElem?_eq_getElem (by omega)] at this
            exact open_trod hT k e h2 n _ _ this
          rw [← hcl, List.take_length] at y1
          exact ⟨ys, y1, y2, s, hs, by rw [hk]; exact ⟨se, hse, y0, y3⟩⟩
        · cases h1
      · cases h
    · cases h
end
open Go.ChangeShapes Go.WideShapes Go.ChangeAt Go.RowKit
def TyArg (T : Tab) (k t : Nat) (x : AV) : Prop := (∃ s xs, T t = some s ∧ s.kind.agg = true ∧ x = .agg xs ∧ TyAV T k t xs) ∨ (∃ s, T t = some s ∧ s.kind.agg = false ∧ TyAV T k t [x])
section
variable {P : Program} {T : Tab} {H : Type} {enc : TypeId × Value → H} {W : World}
theorem okWide_arr {r : Reach} {base n e : Nat} {t : TypeId} {v : Value} (ht : P.underlying t = some (.array n e)) (h : Value.okWide P W r base t v) : ∃ cs, v = .agg cs ∧ cs.size = P.cellsOf t := by
  simp only [Value.okWide, ht] at h
  obtain ⟨cs, h1, h2, _⟩ := h
  exact ⟨cs, h1, h2⟩
theorem open_arg {base b0 : Nat} {held : Bool} {r : Reach} (hT : TOk P T) {k t : Nat} (hin : inT T k t = true) {v : Value} (hval : Value.okWide P W r b0 t v) {d : DataW H} {p : List MemPlace}
    (h : DataW.Trod enc P W base (fun _ => true) held t v d p) : ∃ x, Rel W.cell? noPl x v ∧ TyArg T k t x := by
  obtain ⟨fuel, hf⟩ := h
  obtain ⟨xs, h1, h2, h3⟩ := open_trod hT k t hin fuel _ _ hf
  cases k with
  | zero => simp [inT] at hin
  | succ k =>
    obtain ⟨s, hs, hm⟩ := h3
    obtain ⟨ft⟩ := tfact hT hs
    have fin : s.kind.agg = false → v.cells = #[v] → TyAV T (k + 1) t xs → ∃ x, Rel W.cell? noPl x v ∧ TyArg T (k + 1) t x := fun ha hv ht => by
      rw [hv] at h1
      obtain ⟨x, rfl, hx⟩ := rel1 h1
      exact ⟨x, hx, .inr ⟨s, hs, ha, ht⟩⟩
    cases hk : s.kind <;> rw [hk] at hm <;> try (exact hm.elim)
    · rename_i q
      obtain ⟨n, rfl⟩ := okWide_int (kind_int (hk ▸ ft.hk) ▸ ft.hu) hval
      exact fin (by rw [hk]; rfl) rfl ⟨s, hs, by rw [hk]; exact hm⟩
    · obtain ⟨b, rfl⟩ := okWide_bool (kind_bool (hk ▸ ft.hk) ▸ ft.hu) hval
      exact fin (by rw [hk]; rfl) rfl ⟨s, hs, by rw [hk]; exact hm⟩
    · rename_i e
      obtain ⟨a, len, cap, rfl⟩ := okWide_slice (kind_slice (hk ▸ ft.hk) ▸ ft.hu) hval
      exact fin (by rw [hk]; rfl) rfl ⟨s, hs, by rw [hk]; exact hm⟩
    · rename_i len e
      obtain ⟨cs, rfl, _⟩ := okWide_arr (kind_array (hk ▸ ft.hk) ▸ ft.hu) hval
      exact ⟨.agg xs, rel_agg_iff.2 ⟨cs, rfl, h1⟩, .inl ⟨s, xs, hs, by rw [hk]; rfl, rfl, s, hs, by rw [hk]; exact hm⟩⟩
    · rename_i gs
      obtain ⟨fs, hd, _⟩ := kind_struct (hk ▸ ft.hk)
      obtain ⟨cs, rfl, _⟩ := okWide_struct (hd ▸ ft.hu) hval
      exact ⟨.agg xs, rel_agg_iff.2 ⟨cs, rfl, h1⟩, .inl ⟨s, xs, hs, by rw [hk]; rfl, rfl, s, hs, by rw [hk]; exact hm⟩⟩
theorem below_of {F' : RoT} {pl' : PlT} {H' : Heap} {W' : World} {F : RoT} (h : Stp F noPl [] W F' pl' H' W') : Below W.heap.size W W' :=
  ⟨h.fr.os, h.fr.tape, h.fr.output, h.fr.size, fun k hk => h.fr.block k hk own_none⟩
end
mutual
theorem ren_free (f : Nat → Option Nat) : ∀ {x : AV}, x.idFree = true → x.ren f = some x
  | .undef, _ => rfl
  | .int .., _ => rfl
  | .bool _, _ => rfl
  | .nilS, _ => rfl
  | .nilP, _ => rfl
  | .nilF, _ => rfl
  | .nilM, _ => rfl
  | .rd .., _ => rfl
  | .rp _, _ => rfl
  | .sl .., h => by simp [AV.idFree] at h
  | .ptr .., h => by simp [AV.idFree] at h
  | .mp _, h => by simp [AV.idFree] at h
  | .yl _, h => by simp [AV.idFree] at h
  | .agg cs, h => by simp only [AV.idFree] at h; simp [AV.ren, h]
  | .tup cs, h => by simp only [AV.idFree] at h; simp [AV.ren, h]
  | .fn _ cs, h => by simp only [AV.idFree] at h; simp [AV.ren, h]
end
theorem renL_free (f : Nat → Option Nat) : ∀ {xs : List AV}, idFreeL xs = true → renL f xs = some xs
  | [], _ => rfl
  | x :: xs, h => by
    simp only [idFreeL, Bool.and_eq_true] at h
    simp [renL, ren_free f h.1, renL_free f h.2]
theorem reach_free (H : Heap) : ∀ (n : Nat) (acc : List Nat) (l : List AV), idFreeL l = true → reach H n acc l = acc
  | 0, acc, l, _ => by simp [reach]
  | n + 1, acc, [], _ => by simp [reach]
  | n + 1, acc, v :: r, h => by
    simp only [idFreeL, Bool.and_eq_true] at h
    cases v <;> simp only [AV.idFree, Bool.false_eq_true, false_and] at h <;> simp only [reach] <;> first
      | exact reach_free H n acc r h.2
      | (rw [if_pos h.1]; exact reach_free H n acc r h.2)
      | exact absurd h.1 (by simp)
theorem gc_free {vs : List AV} (h : idFreeL vs = true) (H : Heap) : gc 0 vs H = some (vs, []) := by
  simp [gc, rangeL, roots, reach_free H 400 [] vs h, subHeap, nodupB, renL_free _ h, pickO, renH]
theorem frzV_free (H : Heap) (k : Nat) : ∀ {x : AV}, x.idFree = true → frzV H (k + 1) x = some x := by
  intro x h
  cases x <;> simp only [AV.idFree, Bool.false_eq_true] at h <;> simp [frzV, h]
theorem frzL_free (H : Heap) : ∀ (k : Nat) (xs : List AV), xs.length < k → idFreeL xs = true → frzL H k xs = some xs
  | 0, _, h, _ => by omega
  | k + 1, [], _, _ => rfl
  | k + 1, x :: xs, hk, h => by
    simp only [idFreeL, Bool.and_eq_true] at h
    simp only [List.length_cons] at hk
    have hk' : ∃ j, k = j + 1 := ⟨k - 1, by omega⟩
    obtain ⟨j, rfl⟩ := hk'
    simp [frzL, frzV_free H j h.1, frzL_free H (j + 1) xs (by omega) h.2]
theorem callPure_frz {call : CallF} {f : Nat} {args : List AV} {H H1 : Heap} {v v' : AV} (ha : idFreeL args = true) (hl : args.length < 40) (hc : call f args [] = some (v, H1)) (hf : frzV H1 140 v = some v') :
    callPure call true f args H = some (v', H) := by
  simp [callPure, frzL_free H 140 args (by omega) ha, hc, ha, hf]
theorem callPure_free {call : CallF} {f : Nat} {args : List AV} {H H1 : Heap} {v : AV} (ha : idFreeL args = true) (hl : args.length < 40) (hc : call f args [] = some (v, H1)) (hf : v.idFree = true) :
    callPure call true f args H = some (v, H) := callPure_frz ha hl hc (frzV_free H1 139 hf)
theorem evF_succ {tab : Nat → Option AFunc} {it : IterF} {n f : Nat} {af : AFunc} {args : List AV} {H : Heap} (h : tab f = some af) : evF tab it (n + 1) f args H = evFn (evF tab it n) it n af args H := by
  simp [evF, h]
structure RC (call : CallF) (it : IterF) (n : Nat) (c : AC) (k : Nat) (K : KT) (X : Nat → KT) (Rt : KT) (env : Env) (H : Heap) (res : R) : Prop where
  eq : evC call it n c k K X Rt env H = res
structure RR (call : CallF) (ops : List AI) (K : KT) (env : Env) (H : Heap) (res : R) : Prop where
  eq : evR call ops K env H = res
section
variable {call : CallF} {it : IterF} {n k : Nat} {K Rt : KT} {X : Nat → KT} {env : Env} {H : Heap} {res : R}
theorem raw_c_seq {a b : AC} (h : evC call it n a k (evC call it n b k K X Rt) X Rt env H = res) : evC call it n (.seq a b) k K X Rt env H = res := h
theorem c_seq {a b : AC} (h : RC call it n a k (evC call it n b k K X Rt) X Rt env H res) : RC call it n (.seq a b) k K X Rt env H res := ⟨raw_c_seq h.eq⟩
theorem raw_c_reg {ops : List AI} {o} (h : evR call ops K env H = res) : evC call it n (.reg ops o) k K X Rt env H = res := h
theorem c_reg {ops : List AI} {o} (h : RR call ops K env H res) : RC call it n (.reg ops o) k K X Rt env H res := ⟨raw_c_reg h.eq⟩
theorem raw_c_skip (h : K env H = res) : evC call it n .skip k K X Rt env H = res := h
theorem c_skip (h : K env H = res) : RC call it n .skip k K X Rt env H res := ⟨raw_c_skip h⟩
theorem raw_c_ret (h : Rt env H = res) : evC call it n .ret k K X Rt env H = res := h
theorem c_ret (h : Rt env H = res) : RC call it n .ret k K X Rt env H res := ⟨raw_c_ret h⟩
def blkX (i : Nat) (K : KT) (X : Nat → KT) : Nat → KT := fun j => if j = i then K else X j
theorem raw_c_block {i : Nat} {c : AC} (h : evC call it n c k K (blkX i K X) Rt env H = res) : evC call it n (.block i c) k K X Rt env H = res := h
theorem c_block {i : Nat} {c : AC} (h : RC call it n c k K (blkX i K X) Rt env H res) : RC call it n (.block i c) k K X Rt env H res := ⟨raw_c_block h.eq⟩
theorem raw_c_exitH {i : Nat} {K' : KT} {X' : Nat → KT} (h : K' env H = res) : evC call it n (.exit i) k K (blkX i K' X') Rt env H = res := by
  simpa [evC, blkX] using h
theorem c_exitH {i : Nat} {K' : KT} {X' : Nat → KT} (h : K' env H = res) : RC call it n (.exit i) k K (blkX i K' X') Rt env H res := ⟨raw_c_exitH h⟩
theorem raw_c_exitM {i j : Nat} {K' : KT} {X' : Nat → KT} (hi : Nat.beq i j = false) (h : evC call it n (.exit i) k K X' Rt env H = res) : evC call it n (.exit i) k K (blkX j K' X') Rt env H = res := by
  have : i ≠ j := fun e => by subst e; simp at hi
  simpa [evC, blkX, this] using h
theorem c_exitM {i j : Nat} {K' : KT} {X' : Nat → KT} (hi : Nat.beq i j = false) (h : RC call it n (.exit i) k K X' Rt env H res) : RC call it n (.exit i) k K (blkX j K' X') Rt env H res := ⟨raw_c_exitM hi h.eq⟩
theorem raw_c_condT {c : Opd} {a b : AC} (hc : opd env c = .bool true) (h : evC call it n a k K X Rt env H = res) : evC call it n (.cond c a b) k K X Rt env H = res := by
  simpa [evC, ifB, asB, hc] using h
theorem c_condT {c : Opd} {a b : AC} (hc : opd env c = .bool true) (h : RC call it n a k K X Rt env H res) : RC call it n (.cond c a b) k K X Rt env H res := ⟨raw_c_condT hc h.eq⟩
theorem raw_c_condF {c : Opd} {a b : AC} (hc : opd env c = .bool false) (h : evC call it n b k K X Rt env H = res) : evC call it n (.cond c a b) k K X Rt env H = res := by
  simpa [evC, ifB, asB, hc] using h
theorem c_condF {c : Opd} {a b : AC} (hc : opd env c = .bool false) (h : RC call it n b k K X Rt env H res) : RC call it n (.cond c a b) k K X Rt env H res := ⟨raw_c_condF hc h.eq⟩
theorem raw_c_pre {live : List Nat} {c : AC} {vs : List AV} {H' : Heap} (hg : gc k (looks env live) H = some (vs, H')) (h : evC call it n c k K X Rt (bindEnv live 0 vs) H' = res) : evC call it n (.pre live c) k K X Rt env H = res := by
  simpa [evC, hg] using h
theorem c_pre {live : List Nat} {c : AC} {vs : List AV} {H' : Heap} (hg : gc k (looks env live) H = some (vs, H')) (h : RC call it n c k K X Rt (bindEnv live 0 vs) H' res) : RC call it n (.pre live c) k K X Rt env H res := ⟨raw_c_pre hg h.eq⟩
theorem raw_c_nil (h : K env H = res) : evR call [] K env H = res := h
theorem c_nil (h : K env H = res) : RR call [] K env H res := ⟨raw_c_nil h⟩
theorem raw_c_loop {c : AC} (h : loopIt n (fun K => evC call it n c k K X Rt) env H = res) : evC call it n (.loop c) k K X Rt env H = res := h
theorem c_loop {c : AC} (h : loopIt n (fun K => evC call it n c k K X Rt) env H = res) : RC call it n (.loop c) k K X Rt env H res := ⟨raw_c_loop h⟩
theorem raw_s_p {p : PO} {xs : List Opd} {dst : Option Nat} {kp : List Opd} {r : List AI} {v : AV} (h : evP H p (opds env xs) = some v) (g : evR call r K (putE env dst v) H = res) :
    evR call (⟨.inl p, xs, dst, none, kp⟩ :: r) K env H = res := by simpa only [evR, evI, h, Option.bind_some] using g
theorem s_p {p : PO} {xs : List Opd} {dst : Option Nat} {kp : List Opd} {r : List AI} {v : AV} (h : evP H p (opds env xs) = some v) (g : RR call r K (putE env dst v) H res) :
    RR call (⟨.inl p, xs, dst, none, kp⟩ :: r) K env H res := ⟨raw_s_p h g.eq⟩
theorem raw_s_mov {x : Opd} {d : Nat} {kp : List Opd} {r : List AI} {v : AV} (h : opd env x = v) (g : evR call r K ((d, v) :: env) H = res) :
    evR call (⟨.inl .mov, [x], some d, none, kp⟩ :: r) K env H = res := raw_s_p (v := v) (by simp only [opds, evP, h]) g
theorem s_mov {x : Opd} {d : Nat} {kp : List Opd} {r : List AI} {v : AV} (h : opd env x = v) (g : RR call r K ((d, v) :: env) H res) :
    RR call (⟨.inl .mov, [x], some d, none, kp⟩ :: r) K env H res := ⟨raw_s_mov h g.eq⟩
theorem raw_s_gT {e : PO ⊕ EO} {xs : List Opd} {dst : Option Nat} {s : Nat} {b : Bool} {kp : List Opd} {r : List AI} (hs : asG (look env s) b = some true) (g : evR call (⟨e, xs, dst, none, kp⟩ :: r) K env H = res) :
    evR call (⟨e, xs, dst, some (s, b), kp⟩ :: r) K env H = res := by
  cases e <;> simpa only [evR, evI, gdV, gdE, hs, Option.bind_some, if_true] using g
theorem s_gT {e : PO ⊕ EO} {xs : List Opd} {dst : Option Nat} {s : Nat} {b : Bool} {kp : List Opd} {r : List AI} (hs : asG (look env s) b = some true) (g : RR call (⟨e, xs, dst, none, kp⟩ :: r) K env H res) :
    RR call (⟨e, xs, dst, some (s, b), kp⟩ :: r) K env H res := ⟨raw_s_gT hs g.eq⟩
theorem raw_s_gF {p : PO} {xs : List Opd} {d : Nat} {s : Nat} {b : Bool} {kp : List Opd} {r : List AI} (hs : asG (look env s) b = some false) (g : evR call r K ((d, .tup []) :: env) H = res) :
    evR call (⟨.inl p, xs, some d, some (s, b), kp⟩ :: r) K env H = res := by
  simpa only [evR, evI, gdV, hs, Option.bind_some, Bool.false_eq_true, if_false, putE] using g
theorem s_gF {p : PO} {xs : List Opd} {d : Nat} {s : Nat} {b : Bool} {kp : List Opd} {r : List AI} (hs : asG (look env s) b = some false) (g : RR call r K ((d, .tup []) :: env) H res) :
    RR call (⟨.inl p, xs, some d, some (s, b), kp⟩ :: r) K env H res := ⟨raw_s_gF hs g.eq⟩
theorem raw_s_gFE {p : EO} {xs : List Opd} {dst : Option Nat} {s : Nat} {b : Bool} {r : List AI} (hs : asG (look env s) b = some false) (g : evR call r K (putE env dst (.tup [])) H = res) :
    evR call (⟨.inr p, xs, dst, some (s, b), []⟩ :: r) K env H = res := by
  simpa only [evR, evI, gdE, hs, Option.bind_some, Bool.false_eq_true, if_false, opds, keptOk, if_true] using g
theorem s_gFE {p : EO} {xs : List Opd} {dst : Option Nat} {s : Nat} {b : Bool} {r : List AI} (hs : asG (look env s) b = some false) (g : RR call r K (putE env dst (.tup [])) H res) :
    RR call (⟨.inr p, xs, dst, some (s, b), []⟩ :: r) K env H res := ⟨raw_s_gFE hs g.eq⟩
theorem raw_s_pickT {c x y : Opd} {d : Nat} {kp : List Opd} {r : List AI} {v : AV} (hc : opd env c = .bool true) (h : opd env x = v) (g : evR call r K ((d, v) :: env) H = res) :
    evR call (⟨.inl .pick, [c, x, y], some d, none, kp⟩ :: r) K env H = res := raw_s_p (v := v) (by simp only [opds, evP, hc, asB, Option.bind_some, if_true, h]) g
theorem s_pickT {c x y : Opd} {d : Nat} {kp : List Opd} {r : List AI} {v : AV} (hc : opd env c = .bool true) (h : opd env x = v) (g : RR call r K ((d, v) :: env) H res) :
    RR call (⟨.inl .pick, [c, x, y], some d, none, kp⟩ :: r) K env H res := ⟨raw_s_pickT hc h g.eq⟩
theorem raw_s_pickF {c x y : Opd} {d : Nat} {kp : List Opd} {r : List AI} {v : AV} (hc : opd env c = .bool false) (h : opd env y = v) (g : evR call r K ((d, v) :: env) H = res) :
    evR call (⟨.inl .pick, [c, x, y], some d, none, kp⟩ :: r) K env H = res := raw_s_p (v := v) (by simp only [opds, evP, hc, asB, Option.bind_some, Bool.false_eq_true, if_false, h]) g
theorem s_pickF {c x y : Opd} {d : Nat} {kp : List Opd} {r : List AI} {v : AV} (hc : opd env c = .bool false) (h : opd env y = v) (g : RR call r K ((d, v) :: env) H res) :
    RR call (⟨.inl .pick, [c, x, y], some d, none, kp⟩ :: r) K env H res := ⟨raw_s_pickF hc h g.eq⟩
theorem raw_s_notT {x : Opd} {d : Nat} {kp : List Opd} {r : List AI} (hc : opd env x = .bool true) (g : evR call r K ((d, .bool false) :: env) H = res) :
    evR call (⟨.inl (.un .not), [x], some d, none, kp⟩ :: r) K env H = res := raw_s_p (v := .bool false) (by simp only [opds, evP, hc, Bool.not_true]) g
theorem s_notT {x : Opd} {d : Nat} {kp : List Opd} {r : List AI} (hc : opd env x = .bool true) (g : RR call r K ((d, .bool false) :: env) H res) :
    RR call (⟨.inl (.un .not), [x], some d, none, kp⟩ :: r) K env H res := ⟨raw_s_notT hc g.eq⟩
theorem raw_s_notF {x : Opd} {d : Nat} {kp : List Opd} {r : List AI} (hc : opd env x = .bool false) (g : evR call r K ((d, .bool true) :: env) H = res) :
    evR call (⟨.inl (.un .not), [x], some d, none, kp⟩ :: r) K env H = res := raw_s_p (v := .bool true) (by simp only [opds, evP, hc, Bool.not_false]) g
theorem s_notF {x : Opd} {d : Nat} {kp : List Opd} {r : List AI} (hc : opd env x = .bool false) (g : RR call r K ((d, .bool true) :: env) H res) :
    RR call (⟨.inl (.un .not), [x], some d, none, kp⟩ :: r) K env H res := ⟨raw_s_notF hc g.eq⟩
theorem raw_s_lss {xs : List Opd} {q : IntKind} {a b : Int} {d : Nat} {kp : List Opd} {r : List AI} (h : opds env xs = [.int q a, .int q b])
    (g1 : a < b → evR call r K ((d, .bool true) :: env) H = res) (g2 : ¬ a < b → evR call r K ((d, .bool false) :: env) H = res) : evR call (⟨.inl (.bin .lss), xs, some d, none, kp⟩ :: r) K env H = res := by
  refine raw_s_p (v := .bool (decide (a < b))) (by rw [h]; simp [evP, binV, isShift, binInt]) ?_
  by_cases hc : a < b <;> simp only [hc, decide_true, decide_false]
  · exact g1 hc
  · exact g2 hc
theorem s_lss {xs : List Opd} {q : IntKind} {a b : Int} {d : Nat} {kp : List Opd} {r : List AI} (h : opds env xs = [.int q a, .int q b])
    (g1 : a < b → RR call r K ((d, .bool true) :: env) H res) (g2 : ¬ a < b → RR call r K ((d, .bool false) :: env) H res) : RR call (⟨.inl (.bin .lss), xs, some d, none, kp⟩ :: r) K env H res := ⟨raw_s_lss h (fun x => (g1 x).eq) (fun x => (g2 x).eq)⟩
theorem raw_s_leq {xs : List Opd} {q : IntKind} {a b : Int} {d : Nat} {kp : List Opd} {r : List AI} (h : opds env xs = [.int q a, .int q b])
    (g1 : a ≤ b → evR call r K ((d, .bool true) :: env) H = res) (g2 : ¬ a ≤ b → evR call r K ((d, .bool false) :: env) H = res) : evR call (⟨.inl (.bin .leq), xs, some d, none, kp⟩ :: r) K env H = res := by
  refine raw_s_p (v := .bool (decide (a ≤ b))) (by rw [h]; simp [evP, binV, isShift, binInt]) ?_
  by_cases hc : a ≤ b <;> simp only [hc, decide_true, decide_false]
  · exact g1 hc
  · exact g2 hc
theorem s_leq {xs : List Opd} {q : IntKind} {a b : Int} {d : Nat} {kp : List Opd} {r : List AI} (h : opds env xs = [.int q a, .int q b])
    (g1 : a ≤ b → RR call r K ((d, .bool true) :: env) H res) (g2 : ¬ a ≤ b → RR call r K ((d, .bool false) :: env) H res) : RR call (⟨.inl (.bin .leq), xs, some d, none, kp⟩ :: r) K env H res := ⟨raw_s_leq h (fun x => (g1 x).eq) (fun x => (g2 x).eq)⟩
theorem raw_s_gtr {xs : List Opd} {q : IntKind} {a b : Int} {d : Nat} {kp : List Opd} {r : List AI} (h : opds env xs = [.int q a, .int q b])
    (g1 : b < a → evR call r K ((d, .bool true) :: env) H = res) (g2 : ¬ b < a → evR call r K ((d, .bool false) :: env) H = res) : evR call (⟨.inl (.bin .gtr), xs, some d, none, kp⟩ :: r) K env H = res := by
  refine raw_s_p (v := .bool (decide (b < a))) (by rw [h]; simp [evP, binV, isShift, binInt]) ?_
  by_cases hc : b < a <;> simp only [hc, decide_true, decide_false]
  · exact g1 hc
  · exact g2 hc
theorem s_gtr {xs : List Opd} {q : IntKind} {a b : Int} {d : Nat} {kp : List Opd} {r : List AI} (h : opds env xs = [.int q a, .int q b])
    (g1 : b < a → RR call r K ((d, .bool true) :: env) H res) (g2 : ¬ b < a → RR call r K ((d, .bool false) :: env) H res) : RR call (⟨.inl (.bin .gtr), xs, some d, none, kp⟩ :: r) K env H res := ⟨raw_s_gtr h (fun x => (g1 x).eq) (fun x => (g2 x).eq)⟩
theorem raw_s_geq {xs : List Opd} {q : IntKind} {a b : Int} {d : Nat} {kp : List Opd} {r : List AI} (h : opds env xs = [.int q a, .int q b])
    (g1 : b ≤ a → evR call r K ((d, .bool true) :: env) H = res) (g2 : ¬ b ≤ a → evR call r K ((d, .bool false) :: env) H = res) : evR call (⟨.inl (.bin .geq), xs, some d, none, kp⟩ :: r) K env H = res := by
  refine raw_s_p (v := .bool (decide (b ≤ a))) (by rw [h]; simp [evP, binV, isShift, binInt]) ?_
  by_cases hc : b ≤ a <;> simp only [hc, decide_true, decide_false]
  · exact g1 hc
  · exact g2 hc
theorem s_geq {xs : List Opd} {q : IntKind} {a b : Int} {d : Nat} {kp : List Opd} {r : List AI} (h : opds env xs = [.int q a, .int q b])
    (g1 : b ≤ a → RR call r K ((d, .bool true) :: env) H res) (g2 : ¬ b ≤ a → RR call r K ((d, .bool false) :: env) H res) : RR call (⟨.inl (.bin .geq), xs, some d, none, kp⟩ :: r) K env H res := ⟨raw_s_geq h (fun x => (g1 x).eq) (fun x => (g2 x).eq)⟩
theorem raw_s_eql {xs : List Opd} {q : IntKind} {a b : Int} {d : Nat} {kp : List Opd} {r : List AI} (h : opds env xs = [.int q a, .int q b])
    (g1 : a = b → evR call r K ((d, .bool true) :: env) H = res) (g2 : ¬ a = b → evR call r K ((d, .bool false) :: env) H = res) : evR call (⟨.inl (.bin .eql), xs, some d, none, kp⟩ :: r) K env H = res := by
  refine raw_s_p (v := .bool (a == b)) (by rw [h]; simp [evP, binV, isShift, binInt]) ?_
  by_cases hc : a = b
  · have : (a == b) = true := by simp [hc]
    rw [this]; exact g1 hc
  · have : (a == b) = false := by simp [hc]
    rw [this]; exact g2 hc
theorem s_eql {xs : List Opd} {q : IntKind} {a b : Int} {d : Nat} {kp : List Opd} {r : List AI} (h : opds env xs = [.int q a, .int q b])
    (g1 : a = b → RR call r K ((d, .bool true) :: env) H res) (g2 : ¬ a = b → RR call r K ((d, .bool false) :: env) H res) : RR call (⟨.inl (.bin .eql), xs, some d, none, kp⟩ :: r) K env H res := ⟨raw_s_eql h (fun x => (g1 x).eq) (fun x => (g2 x).eq)⟩
theorem raw_s_neq {xs : List Opd} {q : IntKind} {a b : Int} {d : Nat} {kp : List Opd} {r : List AI} (h : opds env xs = [.int q a, .int q b])
    (g1 : a = b → evR call r K ((d, .bool false) :: env) H = res) (g2 : ¬ a = b → evR call r K ((d, .bool true) :: env) H = res) : evR call (⟨.inl (.bin .neq), xs, some d, none, kp⟩ :: r) K env H = res := by
  refine raw_s_p (v := .bool (a != b)) (by rw [h]; simp [evP, binV, isShift, binInt]) ?_
  by_cases hc : a = b
  · have : (a != b) = false := by simp [hc]
    rw [this]; exact g1 hc
  · have : (a != b) = true := by simp [hc]
    rw [this]; exact g2 hc
theorem s_neq {xs : List Opd} {q : IntKind} {a b : Int} {d : Nat} {kp : List Opd} {r : List AI} (h : opds env xs = [.int q a, .int q b])
    (g1 : a = b → RR call r K ((d, .bool false) :: env) H res) (g2 : ¬ a = b → RR call r K ((d, .bool true) :: env) H res) : RR call (⟨.inl (.bin .neq), xs, some d, none, kp⟩ :: r) K env H res := ⟨raw_s_neq h (fun x => (g1 x).eq) (fun x => (g2 x).eq)⟩
theorem s_pd {p : PO} {xs : List Opd} {d : Nat} {kp : List Opd} {r : List AI} {v : AV} (h : evP H p (opds env xs) = some v) (g : RR call r K ((d, v) :: env) H res) :
    RR call (⟨.inl p, xs, some d, none, kp⟩ :: r) K env H res := s_p h g
theorem wrapI {a : Int} (h : -9223372036854775808 ≤ a ∧ a < 9223372036854775808) : IntKind.i64.wrap a = a := IntWalk.i64_in a (by omega)
theorem raw_s_add {xs : List Opd} {a b : Int} {d : Nat} {kp : List Opd} {r : List AI} (h : opds env xs = [.int .i64 a, .int .i64 b]) (hr : -9223372036854775808 ≤ a + b ∧ a + b < 9223372036854775808)
    (g : evR call r K ((d, .int .i64 (a + b)) :: env) H = res) : evR call (⟨.inl (.bin .add), xs, some d, none, kp⟩ :: r) K env H = res :=
  raw_s_p (v := .int .i64 (a + b)) (by rw [h]; simp [evP, binV, isShift, binInt, wrapI hr]) g
theorem s_add {xs : List Opd} {a b : Int} {d : Nat} {kp : List Opd} {r : List AI} (h : opds env xs = [.int .i64 a, .int .i64 b]) (hr : -9223372036854775808 ≤ a + b ∧ a + b < 9223372036854775808)
    (g : RR call r K ((d, .int .i64 (a + b)) :: env) H res) : RR call (⟨.inl (.bin .add), xs, some d, none, kp⟩ :: r) K env H res := ⟨raw_s_add h hr g.eq⟩
theorem raw_s_sub {xs : List Opd} {a b : Int} {d : Nat} {kp : List Opd} {r : List AI} (h : opds env xs = [.int .i64 a, .int .i64 b]) (hr : -9223372036854775808 ≤ a - b ∧ a - b < 9223372036854775808)
    (g : evR call r K ((d, .int .i64 (a - b)) :: env) H = res) : evR call (⟨.inl (.bin .sub), xs, some d, none, kp⟩ :: r) K env H = res :=
  raw_s_p (v := .int .i64 (a - b)) (by rw [h]; simp [evP, binV, isShift, binInt, wrapI hr]) g
theorem s_sub {xs : List Opd} {a b : Int} {d : Nat} {kp : List Opd} {r : List AI} (h : opds env xs = [.int .i64 a, .int .i64 b]) (hr : -9223372036854775808 ≤ a - b ∧ a - b < 9223372036854775808)
    (g : RR call r K ((d, .int .i64 (a - b)) :: env) H res) : RR call (⟨.inl (.bin .sub), xs, some d, none, kp⟩ :: r) K env H res := ⟨raw_s_sub h hr g.eq⟩
theorem raw_s_e {e : EO} {xs : List Opd} {dst : Option Nat} {r : List AI} {v : AV} {H' : Heap} (h : evE call H e (opds env xs) = some (v, H')) (g : evR call r K (putE env dst v) H' = res) :
    evR call (⟨.inr e, xs, dst, none, []⟩ :: r) K env H = res := by
  simpa only [evR, evI, h, Option.bind_some, opds, keptOk, if_true] using g
theorem raw_s_call {frz : Bool} {f : Nat} {xs : List Opd} {dst : Option Nat} {r : List AI} {v : AV} {H' : Heap} (h : callPure call frz f (opds env xs) H = some (v, H')) (g : evR call r K (putE env dst v) H' = res) :
    evR call (⟨.inr (.call true frz f), xs, dst, none, []⟩ :: r) K env H = res := raw_s_e (by simpa only [evE] using h) g
theorem raw_s_callB {frz : Bool} {f : Nat} {xs : List Opd} {d : Nat} {r : List AI} {p : Prop} [Decidable p] (h : callPure call frz f (opds env xs) H = some (.bool (decide p), H))
    (g1 : p → evR call r K ((d, .bool true) :: env) H = res) (g2 : ¬ p → evR call r K ((d, .bool false) :: env) H = res) :
    evR call (⟨.inr (.call true frz f), xs, some d, none, []⟩ :: r) K env H = res := by
  refine raw_s_call h ?_
  by_cases hc : p <;> simp only [hc, decide_true, decide_false]
  · exact g1 hc
  · exact g2 hc
theorem s_callB {frz : Bool} {f : Nat} {xs : List Opd} {d : Nat} {r : List AI} {p : Prop} [Decidable p] (h : callPure call frz f (opds env xs) H = some (.bool (decide p), H))
    (g1 : p → RR call r K ((d, .bool true) :: env) H res) (g2 : ¬ p → RR call r K ((d, .bool false) :: env) H res) :
    RR call (⟨.inr (.call true frz f), xs, some d, none, []⟩ :: r) K env H res := ⟨raw_s_callB h (fun x => (g1 x).eq) (fun x => (g2 x).eq)⟩
theorem opds_nil {env : Env} : opds env [] = [] := rfl
theorem opds_cons {env : Env} {s : Opd} {r : List Opd} {v : AV} {vs : List AV} (h : opd env s = v) (g : opds env r = vs) : opds env (s :: r) = v :: vs := by simp [opds, h, g]
theorem s_pn {p : PO} {xs : List Opd} {d : Nat} {kp : List Opd} {r : List AI} {v : AV} {vs : List AV} (ho : opds env xs = vs) (h : evP H p vs = some v) (g : RR call r K ((d, v) :: env) H res) :
    RR call (⟨.inl p, xs, some d, none, kp⟩ :: r) K env H res := s_pd (ho ▸ h) g
theorem s_cn {frz : Bool} {f : Nat} {xs : List Opd} {d : Nat} {r : List AI} {v : AV} {vs : List AV} {H' : Heap} (ho : opds env xs = vs) (h : callPure call frz f vs H = some (v, H')) (g : RR call r K ((d, v) :: env) H' res) :
    RR call (⟨.inr (.call true frz f), xs, some d, none, []⟩ :: r) K env H res := ⟨raw_s_call (ho ▸ h) g.eq⟩
theorem s_cB {frz : Bool} {f : Nat} {xs : List Opd} {d : Nat} {r : List AI} {p : Prop} [Decidable p] {vs : List AV} (ho : opds env xs = vs) (h : callPure call frz f vs H = some (.bool (decide p), H))
    (g1 : p → RR call r K ((d, .bool true) :: env) H res) (g2 : ¬ p → RR call r K ((d, .bool false) :: env) H res) :
    RR call (⟨.inr (.call true frz f), xs, some d, none, []⟩ :: r) K env H res := s_callB (ho ▸ h) g1 g2
theorem s_en {e : EO} {xs : List Opd} {d : Nat} {r : List AI} {v : AV} {vs : List AV} {H' : Heap} (ho : opds env xs = vs) (h : evE call H e vs = some (v, H')) (g : RR call r K ((d, v) :: env) H' res) :
    RR call (⟨.inr e, xs, some d, none, []⟩ :: r) K env H res := ⟨raw_s_e (ho ▸ h) g.eq⟩
theorem s_st {e : EO} {xs : List Opd} {r : List AI} {v : AV} {vs : List AV} {H' : Heap} (ho : opds env xs = vs) (h : evE call H e vs = some (v, H')) (g : RR call r K env H' res) :
    RR call (⟨.inr e, xs, none, none, []⟩ :: r) K env H res := ⟨raw_s_e (ho ▸ h) g.eq⟩
end
theorem loop_gc {call : CallF} {it : IterF} {n k : Nat} {X : Nat → KT} {Rt : KT} {res : R} {live : List Nat} {c : AC} {σ : Type} (vals : σ → List AV) (heap : σ → Heap) (P : σ → Prop) (μ : σ → Nat)
    (step : ∀ s, P s → ∀ K : KT, (∀ s' env' H', P s' → μ s' < μ s → gc k (looks env' live) H' = some (vals s', heap s') → K env' H' = res) → RC call it n c k K X Rt (bindEnv live 0 (vals s)) (heap s) res) :
    ∀ fuel s env H, P s → μ s < fuel → gc k (looks env live) H = some (vals s, heap s) → loopIt fuel (fun K => evC call it n (.pre live c) k K X Rt) env H = res
  | 0, s, env, H, _, h, _ => by omega
  | fuel + 1, s, env, H, hp, hm, hg => by
    simp only [loopIt]
    refine raw_c_pre hg (step s hp _ fun s' env' H' hp' hm' hg' => ?_).eq
    exact loop_gc vals heap P μ step fuel s' env' H' hp' (by omega) hg'
theorem k_c {call : CallF} {it : IterF} {n k : Nat} {c : AC} {K Rt : KT} {X : Nat → KT} {env : Env} {H : Heap} {res : R} (h : RC call it n c k K X Rt env H res) : evC call it n c k K X Rt env H = res := h.eq
def iL (l : List Int) : List AV := l.map (.int .i64)
inductive IsL : AV → List Int → Prop
  | nil : IsL .nilS []
  | rd (l : List Int) : IsL (.rd 1 l.length (iL l)) l
theorem IsL.free {x l} (h : IsL x l) : x.idFree = true := by cases h <;> rfl
theorem IsL.len {x l} (h : IsL x l) : lenOf x = some l.length := by cases h <;> rfl
def getI (l : List Int) (i : Int) : Int := l.getD i.toNat 0
theorem p_len {x : AV} {l : List Int} {H : Heap} (h : IsL x l) : evP H .len [x] = some (.int .i64 (l.length : Int)) := by simp [evP, h.len]
theorem p_idx {x : AV} {l : List Int} {H : Heap} {q : IntKind} {i : Int} (h : IsL x l) (hi : 0 ≤ i ∧ i < l.length) : evP H (.idxA 1) [x, .int q i] = some (.rp (iL (l.drop i.toNat))) := by
  cases h with
  | nil => simp at hi; omega
  | rd l => simp [evP, idxSl, hi, iL, List.map_drop]
theorem p_ld {l : List Int} {H : Heap} {i : Int} (hi : 0 ≤ i ∧ i < l.length) : evP H (.ld false 1) [.rp (iL (l.drop i.toNat))] = some (.int .i64 (getI l i)) := by
  have h : i.toNat < l.length := by omega
  rw [List.drop_eq_getElem_cons h]
  simp only [evP, ldc, iL, List.map_cons, List.length_cons, Nat.le_add_left, if_true, List.take_succ_cons, List.take_zero, Option.bind_some, wholeOf, getI, List.getD, List.getElem?_eq_getElem h, Option.getD_some, Bool.false_eq_true, if_false]
theorem getI_nat (l : List Int) (i : Nat) : getI l (i : Int) = l.getD i 0 := by simp [getI]
theorem f_enter {tab : Nat → Option AFunc} {it : IterF} {m f : Nat} {np : Nat} {body : AC} {rs : List ARes} {args : List AV} {res : R} (ht : tab f = some ⟨np, body, rs⟩) (hl : Nat.beq args.length np = true)
    (g : RC (evF tab it m) it m body 0 (finish 0 rs) (fun _ _ _ => none) (finish 0 rs) (envOf 0 args) [] res) : evF tab it (m + 1) f args [] = res := by
  rw [evF_succ ht]
  unfold evFn
  rw [if_pos (Nat.eq_of_beq_eq_true hl)]
  exact g.eq
theorem f_enterH {tab : Nat → Option AFunc} {it : IterF} {m f : Nat} {np : Nat} {body : AC} {rs : List ARes} {args : List AV} {H : Heap} {res : R} (ht : tab f = some ⟨np, body, rs⟩) (hl : Nat.beq args.length np = true)
    (g : RC (evF tab it m) it m body H.length (finish H.length rs) (fun _ _ _ => none) (finish H.length rs) (envOf 0 args) H res) : evF tab it (m + 1) f args H = res := by
  rw [evF_succ ht]
  unfold evFn
  rw [if_pos (Nat.eq_of_beq_eq_true hl)]
  exact g.eq
theorem fin_t {n : Nat} {env : Env} {H : Heap} {res : R} {v : AV} (hr : look env n = v) (hf : v.idFree = true) (e : some (v, []) = res) : finish 0 [.t n] env H = res := by
  simp [finish, ress, resOf, hr, tupOf, gc_free (vs := [v]) (by simp [idFreeL, hf]) H, ← e]
theorem fin_tt {n n' : Nat} {env : Env} {H : Heap} {res : R} {v v' : AV} (hr : look env n = v) (hr' : look env n' = v') (hf : v.idFree = true) (hf' : v'.idFree = true) (e : some (.tup [v, v'], []) = res) : finish 0 [.t n, .t n'] env H = res := by
  simp [finish, ress, resOf, hr, hr', tupOf, gc_free (vs := [.tup [v, v']]) (by simp [idFreeL, AV.idFree, hf, hf']) H, ← e]
theorem leafT {p : Prop} [Decidable p] {H : Heap} (h : p) : some (AV.bool true, H) = some (AV.bool (decide p), H) := by simp [h]
theorem leafF {p : Prop} [Decidable p] {H : Heap} (h : ¬ p) : some (AV.bool false, H) = some (AV.bool (decide p), H) := by simp [h]
theorem looks_nil {env : Env} : looks env [] = [] := rfl
theorem looks_cons {env : Env} {s : Nat} {r : List Nat} {v : AV} {vs : List AV} (h : look env s = v) (g : looks env r = vs) : looks env (s :: r) = v :: vs := by simp [looks, h, g]
theorem c_preF {call : CallF} {it : IterF} {n : Nat} {K Rt : KT} {X : Nat → KT} {env : Env} {H : Heap} {res : R} {live : List Nat} {c : AC} {vs : List AV} (hv : looks env live = vs) (hf : idFreeL vs = true)
    (h : RC call it n c 0 K X Rt (bindEnv live 0 vs) [] res) : RC call it n (.pre live c) 0 K X Rt env H res := c_pre (by rw [hv]; exact gc_free hf H) h
theorem gc_to {env : Env} {H : Heap} {live : List Nat} {vs : List AV} (hv : looks env live = vs) (hf : idFreeL vs = true) : gc 0 (looks env live) H = some (vs, []) := by rw [hv]; exact gc_free hf H
attribute [irreducible] getI
def fzL (l : List Int) : AV := match l with
  | [] => .nilS
  | x :: r => .rd 1 (r.length + 1) (iL (x :: r))
theorem isL_fz (l : List Int) : IsL (fzL l) l := by
  cases l with
  | nil => exact .nil
  | cons x r => exact .rd (x :: r)
inductive IsLL : AV → List (List Int) → Prop
  | nil : IsLL .nilS []
  | rd (cs : List AV) (ll : List (List Int)) (hl : cs.length = ll.length) (h : ∀ i, i < ll.length → IsL (cs.getD i .undef) (ll.getD i [])) : IsLL (.rd 1 ll.length cs) ll
def llc : AV → List AV
  | .rd _ _ cs => cs
  | _ => []
def llAt (x : AV) (i : Int) : AV := (llc x).getD i.toNat .undef
def getLL (ll : List (List Int)) (i : Int) : List Int := ll.getD i.toNat []
theorem getLL_nat (l : List (List Int)) (i : Nat) : getLL l (i : Int) = l.getD i [] := by simp [getLL]
theorem IsLL.free {x l} (h : IsLL x l) : x.idFree = true := by cases h <;> rfl
theorem IsLL.len {x l} (h : IsLL x l) : lenOf x = some l.length := by cases h <;> rfl
theorem p_lenLL {x : AV} {l : List (List Int)} {H : Heap} (h : IsLL x l) : evP H .len [x] = some (.int .i64 (l.length : Int)) := by simp [evP, h.len]
theorem p_idxLL {x : AV} {l : List (List Int)} {H : Heap} {q : IntKind} {i : Int} (h : IsLL x l) (hi : 0 ≤ i ∧ i < l.length) : evP H (.idxA 1) [x, .int q i] = some (.rp ((llc x).drop i.toNat)) := by
  cases h with
  | nil => simp at hi; omega
  | rd cs l => simp [evP, idxSl, hi, llc]
theorem p_ldLL {x : AV} {l : List (List Int)} {H : Heap} {i : Int} (h : IsLL x l) (hi : 0 ≤ i ∧ i < l.length) : evP H (.ld false 1) [.rp ((llc x).drop i.toNat)] = some (llAt x i) := by
  have hn : i.toNat < l.length := by omega
  cases h with
  | nil => simp at hn
  | rd cs l hl h =>
    have hn' : i.toNat < cs.length := by omega
    simp only [llc]
    rw [List.drop_eq_getElem_cons hn']
    simp only [evP, ldc, List.length_cons, Nat.le_add_left, if_true, List.take_succ_cons, List.take_zero, Option.bind_some, wholeOf, List.getD, List.getElem?_eq_getElem hn', Option.getD_some, Bool.false_eq_true, if_false, llAt, llc]
theorem IsLL.at {x : AV} {l : List (List Int)} {i : Int} (h : IsLL x l) (hi : 0 ≤ i ∧ i < l.length) : IsL (llAt x i) (getLL l i) := by
  have hn : i.toNat < l.length := by omega
  cases h with
  | nil => simp at hn
  | rd cs l hl h => exact h _ hn
def fzLL (l : List (List Int)) : AV := match l with
  | [] => .nilS
  | x :: r => .rd 1 (r.length + 1) ((x :: r).map fzL)
theorem isLL_fz (l : List (List Int)) : IsLL (fzLL l) l := by
  cases l with
  | nil => exact .nil
  | cons x r =>
    refine .rd ((x :: r).map fzL) (x :: r) (by simp) fun i hi => ?_
    have : i < ((x :: r).map fzL).length := by simpa using hi
    simp only [List.getD, List.getElem?_eq_getElem this, List.getElem?_eq_getElem hi, Option.getD_some, List.getElem_map]
    exact isL_fz _
theorem IsL.one {x l} (h : IsL x l) : x.one = true := by cases h <;> rfl
theorem IsLL.one {x l} (h : IsLL x l) : x.one = true := by cases h <;> rfl
theorem IsL.solid {x l} (h : IsL x l) : x.solid = true := by cases h <;> rfl
theorem IsLL.solid {x l} (h : IsLL x l) : x.solid = true := by cases h <;> rfl
theorem idf_int {k : IntKind} {n : Int} : (AV.int k n).idFree = true := rfl
theorem idf_bool {b : Bool} : (AV.bool b).idFree = true := rfl
theorem idf_nilS : AV.nilS.idFree = true := rfl
theorem idf_rd {a b : Nat} {c : List AV} : (AV.rd a b c).idFree = true := rfl
theorem cells_sl {a b c d : Nat} : (AV.sl a b c d).cells = [.sl a b c d] := rfl
theorem cells_int {k : IntKind} {n : Int} : (AV.int k n).cells = [.int k n] := rfl
theorem cells_bool {b : Bool} : (AV.bool b).cells = [.bool b] := rfl
theorem cells_nilS : AV.nilS.cells = [.nilS] := rfl
theorem cells_rd {a b : Nat} {c : List AV} : (AV.rd a b c).cells = [.rd a b c] := rfl
theorem cells_agg {c : List AV} : (AV.agg c).cells = c := rfl
theorem reach_skip {H : Heap} {k : Nat} {acc : List Nat} {v : AV} {r : List AV} (h : v.idFree = true) : reach H (k + 1) acc (v :: r) = reach H k acc r := by
  cases v <;> simp only [AV.idFree, Bool.false_eq_true] at h <;> simp [reach, h]
theorem reach_int {H : Heap} {k : Nat} {acc : List Nat} {q : IntKind} {n : Int} {r : List AV} : reach H (k + 1) acc (.int q n :: r) = reach H k acc r := reach_skip rfl
theorem reach_bool {H : Heap} {k : Nat} {acc : List Nat} {b : Bool} {r : List AV} : reach H (k + 1) acc (.bool b :: r) = reach H k acc r := reach_skip rfl
theorem reach_nilS {H : Heap} {k : Nat} {acc : List Nat} {r : List AV} : reach H (k + 1) acc (.nilS :: r) = reach H k acc r := reach_skip rfl
theorem reach_rd {H : Heap} {k : Nat} {acc : List Nat} {a b : Nat} {c : List AV} {r : List AV} : reach H (k + 1) acc (.rd a b c :: r) = reach H k acc r := reach_skip rfl
theorem reach_new {H : Heap} {k id a b c : Nat} {acc : List Nat} {r : List AV} : reach H (k + 1) acc (.sl id a b c :: r) = if acc.contains id then reach H k acc r else reach H k (acc ++ [id]) (boxCells H id ++ r) := by simp only [reach]
theorem reach_newp {H : Heap} {k id a : Nat} {acc : List Nat} {r : List AV} : reach H (k + 1) acc (.ptr id a :: r) = if acc.contains id then reach H k acc r else reach H k (acc ++ [id]) (boxCells H id ++ r) := by simp only [reach]
theorem reach_agg {H : Heap} {k : Nat} {acc : List Nat} {cs : List AV} {r : List AV} : reach H (k + 1) acc (.agg cs :: r) = if idFreeL cs then reach H k acc r else reach H k acc (cs ++ r) := by simp only [reach]
theorem reach_tup {H : Heap} {k : Nat} {acc : List Nat} {cs : List AV} {r : List AV} : reach H (k + 1) acc (.tup cs :: r) = if idFreeL cs then reach H k acc r else reach H k acc (cs ++ r) := by simp only [reach]
theorem idf_sl {a b c d : Nat} : (AV.sl a b c d).idFree = false := rfl
theorem idf_ptr {a b : Nat} : (AV.ptr a b).idFree = false := rfl
theorem reach_end {H : Heap} {k : Nat} {acc : List Nat} : reach H k acc [] = acc := by cases k <;> simp [reach]
def tkL (x : AV) (h : Int) : AV := match x with
  | .rd _ _ cs => .rd 1 h.toNat (cs.take h.toNat)
  | _ => .nilS
theorem p_slc0 {x : AV} {l : List Int} {H : Heap} {q : IntKind} {h : Int} (hx : IsL x l) (hh : 0 ≤ h ∧ h ≤ l.length) : evP H (.slc 1 false true) [x, .int q h] = some (tkL x h) := by
  have h0 : 0 ≤ h := hh.1
  cases hx with
  | nil =>
    have : h = 0 := by simp at hh; omega
    subst this; rfl
  | rd l =>
    have : h.toNat ≤ l.length := by omega
    simp [evP, natOf, h0, slcOf, this, tkL]
def ownV (id : Nat) (l : List AV) : AV := match l with
  | [] => .nilS
  | x :: r => .sl id 1 0 (r.length + 1)
def owH (l : List AV) : Heap := match l with
  | [] => []
  | x :: r => [some (.data (x :: r))]
theorem e_app_nil {call : CallF} {q : Nat} {H : Heap} {cs : List AV} {y : AV} {n : Nat} (hy : y = .rd 1 n cs) (hn : n ≠ 0) (hm : n ≤ most) : evE call H (.app false 1 q) [.nilS, y] = some (.sl H.length 1 0 n, H ++ [some (.data cs)]) := by
  subst hy
  simp [evE, appOf, szOk, lenOf, rowOf, hn, hm, killRow, newRow]
theorem e_app_sl {call : CallF} {q id : Nat} {H : Heap} {cs bs : List AV} {n k : Nat} (h : H.data? id = some cs) (hl : cs.length = k) (hn : n ≠ 0) (hm : k + n ≤ most) : evE call H (.app false 1 q) [.sl id 1 0 k, .rd 1 n bs] = some (.sl (H.set id none).length 1 0 (k + n), H.set id none ++ [some (.data (cs ++ bs))]) := by
  subst hl
  simp [evE, appOf, szOk, lenOf, rowOf, hn, hm, killRow, newRow, h]
structure Gm where
  owner : List Int
  rank : List Int
  next : List (List Int)
def IsG (x : AV) (g : Gm) : Prop := ∃ o r n, x = .agg [o, r, n] ∧ IsL o g.owner ∧ IsL r g.rank ∧ IsLL n g.next
theorem IsG.free {x g} (h : IsG x g) : x.idFree = true := by
  obtain ⟨o, r, n, rfl, h1, h2, h3⟩ := h
  simp [AV.idFree, idFreeL, h1.free, h2.free, h3.free]
theorem tkL_rd {x : AV} {l : List Int} (hx : IsL x l) {h : Int} (hh : 0 < h ∧ h ≤ l.length) : tkL x h = .rd 1 h.toNat (iL (l.take h.toNat)) := by
  cases hx with
  | nil => simp at hh; omega
  | rd l => simp [tkL, iL, List.map_take]
theorem tkL_len {x : AV} {l : List Int} (hx : IsL x l) : lenOf (tkL x 0) = some 0 ∧ szOk 1 (tkL x 0) = true := by
  cases hx <;> exact ⟨rfl, rfl⟩
theorem e_app_none {call : CallF} {q : Nat} {H : Heap} {y : AV} (h1 : lenOf y = some 0) (h2 : szOk 1 y = true) : evE call H (.app false 1 q) [.nilS, y] = some (.nilS, H) := by
  have h3 : lenOf .nilS = some 0 := rfl
  have h4 : szOk 1 .nilS = true := rfl
  simp only [evE, appOf, h1, h2, h3, h4, Bool.and_self, if_true, Option.bind_some, Bool.false_and, Bool.false_eq_true, if_false]
theorem fzL_free (l : List Int) : (fzL l).idFree = true := (isL_fz l).free
theorem frz_own (l : List Int) : frzV (owH (iL l)) 140 (ownV 0 (iL l)) = some (fzL l) := by
  rcases l with _ | ⟨a, r⟩
  · rfl
  · simp [ownV, owH, iL, frzV, Heap.data?, fzL, List.take_of_length_le]
section
variable {call : CallF} {K : KT} {env : Env} {H : Heap} {res : R}
theorem s_gFD {p : EO} {xs : List Opd} {d : Nat} {s : Nat} {b : Bool} {r : List AI} (hs : asG (look env s) b = some false) (g : RR call r K ((d, .tup []) :: env) H res) :
    RR call (⟨.inr p, xs, some d, some (s, b), []⟩ :: r) K env H res := s_gFE hs g
theorem isE {e : EO} {xs : List Opd} {dst : Option Nat} {r : List AI} (g : RR call (⟨.inr e, xs, dst, none, []⟩ :: r) K env H res) : RR call (⟨.inr e, xs, dst, none, []⟩ :: r) K env H res := g
theorem s_len {x : Opd} {d : Nat} {kp : List Opd} {r : List AI} {v : AV} {l : List Int} (h1 : opd env x = v) (hx : IsL v l) (g : RR call r K ((d, .int .i64 (l.length : Int)) :: env) H res) :
    RR call (⟨.inl .len, [x], some d, none, kp⟩ :: r) K env H res := s_pd (by simpa only [opds, h1] using p_len hx) g
theorem s_lenLL {x : Opd} {d : Nat} {kp : List Opd} {r : List AI} {v : AV} {l : List (List Int)} (h1 : opd env x = v) (hx : IsLL v l) (g : RR call r K ((d, .int .i64 (l.length : Int)) :: env) H res) :
    RR call (⟨.inl .len, [x], some d, none, kp⟩ :: r) K env H res := s_pd (by simpa only [opds, h1] using p_lenLL hx) g
theorem s_idx {x y : Opd} {d : Nat} {kp : List Opd} {r : List AI} {v : AV} {l : List Int} {q : IntKind} {i : Int} (h1 : opd env x = v) (h2 : opd env y = .int q i) (hx : IsL v l) (hi : 0 ≤ i ∧ i < l.length) (g : RR call r K ((d, .rp (iL (l.drop i.toNat))) :: env) H res) :
    RR call (⟨.inl (.idxA 1), [x, y], some d, none, kp⟩ :: r) K env H res := s_pd (by simpa only [opds, h1, h2] using p_idx hx hi) g
theorem s_idxLL {x y : Opd} {d : Nat} {kp : List Opd} {r : List AI} {v : AV} {l : List (List Int)} {q : IntKind} {i : Int} (h1 : opd env x = v) (h2 : opd env y = .int q i) (hx : IsLL v l) (hi : 0 ≤ i ∧ i < l.length) (g : RR call r K ((d, .rp ((llc v).drop i.toNat)) :: env) H res) :
    RR call (⟨.inl (.idxA 1), [x, y], some d, none, kp⟩ :: r) K env H res := s_pd (by simpa only [opds, h1, h2] using p_idxLL hx hi) g
theorem s_ldI {x : Opd} {d : Nat} {kp : List Opd} {r : List AI} {l : List Int} {i : Int} (h1 : opd env x = .rp (iL (l.drop i.toNat))) (hi : 0 ≤ i ∧ i < l.length) (g : RR call r K ((d, .int .i64 (getI l i)) :: env) H res) :
    RR call (⟨.inl (.ld false 1), [x], some d, none, kp⟩ :: r) K env H res := s_pd (by simpa only [opds, h1] using p_ld hi) g
theorem s_ldLL {x : Opd} {d : Nat} {kp : List Opd} {r : List AI} {v : AV} {l : List (List Int)} {i : Int} (h1 : opd env x = .rp ((llc v).drop i.toNat)) (hx : IsLL v l) (hi : 0 ≤ i ∧ i < l.length) (g : RR call r K ((d, llAt v i) :: env) H res) :
    RR call (⟨.inl (.ld false 1), [x], some d, none, kp⟩ :: r) K env H res := s_pd (by simpa only [opds, h1] using p_ldLL hx hi) g
end
attribute [irreducible] tkL llAt fzL fzLL getLL
def bL (l : List Bool) : List AV := l.map .bool
def getB (l : List Bool) (i : Int) : Bool := l.getD i.toNat false
theorem bL_len (l : List Bool) : (bL l).length = l.length := by simp [bL]
theorem iL_len (l : List Int) : (iL l).length = l.length := by simp [iL]
theorem getB_nat (l : List Bool) (i : Nat) : getB l (i : Int) = l.getD i false := by simp [getB]
section
variable {call : CallF} {K : KT} {env : Env} {H : Heap} {res : R}
theorem p_ldB {id : Nat} {b : List Bool} {i : Int} (hH : H.cells? id = some (bL b)) (hi : i.toNat < b.length) : evP H (.ld false 1) [.ptr id (0 + i.toNat * 1)] = some (.bool (getB b i)) := by
  have h : 0 + i.toNat * 1 = i.toNat := by omega
  have h2 : i.toNat + 1 ≤ (bL b).length := by rw [bL_len]; omega
  simp only [evP, ldc, h, getRow, hH, Option.bind_some, if_pos h2]
  have e : (bL b).drop i.toNat = .bool b[i.toNat] :: (b.drop (i.toNat + 1)).map .bool := by
    simp only [bL]
    rw [← List.map_drop, List.drop_eq_getElem_cons hi, List.map_cons]
  rw [e]
  simp [wholeOf, getB, hi]
theorem putRow_bL {b : List Bool} {i : Nat} {v : Bool} (hi : i < b.length) : putRow (bL b) i [.bool v] = bL (b.set i v) := by
  simp only [putRow, bL, List.length_cons, List.length_nil, List.map_set]
  rw [List.set_eq_take_append_cons_drop]
  simp [hi]
theorem e_stB {id : Nat} {i : Int} {b : List Bool} {v : Bool} (hH : H.data? id = some (bL b)) (hi : i.toNat < b.length) : evE call H (.st 1) [.ptr id (0 + i.toNat * 1), .bool v] = some (.undef, H.set id (some (.data (bL (b.set i.toNat v))))) := by
  have h : 0 + i.toNat * 1 = i.toNat := by omega
  have h2 : i.toNat + 1 ≤ (bL b).length := by rw [bL_len]; omega
  have h3 : H[id]? = some (some (.data (bL b))) := by
    unfold Heap.data? at hH
    split at hH
    · rename_i e; cases hH; exact e
    · cases hH
  simp only [evE, stAt, h, cells_bool, List.length_cons, List.length_nil, oneL, AV.one, Bool.and_self, and_self, if_true, h3, Nat.zero_add, idFreeL, idf_bool]
  rw [if_pos ⟨h2, trivial⟩]
  simp [putRow_bL hi]
theorem s_idxS {x y : Opd} {d : Nat} {kp : List Opd} {r : List AI} {q : IntKind} {i : Int} {id len : Nat} (h1 : opd env x = .sl id 1 0 len) (h2 : opd env y = .int q i) (hi : 0 ≤ i ∧ i < len) (g : RR call r K ((d, .ptr id (0 + i.toNat * 1)) :: env) H res) :
    RR call (⟨.inl (.idxA 1), [x, y], some d, none, kp⟩ :: r) K env H res := s_pd (v := .ptr id (0 + i.toNat * 1)) (by simp [opds, h1, h2, evP, idxSl, hi]) g
theorem putRow_iL {b : List Int} {i : Nat} {v : Int} (hi : i < b.length) : putRow (iL b) i [.int .i64 v] = iL (b.set i v) := by
  simp only [putRow, iL, List.length_cons, List.length_nil, List.map_set]
  rw [List.set_eq_take_append_cons_drop]
  simp [hi]
theorem e_stI {id : Nat} {i : Int} {b : List Int} {v : Int} (hH : H.data? id = some (iL b)) (hi : i.toNat < b.length) : evE call H (.st 1) [.ptr id (0 + i.toNat * 1), .int .i64 v] = some (.undef, H.set id (some (.data (iL (b.set i.toNat v))))) := by
  have h : 0 + i.toNat * 1 = i.toNat := by omega
  have h2 : i.toNat + 1 ≤ b.length := by omega
  have h3 : H[id]? = some (some (.data (iL b))) := by
    unfold Heap.data? at hH
    split at hH
    · rename_i e; cases hH; exact e
    · cases hH
  simp [evE, stAt, h, cells_int, oneL, AV.one, h3, idFreeL, idf_int, iL_len, h2, putRow_iL hi]
end
attribute [irreducible] getB bL
section
variable {n : Nat} {K Rt : KT} {X : Nat → KT} {env : Env} {H : Heap} {res : R}
end
section
variable {call : CallF} {K : KT} {env : Env} {H : Heap} {res : R}
theorem s_lenSl {x : Opd} {d : Nat} {kp : List Opd} {r : List AI} {id sz off len : Nat} (h1 : opd env x = .sl id sz off len) (g : RR call r K ((d, .int .i64 (len : Int)) :: env) H res) :
    RR call (⟨.inl .len, [x], some d, none, kp⟩ :: r) K env H res := s_pd (by simp [opds, h1, evP, lenOf]) g
theorem iL_noRd : ∀ l : List Int, hasRdL (iL l) = false
  | [] => rfl
  | b :: l => by simpa [iL, hasRdL, AV.hasRd] using iL_noRd l
theorem e_mkI {H : Heap} {n : Nat} (h : n ≤ most) : evE call H (.mkS 1 8 [.int .i64 0]) [.int .i64 n, .int .i64 n] = some (.sl H.length 1 0 n, H ++ [some (.data (iL (List.replicate n 0)))]) := by
  have : (n : Int) ≤ most := by omega
  have h2 : ∀ n : Nat, repl n [.int .i64 0] = iL (List.replicate n 0) := fun n => by
    induction n with
    | zero => rfl
    | succ n ih => simp [repl, ih, iL, List.replicate_succ]
  simp [evE, this, h2]
end
def refs : List Nat → List (List AV) → List AV
  | i :: is, l :: r => .sl i 1 0 l.length :: refs is r
  | _, _ => []
theorem refs_length : ∀ {is : List Nat} {ll : List (List AV)}, is.length = ll.length → (refs is ll).length = ll.length
  | [], [], _ => rfl
  | [], _ :: _, h => by simp at h
  | _ :: _, [], h => by simp at h
  | i :: is, l :: ll, h => by simp [refs, refs_length (is := is) (ll := ll) (by simpa using h)]
theorem refs_append : ∀ {is js : List Nat} {ll mm : List (List AV)}, is.length = ll.length → refs (is ++ js) (ll ++ mm) = refs is ll ++ refs js mm
  | [], js, [], mm, _ => rfl
  | [], _, _ :: _, _, h => by simp at h
  | _ :: _, _, [], _, h => by simp at h
  | i :: is, js, l :: ll, mm, h => by simp [refs, refs_append (is := is) (ll := ll) (by simpa using h)]
theorem refs_get : ∀ {is : List Nat} {ll : List (List AV)} {j i : Nat} {l : List AV}, is[j]? = some i → ll[j]? = some l → (refs is ll)[j]? = some (.sl i 1 0 l.length)
  | [], _, _, _, _, h, _ => by simp at h
  | _ :: _, [], _, _, _, _, h => by simp at h
  | a :: is, b :: ll, 0, i, l, h1, h2 => by simp at h1 h2; subst h1; subst h2; simp [refs]
  | a :: is, b :: ll, j + 1, i, l, h1, h2 => by simpa [refs] using refs_get (is := is) (ll := ll) (by simpa using h1) (by simpa using h2)
theorem reach_refs {H : Heap} : ∀ (is : List Nat) (ll : List (List AV)) (k : Nat) (acc : List Nat) (r : List AV), is.length = ll.length → (∀ i ∈ is, i ∉ acc) → is.Nodup → (∀ i ∈ is, boxCells H i = []) →
    reach H (k + is.length) acc (refs is ll ++ r) = reach H k (acc ++ is) r
  | [], [], k, acc, r, _, _, _, _ => by simp [refs]
  | [], _ :: _, _, _, _, h, _, _, _ => by simp at h
  | _ :: _, [], _, _, _, h, _, _, _ => by simp at h
  | i :: is, l :: ll, k, acc, r, h, hd, hn, hb => by
    have h1 : i ∉ acc := hd i (by simp)
    obtain ⟨hn1, hn2⟩ := List.nodup_cons.1 hn
    rw [List.length_cons, ← Nat.add_assoc, refs, List.cons_append, reach_new]
    have : acc.contains i = false := by simpa using h1
    rw [this, hb i (by simp)]
    simp only [Bool.false_eq_true, if_false, List.nil_append]
    rw [reach_refs is ll k (acc ++ [i]) r (by simpa using h) (fun j hj => by
      simp only [List.mem_append, List.mem_singleton, not_or]
      exact ⟨hd j (by simp [hj]), fun e => hn1 (e ▸ hj)⟩) hn2 (fun j hj => hb j (by simp [hj]))]
    simp
theorem reach_refs' {H : Heap} {is : List Nat} {ll : List (List AV)} {k : Nat} {acc : List Nat} {r : List AV} (hk : is.length ≤ k) (h : is.length = ll.length) (hd : ∀ i ∈ is, i ∉ acc) (hn : is.Nodup) (hb : ∀ i ∈ is, boxCells H i = []) :
    reach H k acc (refs is ll ++ r) = reach H (k - is.length) (acc ++ is) r := by
  obtain ⟨j, rfl⟩ : ∃ j, k = j + is.length := ⟨k - is.length, by omega⟩
  rw [reach_refs is ll j acc r h hd hn hb, Nat.add_sub_cancel]
theorem nodupB_iff : ∀ {φ : List Nat}, nodupB φ = true ↔ φ.Nodup
  | [] => by simp [nodupB]
  | x :: xs => by simp [nodupB, nodupB_iff (φ := xs)]
theorem renL_append {f : Nat → Option Nat} : ∀ (xs ys : List AV), renL f (xs ++ ys) = (renL f xs).bind fun a => (renL f ys).map fun b => a ++ b
  | [], ys => by simp [renL]
  | x :: xs, ys => by
    simp only [List.cons_append, renL, renL_append xs ys]
    cases x.ren f with
    | none => rfl
    | some y =>
      cases renL f xs with
      | none => rfl
      | some z => cases renL f ys <;> rfl
theorem pickO_append {H : Heap} : ∀ (xs ys : List Nat), pickO H (xs ++ ys) = (pickO H xs).bind fun a => (pickO H ys).map fun b => a ++ b
  | [], ys => by simp [pickO]
  | x :: xs, ys => by
    simp only [List.cons_append, pickO, pickO_append xs ys]
    cases H[x]? with
    | none => rfl
    | some y =>
      cases pickO H xs with
      | none => rfl
      | some z => cases pickO H ys <;> rfl
theorem renH_append {f : Nat → Option Nat} : ∀ (xs ys : Heap), renH f (xs ++ ys) = (renH f xs).bind fun a => (renH f ys).map fun b => a ++ b
  | [], ys => by simp [renH]
  | x :: xs, ys => by
    simp only [List.cons_append, renH, renH_append xs ys]
    cases renO f x with
    | none => rfl
    | some y =>
      cases renH f xs with
      | none => rfl
      | some z => cases renH f ys <;> rfl
theorem gc_of {k : Nat} {vs vs' : List AV} {H Hp H' : Heap} {φ : List Nat} (h1 : reach H 400 (rangeL k []) (roots H (rangeL k []) ++ vs) = φ) (h2 : nodupB φ = true) (h3 : renL (posOf φ) vs = some vs') (h4 : pickO H φ = some Hp) (h5 : renH (posOf φ) Hp = some H') :
    gc k vs H = some (vs', H') := by
  simp only [gc, subHeap, h1, h2, if_true, h3, h4, h5, Option.bind_some, Option.map_some]
theorem e_bldB1 {call : CallF} {H : Heap} {v z : AV} (h1 : v.cells = [v]) (h2 : v.solid = true) (h3 : v.one = true) : evE call H (.bldB 1 1 [z] [(0, 1)]) [v] = some (.sl H.length 1 0 1, H ++ [some (.box [v])]) := by
  simp [evE, repl, fillParts, h1, h2, oneL, h3, putPart, newBox]
theorem e_appB_nil {call : CallF} {q id : Nat} {H : Heap} {cs : List AV} {n : Nat} (h : H.cells? id = some cs) (hl : cs.length = n) (hn : n ≠ 0) (hm : n ≤ most) : evE call H (.appB 1 q) [.nilS, .sl id 1 0 n] = some (.sl H.length 1 0 n, H ++ [some (.box cs)]) := by
  subst hl
  simp [evE, appBOf, szOk, lenOf, rowC, hn, hm, killRow, newBox, h]
theorem e_appB_sl {call : CallF} {q id id2 : Nat} {H : Heap} {cs bs : List AV} {n k : Nat} (h : H.cells? id = some cs) (hl : cs.length = k) (h' : H.cells? id2 = some bs) (hl' : bs.length = n) (hn : n ≠ 0) (hm : k + n ≤ most) : evE call H (.appB 1 q) [.sl id 1 0 k, .sl id2 1 0 n] = some (.sl (H.set id none).length 1 0 (k + n), H.set id none ++ [some (.box (cs ++ bs))]) := by
  subst hl; subst hl'
  simp [evE, appBOf, szOk, lenOf, rowC, hn, hm, killRow, newBox, h, h']
theorem rows_box {H : Heap} {is : List Nat} {R : List (List AV)} (hl : is.length = R.length) (hR : ∀ (j i : Nat) (l : List AV), is[j]? = some i → R[j]? = some l → H[i]? = some (some (.data l))) : ∀ i ∈ is, boxCells H i = [] := by
  intro i hi
  obtain ⟨j, hj, rfl⟩ := List.mem_iff_getElem.1 hi
  have := hR j is[j] R[j] (List.getElem?_eq_getElem hj) (List.getElem?_eq_getElem (by omega))
  simp [boxCells, this]
section
variable {call : CallF} {K : KT} {env : Env} {H : Heap} {res : R} {xs : List Opd} {d : Nat} {kp : List Opd} {r : List AI}
theorem s_mul {a b : Int} (h : opds env xs = [.int .i64 a, .int .i64 b]) (hr : -9223372036854775808 ≤ a * b ∧ a * b < 9223372036854775808)
    (g : RR call r K ((d, .int .i64 (a * b)) :: env) H res) : RR call (⟨.inl (.bin .mul), xs, some d, none, kp⟩ :: r) K env H res :=
  s_pd (v := .int .i64 (a * b)) (by rw [h]; simp [evP, binV, isShift, binInt, wrapI hr]) g
theorem s_mulN {a b : Nat} (h : opds env xs = [.int .i64 (a : Int), .int .i64 (b : Int)]) (hr : a * b < 9223372036854775808)
    (g : RR call r K ((d, .int .i64 ((a * b : Nat) : Int)) :: env) H res) : RR call (⟨.inl (.bin .mul), xs, some d, none, kp⟩ :: r) K env H res :=
  s_mul h (by rw [← Int.natCast_mul]; omega) (by rw [← Int.natCast_mul]; exact g)
end
theorem reach_fn {H : Heap} {k : Nat} {acc : List Nat} {g : Nat} {cs : List AV} {r : List AV} : reach H (k + 1) acc (.fn g cs :: r) = if idFreeL cs then reach H k acc r else reach H k acc (cs ++ r) := by simp only [reach]
theorem reach_mp {H : Heap} {k : Nat} {acc : List Nat} {i : Nat} {r : List AV} : reach H (k + 1) acc (.mp i :: r) = if acc.contains i then reach H k acc r else reach H k (acc ++ [i]) (boxCells H i ++ r) := by simp only [reach]
theorem cells_fn {g : Nat} {cs : List AV} : (AV.fn g cs).cells = [.fn g cs] := rfl
theorem cells_ptr {i o : Nat} : (AV.ptr i o).cells = [.ptr i o] := rfl
theorem cells_mp {i : Nat} : (AV.mp i).cells = [.mp i] := rfl
theorem idf_mp {i : Nat} : (AV.mp i).idFree = false := rfl
theorem idf_fn {g : Nat} {cs : List AV} : (AV.fn g cs).idFree = idFreeL cs := by simp only [AV.idFree]
theorem idf_agg {cs : List AV} : (AV.agg cs).idFree = idFreeL cs := by simp only [AV.idFree]
theorem idf_tup {cs : List AV} : (AV.tup cs).idFree = idFreeL cs := by simp only [AV.idFree]
def CLe (c c' : CallF) : Prop := ∀ f args H r, c f args H = some r → c' f args H = some r
def KLe (K K' : KT) : Prop := ∀ env H r, K env H = some r → K' env H = some r
theorem KLe.refl (K : KT) : KLe K K := fun _ _ _ h => h
theorem callPure_mono {c c' : CallF} (hc : CLe c c') {frz : Bool} {f : Nat} {args : List AV} {H : Heap} {r : AV × Heap} (h : callPure c frz f args H = some r) : callPure c' frz f args H = some r := by
  simp only [callPure, Option.bind_eq_some_iff] at h ⊢
  obtain ⟨a, h1, b, h2, h3⟩ := h
  exact ⟨a, h1, b, hc _ _ _ _ h2, h3⟩
theorem callMut_mono {c c' : CallF} (hc : CLe c c') {f : Nat} {args : List AV} {H : Heap} {r : AV × Heap} (h : callMut c f args H = some r) : callMut c' f args H = some r := by
  simp only [callMut, Option.bind_eq_some_iff] at h ⊢
  obtain ⟨a, h1, b, h2, h3⟩ := h
  exact ⟨a, h1, b, hc _ _ _ _ h2, h3⟩
theorem evE_mono {c c' : CallF} (hc : CLe c c') {e : EO} {H : Heap} {vs : List AV} {r : AV × Heap} (h : evE c H e vs = some r) : evE c' H e vs = some r := by
  cases e with
  | call p frz f =>
    cases p with
    | true => exact callPure_mono hc h
    | false => exact callMut_mono hc h
  | callv p frz =>
    cases vs with
    | nil => cases p <;> simp [evE] at h
    | cons v vs =>
      cases v <;> cases p <;> first | (simp [evE] at h; done) | exact callPure_mono hc h | exact callMut_mono hc h
  | _ => rcases vs with _ | ⟨a, _ | ⟨b, _ | ⟨d, _ | ⟨g, vs⟩⟩⟩⟩ <;> first | exact h | (cases a <;> first | exact h | (cases b <;> exact h))
theorem evI_mono {c c' : CallF} (hc : CLe c c') {K K' : KT} (hK : KLe K K') (i : AI) : KLe (evI c i K) (evI c' i K') := by
  intro env H r h
  unfold evI at h ⊢
  split at h
  · simp only [Option.bind_eq_some_iff] at h ⊢
    obtain ⟨a, h1, h2⟩ := h
    exact ⟨a, h1, hK _ _ _ h2⟩
  · simp only [Option.bind_eq_some_iff] at h ⊢
    obtain ⟨a, h1, h2⟩ := h
    exact ⟨a, h1, hK _ _ _ h2⟩
  · simp only [Option.bind_eq_some_iff] at h ⊢
    obtain ⟨a, h1, h2⟩ := h
    refine ⟨a, evE_mono hc h1, ?_⟩
    split at h2
    · rename_i hk; rw [if_pos hk]; exact hK _ _ _ h2
    · cases h2
  · simp only [gdE, Option.bind_eq_some_iff] at h ⊢
    obtain ⟨a, ⟨t, h1, h2⟩, h3⟩ := h
    refine ⟨a, ⟨t, h1, ?_⟩, ?_⟩
    · cases t with
      | true => simpa using evE_mono hc (by simpa using h2)
      | false => simpa using h2
    · split at h3
      · rename_i hk; rw [if_pos hk]; exact hK _ _ _ h3
      · cases h3
theorem evR_mono {c c' : CallF} (hc : CLe c c') {K K' : KT} (hK : KLe K K') : ∀ ops : List AI, KLe (evR c ops K) (evR c' ops K')
  | [] => hK
  | i :: r => evI_mono hc (evR_mono hc hK r) i
theorem loopIt_mono {s s' : KT → KT} (hs : ∀ K K', KLe K K' → KLe (s K) (s' K')) : ∀ {n n' : Nat}, n ≤ n' → KLe (loopIt n s) (loopIt n' s')
  | 0, _, _ => fun env H r h => by simp [loopIt] at h
  | n + 1, 0, h => by omega
  | n + 1, n' + 1, h => fun env H r h' => hs _ _ (loopIt_mono hs (by omega : n ≤ n')) _ _ _ h'
theorem rangeIt_mono {s s' : (Heap → R) → AV → Heap → R} (hs : ∀ K K', (∀ H r, K H = some r → K' H = some r) → ∀ x H r, s K x H = some r → s' K' x H = some r) {K K' : Heap → R} (hK : ∀ H r, K H = some r → K' H = some r) :
    ∀ (xs : List AV) (H : Heap) (r : AV × Heap), rangeIt s xs K H = some r → rangeIt s' xs K' H = some r
  | [], H, r, h => hK H r h
  | x :: xs, H, r, h => hs _ _ (rangeIt_mono hs hK xs) x H r h
theorem evC_mono {c c' : CallF} (hc : CLe c c') {it : IterF} {n n' : Nat} (hn : n ≤ n') : ∀ (ac : AC) (k : Nat) {K K' : KT} {X X' : Nat → KT} {Rt Rt' : KT}, KLe K K' → (∀ i, KLe (X i) (X' i)) → KLe Rt Rt' → KLe (evC c it n ac k K X Rt) (evC c' it n' ac k K' X' Rt')
  | .skip, k, _, _, _, _, _, _, hK, hX, hR => hK
  | .ret, k, _, _, _, _, _, _, hK, hX, hR => hR
  | .reg ops o, k, _, _, _, _, _, _, hK, hX, hR => evR_mono hc hK ops
  | .seq a b, k, _, _, _, _, _, _, hK, hX, hR => evC_mono hc hn a k (evC_mono hc hn b k hK hX hR) hX hR
  | .cond x a b, k, _, _, _, _, _, _, hK, hX, hR => fun env H r h => by
    simp only [evC, ifB, Option.bind_eq_some_iff] at h ⊢
    obtain ⟨t, h1, h2⟩ := h
    refine ⟨t, h1, ?_⟩
    cases t with
    | true => exact evC_mono hc hn a k hK hX hR _ _ _ h2
    | false => exact evC_mono hc hn b k hK hX hR _ _ _ h2
  | .block id a, k, _, _, _, _, _, _, hK, hX, hR => evC_mono hc hn a k hK (fun i => by by_cases e : i = id <;> simp only [e, if_true, if_false] <;> first | exact hK | exact hX i) hR
  | .loop a, k, _, _, _, _, _, _, hK, hX, hR => loopIt_mono (fun K K' h => evC_mono hc hn a k h hX hR) hn
  | .exit i, k, _, _, _, _, _, _, hK, hX, hR => hX i
  | .pre l a, k, _, _, _, _, _, _, hK, hX, hR => fun env H r h => by
    simp only [evC, Option.bind_eq_some_iff] at h ⊢
    obtain ⟨t, h1, h2⟩ := h
    exact ⟨t, h1, evC_mono hc hn a k hK hX hR _ _ _ h2⟩
  | .fz s j a, k, _, _, _, _, _, _, hK, hX, hR => fun env H r h => by
    simp only [evC, Option.bind_eq_some_iff] at h ⊢
    obtain ⟨t, h1, h2⟩ := h
    exact ⟨t, h1, evC_mono hc hn a k hK hX hR _ _ _ h2⟩
  | .rangeF f p a b, k, _, _, _, _, _, _, hK, hX, hR => fun env H r h => by
    simp only [evC, Option.bind_eq_some_iff] at h ⊢
    obtain ⟨xs, h1, h2⟩ := h
    refine ⟨xs, h1, rangeIt_mono (fun K K' hk x H r h => ?_) (fun H r h => hK _ _ _ h) xs H r h2⟩
    exact evC_mono hc hn a _ (evC_mono hc hn b _ (fun _ H r h => hk H r h) (fun _ => KLe.refl _) (KLe.refl _)) (fun _ => KLe.refl _) (KLe.refl _) _ _ _ h
theorem evF_mono {tab : Nat → Option AFunc} {it : IterF} : ∀ {n n' : Nat}, n ≤ n' → CLe (evF tab it n) (evF tab it n')
  | 0, _, _ => fun f args H r h => by simp [evF] at h
  | n + 1, 0, h => by omega
  | n + 1, n' + 1, hn => fun f args H r h => by
    simp only [evF, Option.bind_eq_some_iff] at h ⊢
    obtain ⟨af, h1, h2⟩ := h
    refine ⟨af, h1, ?_⟩
    unfold evFn at h2 ⊢
    split at h2
    · rename_i hl
      rw [if_pos hl]
      exact evC_mono (evF_mono (by omega)) (by omega) af.body _ (KLe.refl _) (fun _ => KLe.refl _) (KLe.refl _) _ _ _ h2
    · cases h2
abbrev oMv (a d : Nat) : AI := ⟨.inl .mov, [.t a], some d, none, []⟩
abbrev oMc (a : AV) (d : Nat) : AI := ⟨.inl .mov, [.c a], some d, none, []⟩
abbrev oMg (a d s : Nat) (b : Bool) : AI := ⟨.inl .mov, [.t a], some d, some (s, b), []⟩
abbrev oIx (a b d : Nat) : AI := ⟨.inl (.idxA 1), [.t a, .t b], some d, none, []⟩
abbrev oLd (a d : Nat) : AI := ⟨.inl (.ld false 1), [.t a], some d, none, []⟩
abbrev oBn (o : BinOp) (a b d : Nat) : AI := ⟨.inl (.bin o), [.t a, .t b], some d, none, []⟩
abbrev oBc (o : BinOp) (a : Nat) (c : Int) (d : Nat) : AI := ⟨.inl (.bin o), [.t a, .c (.int .i64 c)], some d, none, []⟩
abbrev oLn (a d : Nat) : AI := ⟨.inl .len, [.t a], some d, none, []⟩
abbrev oCl (f : Nat) (xs : List Opd) (d : Nat) : AI := ⟨.inr (.call true true f), xs, some d, none, []⟩
abbrev oEx (k a d : Nat) : AI := ⟨.inl (.ext k), [.t a], some d, none, []⟩
abbrev oPk (a b : Nat) (c : Bool) (d : Nat) : AI := ⟨.inl .pick, [.t a, .t b, .c (.bool c)], some d, none, []⟩
section
variable {call : CallF} {it : IterF} {n : Nat} {K Rt : KT} {X : Nat → KT} {env : Env} {H : Heap} {res : R} {x y c : Opd} {xs : List Opd} {d : Nat} {kp : List Opd} {r : List AI} {v : AV} {q : IntKind} {l : List Int} {ll : List (List Int)} {i a b : Int}
theorem aW {α : Type} {u w : α} (h : u = w := by (conv => lhs; whnf); done) : u = w := h
theorem aO {vs : List AV} (h : opds env xs = vs := by (repeat (first | apply opds_nil | (apply opds_cons; (first | (focus ((conv => lhs; whnf); done)) | exact rfl)))); done) : opds env xs = vs := h
theorem aK {live : List Nat} {vs : List AV} (h : looks env live = vs := by (repeat (first | apply looks_nil | (apply looks_cons; (focus ((conv => lhs; whnf); done))))); done) : looks env live = vs := h
theorem aF {vs : List AV} (h : idFreeL vs = true := by first | (simp [idFreeL, AV.idFree, *]; done) | fail) : idFreeL vs = true := h
theorem aI (h : IsL v l := by first | assumption | (apply IsLL.at; assumption; omega)) : IsL v l := h
end
end Go.AM
