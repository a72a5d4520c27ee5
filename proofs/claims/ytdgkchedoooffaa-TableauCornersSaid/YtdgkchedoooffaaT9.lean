/- A part of the proof: T9. -/
import Derived.Test.YtdgkchedoooffaaT7
import Derived.Test.YtdgkchedoooffaaTG2
set_option linter.unusedVariables false
set_option linter.unusedSimpArgs false
set_option linter.unusedSectionVars false
namespace Go.AM.Tb
set_option maxHeartbeats 4000000
section
variable {call : CallF} {it : IterF} {n k : Nat} {X : Nat → KT} {K Rt : KT} {env : Env} {H : Heap} {res : R} {c : AC} {G : R → Prop}
theorem via (h : RC call it n c k K X Rt env H res) (g : G res) : G (evC call it n c k K X Rt env H) := by rw [h.eq]; exact g
theorem c_end : RC call it n c k K X Rt env H (evC call it n c k K X Rt env H) := ⟨rfl⟩
theorem via_enter {tab : Nat → Option AFunc} {m f : Nat} {np : Nat} {body : AC} {rs : List ARes} {args : List AV} (ht : tab f = some ⟨np, body, rs⟩) (hl : Nat.beq args.length np = true)
    (g : G (evC (evF tab it m) it m body H.length (finish H.length rs) (fun _ _ _ => none) (finish H.length rs) (envOf 0 args) H)) : G (evF tab it (m + 1) f args H) := by
  rw [f_enterH ht hl c_end]; exact g
theorem loop_P {live : List Nat} {σ : Type} (vals : σ → List AV) (heap : σ → Heap) (P : σ → Prop) (μ : σ → Nat)
    (step : ∀ s, P s → ∀ K : KT, (∀ s' env' H', P s' → μ s' < μ s → gc k (looks env' live) H' = some (vals s', heap s') → G (K env' H')) → G (evC call it n c k K X Rt (bindEnv live 0 (vals s)) (heap s))) :
    ∀ fuel s env H, P s → μ s < fuel → gc k (looks env live) H = some (vals s, heap s) → G (loopIt fuel (fun K => evC call it n (.pre live c) k K X Rt) env H)
  | 0, s, env, H, _, h, _ => by omega
  | fuel + 1, s, env, H, hp, hm, hg => by
    simp only [loopIt]
    rw [raw_c_pre hg rfl]
    exact step s hp _ fun s' env' H' hp' hm' hg' => loop_P vals heap P μ step fuel s' env' H' hp' (by omega) hg'
end
end Go.AM.Tb
