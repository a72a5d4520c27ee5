/- A part of the proof: TC2. -/
import Derived.Test.YtdgkchedoooffaaM3
namespace Go.AM.Tb
def Mono (l : Nat → Nat) (m : Nat) : Prop := ∀ i j, i ≤ j → j < m → l j ≤ l i
end Go.AM.Tb
