/- VmDoes' walk. No condition beyond the arguments' own memory. -/
import Derived.Test.YtebmgladdgmmeaaVlGLp
import Derived.Test.YtebmgladdgmmeaaVdHeld
import Derived.BigRegion
namespace Go.Proofs.Ytebmgladdgmmeaa
open Go.RowKit Go.WideShapes
set_option linter.unusedVariables false
set_option linter.unusedSimpArgs false
theorem OwnR.ge {w : World} {b : Nat} {v : Value} {e : TypeId} {xs : List Value} (h : OwnR w b v e xs) : ∀ k, v.ownBlock = some k → b ≤ k := fun k hk => by
  rcases h with ⟨rfl, _⟩ | ⟨g, c, rfl, _, hb, _⟩
  · cases hk
  · have : g = k := by simpa [Value.ownBlock] using hk
    omega
theorem OwnR.apart {w : World} {b g : Nat} {v : Value} {e t : TypeId} {xs : List Value} {cs : Array Value} (h : OwnR w b v e xs) (hb : Blk w g t cs) (hne : e ≠ t) : ∀ k, v.ownBlock = some k → k ≠ g := fun k hk => by
  rcases h with ⟨rfl, _⟩ | ⟨g', c, rfl, _, _, hr⟩
  · cases hk
  · have e1 : g' = k := by simpa [Value.ownBlock] using hk
    subst e1
    exact hr.ne hb hne
end Go.Proofs.Ytebmgladdgmmeaa
