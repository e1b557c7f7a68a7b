/- All statements told, down to some levels: the walk, counting, judging. Condition: none but that counts fit. -/
import Derived.Test.YtebmgladdgmmeaaVlGRi
namespace Go.Proofs.Ytebmgladdgmmeaa
open Go.RowKit Go.WideShapes
set_option linter.unusedVariables false
set_option linter.unusedSimpArgs false
/-- Are there none deeper than so many levels? -/
def okF : Fo → Nat → Bool
  | .nil, _ => true
  | .cons _ _ _ _, 0 => false
  | .cons _ b e r, L + 1 => okF b L && okF e L && okF r (L + 1)
/-- How many, down to so many levels. -/
def cnF : Fo → Nat → Nat
  | .nil, _ => 0
  | .cons _ _ _ _, 0 => 0
  | .cons _ b e r, L + 1 => cnF b L + cnF e L + cnF r (L + 1) + 1
/-- Are all right, down to so many levels? -/
def gdF (post : Bool) : Fo → Nat → Bool
  | .nil, _ => true
  | .cons _ _ _ _, 0 => true
  | .cons h b e r, L + 1 => rtH post h b.len e.len && gdF post b L && gdF post e L && gdF post r (L + 1)
theorem cnF_le : ∀ (f : Fo) (L : Nat), cnF f L ≤ f.tot
  | .nil, _ => Nat.le_refl _
  | .cons _ _ _ _, 0 => Nat.zero_le _
  | .cons _ b e r, L + 1 => by
    have := cnF_le b L
    have := cnF_le e L
    have := cnF_le r (L + 1)
    simp only [cnF, Fo.tot]; omega
end Go.Proofs.Ytebmgladdgmmeaa
