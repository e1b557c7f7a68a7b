/- VersionsStay's law: the argument opened. Condition: none. -/
import Derived.Test.YtlhhkmpidnegcaaVeS2
namespace Go.Proofs.Ytlhhkmpidnegcaa
open Go.RowKit Go.WideShapes Go.ChangeShapes
set_option maxRecDepth 100000
theorem stays_law {H : Type} {enc : TypeId × Value → H} {base : Nat} {d : DataW H} {ps : List MemPlace} (v0 : Value) (w : World) (hv : Value.okWide Try.prog w .any base 22 v0) (hk : DataW.Trod enc Try.prog w 0 (fun _ => true) true 22 v0 d ps) : Calls Try.prog 3 #[v0] w fun e w' => e = .returned (.bool true) ∧ Below w.heap.size w w' := by
  obtain ⟨A, n, c, ss, rfl, h1, h2, h3, h4⟩ := open_steps hv hk
  exact (stays3 ss A n c w h1 h2 h3 h4).mono fun _ _ h => ⟨h.ret, h.low⟩
end Go.Proofs.Ytlhhkmpidnegcaa
