/- OctetsPlaces over its argument as it comes in. No condition. -/
import Derived.Test.YtbmhfefbfocelaaPlaces
import Derived.Test.YtbmhfefbfocelaaOpen
namespace Go.Proofs.Ytbmhfefbfocelaa
open Go.RowKit Go.WideShapes Go.ChangeShapes
theorem places_law {H : Type} {enc : TypeId × Value → H} {base : Nat} {d : DataW H} {ps : List MemPlace} (v : Value) (w : World) (hv : Value.okWide Try.prog w .any base 22 v) (hk : DataW.Trod enc Try.prog w 0 (fun _ => true) true 22 v d ps) :
    Calls Try.prog 3 #[v] w fun e w' => e = .returned (.bool true) ∧ Below w.heap.size w w' := by
  obtain ⟨bs, A, c, rfl, ho, hr, hc, hm⟩ := open_bytes hv hk
  exact places_any bs A _ c w rfl ho hr hc hm
end Go.Proofs.Ytbmhfefbfocelaa
