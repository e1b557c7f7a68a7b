/- CutStays over arguments as they come in. No condition. -/
import Derived.Test.YtjcaahilgobfhaaCutStays
namespace Go.Proofs.Ytjcaahilgobfhaa
open Go.RowKit Go.WideShapes Go.ChangeShapes
theorem cutStays_law {H : Type} {enc : TypeId × Value → H} {base base' : Nat} {d d' : DataW H} {ps ps' : List MemPlace} (v v' : Value) (w : World) (hv : Value.okWide Try.prog w .any base 22 v) (hk : DataW.Trod enc Try.prog w 0 (fun _ => true) true 22 v d ps)
    (hv' : Value.okWide Try.prog w .any base' 22 v') (hk' : DataW.Trod enc Try.prog w 0 (fun _ => true) true 22 v' d' ps') :
    Calls Try.prog 5 #[v, v'] w fun e w' => e = .returned (.bool true) ∧ Below w.heap.size w w' := by
  obtain ⟨bs, A, c, rfl, ho, hr, hc, hm⟩ := open_bytes hv hk
  obtain ⟨ms, B, c', rfl, ho', hr', _, _⟩ := open_bytes hv' hk'
  exact cutStays_any bs ms A B c c' w ho hr hc hm ho' hr'
end Go.Proofs.Ytjcaahilgobfhaa
