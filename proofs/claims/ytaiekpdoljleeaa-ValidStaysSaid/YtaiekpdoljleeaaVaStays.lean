/- ValidStays' walk, its arguments opened. No condition. -/
import Derived.Test.YtaiekpdoljleeaaVaLaw
namespace Go.Proofs.Ytaiekpdoljleeaa
open Go.RowKit Go.WideShapes
set_option linter.unusedVariables false
theorem validStays_law {H : Type} {enc : TypeId × Value → H} {base : Nat} {d0 d2 : DataW H} {p0 p2 : List MemPlace} (v0 : Value) (post : Bool) (v2 : Value) (w : World)
    (h0 : Value.okWide Try.prog w .any base 37 v0) (k0 : DataW.Trod enc Try.prog w 0 (fun _ => true) true 37 v0 d0 p0) (h2 : Value.okWide Try.prog w .any base 54 v2) (k2 : DataW.Trod enc Try.prog w 0 (fun _ => true) true 54 v2 d2 p2) :
    Calls Try.prog 7 #[v0, .bool post, v2] w fun e w' => e = .returned (.bool true) ∧ Below w.heap.size w w' := by
  obtain ⟨bs, A, c, rfl, ho, hr, h1, hm⟩ := open_bytesV h0 k0
  obtain ⟨qs, B, d, rfl, hqr, h3, hm2⟩ := open_boolsV h2 k2
  unfold maxLen at hm hm2
  exact (stays_any bs A _ c post qs B _ d w rfl ho hr (by omega) rfl hqr (by omega)).mono fun _ _ h => ⟨h.1, h.2⟩
end Go.Proofs.Ytaiekpdoljleeaa
