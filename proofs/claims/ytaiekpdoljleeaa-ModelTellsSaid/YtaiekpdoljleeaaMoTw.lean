/- ModelTells' law: arguments opened. No condition. -/
import Derived.Test.YtaiekpdoljleeaaMoTe
import Derived.Test.YtaiekpdoljleeaaMoOp
namespace Go.Proofs.Ytaiekpdoljleeaa
open Go.RowKit Go.WideShapes Go.ChangeShapes Go.Deep
theorem modelTells_law {H : Type} {enc : TypeId × Value → H} {base0 base1 : Nat} {d0 d1 : DataW H} {p0 p1 : List MemPlace} (v0 v1 : Value) (w : World)
    (h0 : Value.okWide Try.prog w .any base0 58 v0) (k0 : DataW.Trod enc Try.prog w 0 (fun _ => true) true 58 v0 d0 p0) (h1 : Value.okWide Try.prog w .any base1 37 v1) (k1 : DataW.Trod enc Try.prog w 0 (fun _ => true) true 37 v1 d1 p1) :
    Calls Try.prog 8 #[v0, v1] w fun e w' => e = .returned (.bool true) ∧ Below w.heap.size w w' := by
  obtain ⟨d, A, B, D, c, cc, cp, rfl, hm⟩ := open_model h0 k0
  obtain ⟨bs, E, cb, rfl, ho, hr, hb, hcb⟩ := open_bytesV h1 k1
  unfold maxLen at hcb
  exact (tells8 d A B D c cc cp bs E bs.length cb w hm.ok hm.rd rfl hb (by omega) ho hr (by have := hm.l1; omega) (by have := hm.l2; omega) (by have := hm.l3; omega)).mono fun _ _ h => ⟨h.1, h.2⟩
end Go.Proofs.Ytaiekpdoljleeaa
