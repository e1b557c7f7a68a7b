/- ShaTells' walk. -/
import Derived.Test.YtgkgdbjdmmieaaaShOp
import Derived.Test.YtgkgdbjdmmieaaaShRf
import Derived.Test.YtgkgdbjdmmieaaaShAw
import Derived.Test.YtgkgdbjdmmieaaaShEq
namespace Go.Proofs.Ytgkgdbjdmmieaaa
open Go.RowKit Go.WideShapes Go.ChangeShapes
set_option linter.unusedVariables false
set_option linter.unusedSimpArgs false
set_option maxHeartbeats 1000000 in
theorem tells_law {H : Type} {enc : TypeId × Value → H} {base : Nat} {d : DataW H} {ps : List MemPlace} (v : Value) (w : World) (hv : Value.okWide Try.prog w .any base 25 v) (hk : DataW.Trod enc Try.prog w 0 (fun _ => true) true 25 v d ps) :
    Calls Try.prog 6 #[v] w fun e w' => e = .returned (.bool true) ∧ Below w.heap.size w w' := by
  obtain ⟨bs, A, c, rfl, ho, hr, hc, hm⟩ := open_bytes hv hk
  clear hv hk
  have HR := Lib.hid hr
  have HO := Lib.hid ho
  clear hr ho
  by_cases hl : 5000 < bs.length
  · go_enter Try.func6, Try.ntmps6
    go_wp2_with fail
    refine (awake_any _).mono ?_
    rintro e w1 ⟨rfl, hb1⟩
    go_wp2_with fail
    go_ret
    exact ⟨rfl, hb1⟩
  · have heq := fun W => eq20_same (shaI bs) (shaI_length bs) (outL_oct _ _) W
    have hof := fun (A : Option Addr) (c : Nat) (W : World) (hr : Rd W A (octs bs)) => of_any bs A bs.length c W rfl HO.out hr (by omega)
    have hrf := fun (A : Option Addr) (c : Nat) (W : World) (hr : Rd W A (octs bs)) => ofRef_any bs A bs.length c W rfl HO.out hr (by omega)
    generalize (octs (shaI bs)).toArray = a at *
    have HOF := Lib.hid hof
    have HRF := Lib.hid hrf
    clear hof hrf
    go_enter Try.func6, Try.ntmps6
    go_wp2_with fail
    refine (lentBytes_any bs A c w HR.out (by omega)).mono ?_
    rintro e w1 ⟨⟨A1, c1, rfl, hL⟩, hb1⟩
    have HL := Lib.hid hL
    have HB1 := Lib.hid hb1
    clear hL hb1
    go_wp2_with fail
    refine (HOF.out A1 c1 w1 HL.out.rd).mono ?_
    rintro e w2 ⟨rfl, hb2⟩
    have HB2 := Lib.hid hb2
    have hb12 := HB1.out.trans (hb2.mono HB1.out.size)
    have HB12 := Lib.hid hb12
    clear hb2 hb12
    go_wp2_with fail
    refine (HRF.out A c w2 (HR.out.below HB12.out rfl)).mono ?_
    rintro e w3 ⟨rfl, hb3⟩
    have HL3 := Lib.hid ((HL.out.below HB2.out).below hb3)
    have HB13 := Lib.hid (ch0 HB12.out hb3)
    clear hb3
    go_wp2_with fail
    refine (kept_any _ bs A1 A c1 c w3 HL3.out (HR.out.below HB13.out rfl) (by omega) HL3.out.capm).mono ?_
    rintro e w4 ⟨rfl, hb4⟩
    have HB14 := Lib.hid (ch0 HB13.out hb4)
    clear hb4
    go_wp2_with fail
    refine (awake_any _).mono ?_
    rintro e w5 ⟨rfl, hb5⟩
    go_wp2_with fail
    go_ret
    exact ⟨rfl, ch0 HB14.out hb5⟩
end Go.Proofs.Ytgkgdbjdmmieaaa
