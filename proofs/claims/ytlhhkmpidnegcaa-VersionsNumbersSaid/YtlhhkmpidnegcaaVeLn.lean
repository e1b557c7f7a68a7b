/- The law's numbers, plain: what the calls tell at the law's own data. No program in sight. -/
import Derived.Test.YtlhhkmpidnegcaaVeFu
namespace Go.Proofs.Ytlhhkmpidnegcaa
set_option linter.unusedVariables false
set_option linter.unusedSimpArgs false
set_option maxRecDepth 100000
theorem ln3 : putE 3 [] = (0, [114, 0, 0, 0, 3]) := by decide +kernel
theorem ln4 : putE 1 [((⟨#[97]⟩ : ByteArray), [])] = (2, []) := by decide +kernel
theorem ln5 : putE 0 [((⟨#[98]⟩ : ByteArray), []), (⟨#[97]⟩, [])] = (18, []) := by decide +kernel
theorem ln6 : putE 0 [((⟨#[97]⟩ : ByteArray), [0])] = (2, []) := by decide +kernel
theorem ln7 : (putE 0 [((⟨#[97]⟩ : ByteArray), List.replicate 16400 1)]).1 = 3 := by decide +kernel
theorem ln8 : (putE 0 [((⟨#[97]⟩ : ByteArray), List.replicate 16380 1)]).1 = 0 := by decide +kernel
theorem ln9 : (putE 0 ((List.range 201).map fun k => (nameM k, []))).1 = 3 := by decide +kernel
theorem ln10 : (putE 0 ((List.range 200).map fun k => (nameM k, []))).1 = 0 := by decide +kernel
end Go.Proofs.Ytlhhkmpidnegcaa
