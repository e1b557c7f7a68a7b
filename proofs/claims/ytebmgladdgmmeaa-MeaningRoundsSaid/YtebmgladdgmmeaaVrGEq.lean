/- '==' of two instructions, of two conditions. Plain. -/
import Derived.Test.YtebmgladdgmmeaaVdSt
import Derived.Laws.StructEq
namespace Go.Proofs.Ytebmgladdgmmeaa
open Go.RowKit Go.WideShapes
set_option linter.unusedVariables false
set_option linter.unusedSimpArgs false
def inEq (x y : In) : Bool := x.o == y.o && x.d == y.d && x.s == y.s && x.n == y.n
set_option maxHeartbeats 2000000 in
theorem eqIn (o d s n o' d' s' n' : Int) (w : World) :
    (Op.equalIn 10000 31 (.agg #[.int .u8 o, .int .i64 d, .int .i64 s, .int .i64 n]) (.agg #[.int .u8 o', .int .i64 d', .int .i64 s', .int .i64 n'])).run Try.prog w = .ok (inEq ⟨o, d, s, n⟩ ⟨o', d', s', n'⟩) w := by
  have u3 := Try.underlying3
  have a3 := Try.isAgg3
  have z3 := Try.sizeOf3
  have u29 := Try.underlying29
  have a29 := Try.isAgg29
  have z29 := Try.sizeOf29
  have hS : Try.prog.underlying 31 = some (.struct (Try.prog.fieldsOf 31)) := by kernel_rfl
  rw [show (10000 : Nat) = 9999 + 1 from rfl, run_equalIn_agg w 9999 31 _ _ hS (by kernel_rfl)]
  simp only [Program.fieldsOf, Try.underlying31]
  go_simp
  unfold inEq
  by_cases h1 : o = o' <;> by_cases h2 : d = d' <;> by_cases h3 : s = s' <;> by_cases h4 : n = n' <;> simp [h1, h2, h3, h4]
def condEq (b : Bool) (x : In) (b' : Bool) (x' : In) : Bool := (b == b') && inEq x x'
set_option maxHeartbeats 2000000 in
theorem eqCond (b : Bool) (o d s n : Int) (b' : Bool) (o' d' s' n' : Int) (w : World) :
    (Op.equalIn 10000 33 (.agg #[.bool b, .int .u8 o, .int .i64 d, .int .i64 s, .int .i64 n]) (.agg #[.bool b', .int .u8 o', .int .i64 d', .int .i64 s', .int .i64 n'])).run Try.prog w = .ok (condEq b ⟨o, d, s, n⟩ b' ⟨o', d', s', n'⟩) w := by
  have u4 := Try.underlying4
  have a4 := Try.isAgg4
  have z4 := Try.sizeOf4
  have a31 := Try.isAgg31
  have z31 := Try.sizeOf31
  have u3 := Try.underlying3
  have a3 := Try.isAgg3
  have z3 := Try.sizeOf3
  have u29 := Try.underlying29
  have a29 := Try.isAgg29
  have z29 := Try.sizeOf29
  have hS : Try.prog.underlying 33 = some (.struct (Try.prog.fieldsOf 33)) := by kernel_rfl
  rw [show (10000 : Nat) = 9999 + 1 from rfl, run_equalIn_agg w 9999 33 _ _ hS (by kernel_rfl)]
  simp only [Program.fieldsOf, Try.underlying33]
  go_simp
  unfold condEq inEq
  by_cases h0 : b = b' <;> by_cases h1 : o = o' <;> by_cases h2 : d = d' <;> by_cases h3 : s = s' <;> by_cases h4 : n = n' <;> simp [h0, h1, h2, h3, h4]
def zQ : In := ⟨0, 0, 0, 0⟩
end Go.Proofs.Ytebmgladdgmmeaa
