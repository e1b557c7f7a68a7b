/- '==' of two parts. Plain. -/
import Derived.Test.YtaiekpdoljleeaaPaFld
import Derived.Laws.StructEq
namespace Go.Proofs.Ytaiekpdoljleeaa
open Go.RowKit Go.WideShapes
set_option linter.unusedVariables false
def ptB (x y : Pt) : Bool := x.k == y.k && x.s == y.s && x.a == y.a && x.b == y.b && x.c == y.c && x.r == y.r && x.l == y.l
theorem ptB_iff (x y : Pt) : ptB x y = true ↔ x = y := by
  obtain ⟨k, s, a, b, c, r, l⟩ := x
  obtain ⟨k', s', a', b', c', r', l'⟩ := y
  simp [ptB, and_assoc]
theorem ptB_same (x : Pt) : ptB x x = true := (ptB_iff x x).2 rfl
set_option maxHeartbeats 2000000 in
theorem eqPt (k s a b c r l k' s' a' b' c' r' l' : Int) (w : World) :
    (Op.equalIn 10000 32 (.agg #[.int .u8 k, .int .i64 s, .int .i64 a, .int .i64 b, .int .i64 c, .int .i64 r, .int .i64 l]) (.agg #[.int .u8 k', .int .i64 s', .int .i64 a', .int .i64 b', .int .i64 c', .int .i64 r', .int .i64 l'])).run Try.prog w
      = .ok (ptB ⟨k, s, a, b, c, r, l⟩ ⟨k', s', a', b', c', r', l'⟩) w := by
  have u3 := Try.underlying3
  have a3 := Try.isAgg3
  have z3 := Try.sizeOf3
  have u30 := Try.underlying30
  have a30 := Try.isAgg30
  have z30 := Try.sizeOf30
  have hS : Try.prog.underlying 32 = some (.struct (Try.prog.fieldsOf 32)) := by kernel_rfl
  rw [show (10000 : Nat) = 9999 + 1 from rfl, run_equalIn_agg w 9999 32 _ _ hS (by kernel_rfl)]
  simp only [Program.fieldsOf, Try.underlying32]
  go_simp
  unfold ptB
  by_cases h1 : k = k' <;> by_cases h2 : s = s' <;> by_cases h3 : a = a' <;> by_cases h4 : b = b' <;> by_cases h5 : c = c' <;> by_cases h6 : r = r' <;> by_cases h7 : l = l' <;> simp [h1, h2, h3, h4, h5, h6, h7]
end Go.Proofs.Ytaiekpdoljleeaa
