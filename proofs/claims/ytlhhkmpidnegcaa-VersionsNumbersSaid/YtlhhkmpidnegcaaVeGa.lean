/- GetPieces: a piece built of its parts; what bytes say, plain. -/
import Derived.Test.YtlhhkmpidnegcaaVePp
import Derived.Great.FillDense
namespace Go.Proofs.Ytlhhkmpidnegcaa
open Go.RowKit Go.WideShapes
set_option linter.unusedVariables false
set_option linter.unusedSimpArgs false
theorem run_arrayAt {b o n c : Nat} (h : 20 ≤ n) (w : World) : (Instr.arrayAt 50 (.slice (some ⟨b, o, none⟩) n c)).run Try.prog w = .ok (.pointer (some ⟨b, o, none⟩)) w := by
  unfold Instr.arrayAt
  simp [run_underlying Try.underlying50]
  omega
theorem wpList_built {P : Program} {ops : Array Oper} {rest : List Oper} {o : Oper} {a : Act} {w : World} {Q : Exit → Act → World → Prop} (hg : o.guard = none) (t : TypeId) (parts : Array (Nat × Operand)) (cs : Array Value) (ho : o.op = .build t parts)
    (hb : P.built t (parts.map fun (i, x) => (i, a.eval x)).toList = some cs) (h : wpList P ops Q rest (a.put o.dst (.agg cs)) w) : wpList P ops Q (o :: rest) a w := by
  refine wpList_build hg t parts ho (by rw [hb]; rfl) ?_
  rw [hb]
  exact h
theorem built52 : ∀ (hs : List Value), hs.length = 20 → ∀ s b a : Int, Try.prog.built 52 [(0, .agg hs.toArray), (1, .int .i64 s), (2, .int .i64 b), (3, .int .i64 a)] = some (hs ++ [Value.int .i64 s, Value.int .i64 b, Value.int .i64 a]).toArray
  | [x0, x1, x2, x3, x4, x5, x6, x7, x8, x9, x10, x11, x12, x13, x14, x15, x16, x17, x18, x19], _, s, b, a => by kernel_rfl
def pieceAt (bs : List Int) (q : Nat) : Pc := ⟨(bs.drop q).take 20, numI bs (q + 20) 2, numI bs (q + 22) 4, numI bs (q + 26) 4⟩
theorem pieceAt_ok {bs : List Int} (ho : Oct bs) {q : Nat} (h : q + 20 ≤ bs.length) : (pieceAt bs q).ok := ⟨⟨by unfold pieceAt; simp; omega, (ho.drop q).take 20⟩⟩
end Go.Proofs.Ytlhhkmpidnegcaa
