/-
  No cell of these rows narrows 'for every input' (looked for: loops, veiled, ifaces, maps, wideKeys, modest, calm, conditions, laid).
  DERIVED. THE GIVEN ROWS OF THIS SEAT. 4 by the template 'for every input the law returns true; each argument reads behind the call as it read before'; 0 by the template 'total and deterministic' (their statements: YtnohfeaamfjimaaTotals.lean).
  GIVEN WITH THE SEED: the statements are not yours to turn. If you find one false, say at which input.
  Laid BY PROGRAM, IN A SANDBOX (cutbox-rows.mjs): the forced cells as the released guide's own fill.sh prints them over the translation d5a30a4935957991… (all of the seat's roots in one cut). By AI agents, Wed Nov 11 2026. No macro, syntax, notation, axiom, sorry.
-/
import Derived.Test.YtnohfeaamfjimaaChecked
import GoSem.Claim
import GoSem.ClaimJoined
import GoSem.ClaimMapViews
import Derived.JoinedTies
import Derived.KernelRfl
namespace Go.Proofs.Ytnohfeaamfjimaa
/- THE CELL 'sum', in the pinned program and in every row, IS THE sha256 OF THE DUMP (.gsa) THAT YtnohfeaamfjimaaProg.lean LOADS. Nothing in Lean hashes anything: it is a label: what it is worth is what the hold of that sum in a sandbox is worth. -/
noncomputable def Try.pinned : Pinned := { name := "ytnohfeaamfjimaa", sum := "d5a30a49359579911c3255a66bf42f852351daa8597e5f982d34f3897ebc012b", checked := Try.checked }
namespace Rows
def none {H : Type} : Left H := { results := [], args := [] }

/-- 'quillpresslaw12.BlendLearns': WHATEVER THE INPUT: true; the input reads as it did. -/
def blendLearnsSpec : ChangeSpec := { name := "blendLearns", fn := fun _ => fun
  | [d1, d2, d3] => { results := [.lit (.bool true)], args := [d1, d2, d3] }
  | _ => none }
def blendLearnsRow : OpenClaim := { program := "ytnohfeaamfjimaa", sum := "d5a30a49359579911c3255a66bf42f852351daa8597e5f982d34f3897ebc012b", func := "quillpress/quillpresslaw12.BlendLearns", spec := "blendLearns", unfollowed := true, recurses := true, apart := false }
def BlendLearnsSaid : Prop := blendLearnsRow.holds Try.pinned (OpenSpec.ofChange blendLearnsSpec)

/-- ITS FALSE NEIGHBOUR: 'it returns false'. Refute it at one input. -/
def blendLearnsWrong : ChangeSpec := { name := "blendLearns", fn := fun _ => fun
  | [d1, d2, d3] => { results := [.lit (.bool false)], args := [d1, d2, d3] }
  | _ => none }
def BlendLearnsWrongFalsely : Prop := blendLearnsRow.holds Try.pinned (OpenSpec.ofChange blendLearnsWrong)

/-- 'quillpresslaw12.BlendTells': WHATEVER THE INPUT: true; the input reads as it did. -/
def blendTellsSpec : ChangeSpec := { name := "blendTells", fn := fun _ => fun
  | [d1, d2] => { results := [.lit (.bool true)], args := [d1, d2] }
  | _ => none }
def blendTellsRow : OpenClaim := { program := "ytnohfeaamfjimaa", sum := "d5a30a49359579911c3255a66bf42f852351daa8597e5f982d34f3897ebc012b", func := "quillpress/quillpresslaw12.BlendTells", spec := "blendTells", unfollowed := true, recurses := true, apart := false }
def BlendTellsSaid : Prop := blendTellsRow.holds Try.pinned (OpenSpec.ofChange blendTellsSpec)

/-- ITS FALSE NEIGHBOUR: 'it returns false'. Refute it at one input. -/
def blendTellsWrong : ChangeSpec := { name := "blendTells", fn := fun _ => fun
  | [d1, d2] => { results := [.lit (.bool false)], args := [d1, d2] }
  | _ => none }
def BlendTellsWrongFalsely : Prop := blendTellsRow.holds Try.pinned (OpenSpec.ofChange blendTellsWrong)

/-- 'quillpresslaw12.BlendNone': WHATEVER THE INPUT: true; the input reads as it did. -/
def blendNoneSpec : ChangeSpec := { name := "blendNone", fn := fun _ => fun
  | [d1, d2] => { results := [.lit (.bool true)], args := [d1, d2] }
  | _ => none }
def blendNoneRow : OpenClaim := { program := "ytnohfeaamfjimaa", sum := "d5a30a49359579911c3255a66bf42f852351daa8597e5f982d34f3897ebc012b", func := "quillpress/quillpresslaw12.BlendNone", spec := "blendNone", unfollowed := true, recurses := true, apart := false }
def BlendNoneSaid : Prop := blendNoneRow.holds Try.pinned (OpenSpec.ofChange blendNoneSpec)

/-- ITS FALSE NEIGHBOUR: 'it returns false'. Refute it at one input. -/
def blendNoneWrong : ChangeSpec := { name := "blendNone", fn := fun _ => fun
  | [d1, d2] => { results := [.lit (.bool false)], args := [d1, d2] }
  | _ => none }
def BlendNoneWrongFalsely : Prop := blendNoneRow.holds Try.pinned (OpenSpec.ofChange blendNoneWrong)

/-- 'quillpresslaw12.BlendSame': WHATEVER THE INPUT: true; the input reads as it did. -/
def blendSameSpec : ChangeSpec := { name := "blendSame", fn := fun _ => fun
  | [d1, d2] => { results := [.lit (.bool true)], args := [d1, d2] }
  | _ => none }
def blendSameRow : OpenClaim := { program := "ytnohfeaamfjimaa", sum := "d5a30a49359579911c3255a66bf42f852351daa8597e5f982d34f3897ebc012b", func := "quillpress/quillpresslaw12.BlendSame", spec := "blendSame", unfollowed := true, recurses := true, apart := false }
def BlendSameSaid : Prop := blendSameRow.holds Try.pinned (OpenSpec.ofChange blendSameSpec)

/-- ITS FALSE NEIGHBOUR: 'it returns false'. Refute it at one input. -/
def blendSameWrong : ChangeSpec := { name := "blendSame", fn := fun _ => fun
  | [d1, d2] => { results := [.lit (.bool false)], args := [d1, d2] }
  | _ => none }
def BlendSameWrongFalsely : Prop := blendSameRow.holds Try.pinned (OpenSpec.ofChange blendSameWrong)

/- THE SECOND FORM. 'bulk': how many values and letters a reading holds, each counted each time it is reached (what is shared counts as often as it is met; a slice's spare places count too). A statement '..UptoSaid' is the law's where the arguments, and the package variables that the reading takes, are together of bulk at most 1048576: NARROWER than '..Said'. Prove '..Said' where nothing that the law and all that it calls make is longer than what came in: it says more and counts as full. Else prove '..UptoSaid'. A law counts once. -/
mutual
def uptoBulk {H : Type} : DataW H → Nat
  | .lit (.string bytes) => bytes.length + 1
  | .lit _ => 1
  | .nil => 1
  | .ptr d => uptoBulk d + 1
  | .slice elems spare => uptoBulkAll elems + uptoBulkAll spare + 1
  | .agg parts => uptoBulkAll parts + 1
  | .iface _ d => uptoBulk d + 1
  | .map entries => uptoBulkEntries entries + 1
  | .held _ => 1
def uptoBulkAll {H : Type} : List (DataW H) → Nat
  | [] => 0
  | d :: r => uptoBulk d + uptoBulkAll r
def uptoBulkEntries {H : Type} : List (Lit × DataW H) → Nat
  | [] => 0
  | x :: r => uptoBulkEntry x + uptoBulkEntries r
def uptoBulkEntry {H : Type} : Lit × DataW H → Nat
  | (.string bytes, d) => bytes.length + uptoBulk d + 1
  | (_, d) => uptoBulk d + 1
 end
def uptoSmall : (H : Type) → List (DataW H) → Bool := fun _ ds => decide (uptoBulkAll ds ≤ 1048576)
def OpenSpec.upto (s : _root_.Go.ChangeSpec) : _root_.Go.OpenSpec := { _root_.Go.OpenSpec.ofChange s with cond := some uptoSmall }

/-- 'quillpresslaw12.BlendLearns', WHERE WHAT IT READS IS OF BULK AT MOST 1048576: true; the input reads as it did. -/
def blendLearnsUptoRow : OpenClaim := { program := "ytnohfeaamfjimaa", sum := "d5a30a49359579911c3255a66bf42f852351daa8597e5f982d34f3897ebc012b", func := "quillpress/quillpresslaw12.BlendLearns", spec := "blendLearns", unfollowed := true, recurses := true, apart := false, narrowed := true }
def BlendLearnsUptoSaid : Prop := blendLearnsUptoRow.holds Try.pinned (OpenSpec.upto blendLearnsSpec)

/-- 'quillpresslaw12.BlendTells', WHERE WHAT IT READS IS OF BULK AT MOST 1048576: true; the input reads as it did. -/
def blendTellsUptoRow : OpenClaim := { program := "ytnohfeaamfjimaa", sum := "d5a30a49359579911c3255a66bf42f852351daa8597e5f982d34f3897ebc012b", func := "quillpress/quillpresslaw12.BlendTells", spec := "blendTells", unfollowed := true, recurses := true, apart := false, narrowed := true }
def BlendTellsUptoSaid : Prop := blendTellsUptoRow.holds Try.pinned (OpenSpec.upto blendTellsSpec)

/-- 'quillpresslaw12.BlendNone', WHERE WHAT IT READS IS OF BULK AT MOST 1048576: true; the input reads as it did. -/
def blendNoneUptoRow : OpenClaim := { program := "ytnohfeaamfjimaa", sum := "d5a30a49359579911c3255a66bf42f852351daa8597e5f982d34f3897ebc012b", func := "quillpress/quillpresslaw12.BlendNone", spec := "blendNone", unfollowed := true, recurses := true, apart := false, narrowed := true }
def BlendNoneUptoSaid : Prop := blendNoneUptoRow.holds Try.pinned (OpenSpec.upto blendNoneSpec)

/-- 'quillpresslaw12.BlendSame', WHERE WHAT IT READS IS OF BULK AT MOST 1048576: true; the input reads as it did. -/
def blendSameUptoRow : OpenClaim := { program := "ytnohfeaamfjimaa", sum := "d5a30a49359579911c3255a66bf42f852351daa8597e5f982d34f3897ebc012b", func := "quillpress/quillpresslaw12.BlendSame", spec := "blendSame", unfollowed := true, recurses := true, apart := false, narrowed := true }
def BlendSameUptoSaid : Prop := blendSameUptoRow.holds Try.pinned (OpenSpec.upto blendSameSpec)

end Rows
end Go.Proofs.Ytnohfeaamfjimaa
