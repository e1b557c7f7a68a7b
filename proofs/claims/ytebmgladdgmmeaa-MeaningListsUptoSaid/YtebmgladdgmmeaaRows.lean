/-
  NARROWER THAN 'FOR EVERY INPUT', by the rows' own cells (each row's printed sentence says how): SyntaxParts: loops · SyntaxTells: loops · MeaningLists: loops.
  DERIVED. THE GIVEN ROWS OF THIS SEAT. 6 by the template 'for every input the law returns true; each argument reads behind the call as it read before'; 0 by the template 'total and deterministic' (their statements: YtebmgladdgmmeaaTotals.lean).
  GIVEN WITH THE SEED: the statements are not yours to turn. If you find one false, say at which input.
  Laid BY PROGRAM, IN A SANDBOX (cutbox-rows.mjs): the forced cells as the released guide's own fill.sh prints them over the translation 4d89292ea703c68c… (all of the seat's roots in one cut). By AI agents, Wed Nov 11 2026. No macro, syntax, notation, axiom, sorry.
-/
import Derived.Test.YtebmgladdgmmeaaChecked
import GoSem.Claim
import GoSem.ClaimJoined
import GoSem.ClaimMapViews
import Derived.JoinedTies
import Derived.KernelRfl
namespace Go.Proofs.Ytebmgladdgmmeaa
/- THE CELL 'sum', in the pinned program and in every row, IS THE sha256 OF THE DUMP (.gsa) THAT YtebmgladdgmmeaaProg.lean LOADS. Nothing in Lean hashes anything: it is a label: what it is worth is what the hold of that sum in a sandbox is worth. -/
noncomputable def Try.pinned : Pinned := { name := "ytebmgladdgmmeaa", sum := "4d89292ea703c68ceea6aaee994be3142b2f969ab11cd814a898a10fd23c2f03", checked := Try.checked }
namespace Rows
def none {H : Type} : Left H := { results := [], args := [] }

/-- 'quillpresslaw19.SyntaxParts': WHATEVER THE INPUT: true; the input reads as it did. -/
def syntaxPartsSpec : ChangeSpec := { name := "syntaxParts", fn := fun _ => fun
  | [d1, d2] => { results := [.lit (.bool true)], args := [d1, d2] }
  | _ => none }
def syntaxPartsRow : OpenClaim := { program := "ytebmgladdgmmeaa", sum := "4d89292ea703c68ceea6aaee994be3142b2f969ab11cd814a898a10fd23c2f03", func := "quillpress/quillpresslaw19.SyntaxParts", spec := "syntaxParts", unfollowed := true, recurses := true, loops := true, apart := false }
def SyntaxPartsSaid : Prop := syntaxPartsRow.holds Try.pinned (OpenSpec.ofChange syntaxPartsSpec)

/-- ITS FALSE NEIGHBOUR: 'it returns false'. Refute it at one input. -/
def syntaxPartsWrong : ChangeSpec := { name := "syntaxParts", fn := fun _ => fun
  | [d1, d2] => { results := [.lit (.bool false)], args := [d1, d2] }
  | _ => none }
def SyntaxPartsWrongFalsely : Prop := syntaxPartsRow.holds Try.pinned (OpenSpec.ofChange syntaxPartsWrong)

/-- 'quillpresslaw19.SyntaxTells': WHATEVER THE INPUT: true; the input reads as it did. -/
def syntaxTellsSpec : ChangeSpec := { name := "syntaxTells", fn := fun _ => fun
  | [d1, d2, d3] => { results := [.lit (.bool true)], args := [d1, d2, d3] }
  | _ => none }
def syntaxTellsRow : OpenClaim := { program := "ytebmgladdgmmeaa", sum := "4d89292ea703c68ceea6aaee994be3142b2f969ab11cd814a898a10fd23c2f03", func := "quillpress/quillpresslaw19.SyntaxTells", spec := "syntaxTells", unfollowed := true, recurses := true, loops := true, apart := false }
def SyntaxTellsSaid : Prop := syntaxTellsRow.holds Try.pinned (OpenSpec.ofChange syntaxTellsSpec)

/-- ITS FALSE NEIGHBOUR: 'it returns false'. Refute it at one input. -/
def syntaxTellsWrong : ChangeSpec := { name := "syntaxTells", fn := fun _ => fun
  | [d1, d2, d3] => { results := [.lit (.bool false)], args := [d1, d2, d3] }
  | _ => none }
def SyntaxTellsWrongFalsely : Prop := syntaxTellsRow.holds Try.pinned (OpenSpec.ofChange syntaxTellsWrong)

/-- 'quillpresslaw17.VmDoes': WHATEVER THE INPUT: true; the input reads as it did. -/
def vmDoesSpec : ChangeSpec := { name := "vmDoes", fn := fun _ => fun
  | [d1, d2, d3] => { results := [.lit (.bool true)], args := [d1, d2, d3] }
  | _ => none }
def vmDoesRow : OpenClaim := { program := "ytebmgladdgmmeaa", sum := "4d89292ea703c68ceea6aaee994be3142b2f969ab11cd814a898a10fd23c2f03", func := "quillpress/quillpresslaw17.VmDoes", spec := "vmDoes", unfollowed := true, recurses := true, apart := false }
def VmDoesSaid : Prop := vmDoesRow.holds Try.pinned (OpenSpec.ofChange vmDoesSpec)

/-- ITS FALSE NEIGHBOUR: 'it returns false'. Refute it at one input. -/
def vmDoesWrong : ChangeSpec := { name := "vmDoes", fn := fun _ => fun
  | [d1, d2, d3] => { results := [.lit (.bool false)], args := [d1, d2, d3] }
  | _ => none }
def VmDoesWrongFalsely : Prop := vmDoesRow.holds Try.pinned (OpenSpec.ofChange vmDoesWrong)

/-- 'quillpresslaw17.VmEnds': WHATEVER THE INPUT: true; the input reads as it did. -/
def vmEndsSpec : ChangeSpec := { name := "vmEnds", fn := fun _ => fun
  | [d1, d2, d3] => { results := [.lit (.bool true)], args := [d1, d2, d3] }
  | _ => none }
def vmEndsRow : OpenClaim := { program := "ytebmgladdgmmeaa", sum := "4d89292ea703c68ceea6aaee994be3142b2f969ab11cd814a898a10fd23c2f03", func := "quillpress/quillpresslaw17.VmEnds", spec := "vmEnds", unfollowed := true, recurses := true, apart := false }
def VmEndsSaid : Prop := vmEndsRow.holds Try.pinned (OpenSpec.ofChange vmEndsSpec)

/-- ITS FALSE NEIGHBOUR: 'it returns false'. Refute it at one input. -/
def vmEndsWrong : ChangeSpec := { name := "vmEnds", fn := fun _ => fun
  | [d1, d2, d3] => { results := [.lit (.bool false)], args := [d1, d2, d3] }
  | _ => none }
def VmEndsWrongFalsely : Prop := vmEndsRow.holds Try.pinned (OpenSpec.ofChange vmEndsWrong)

/-- 'quillpresslaw22.MeaningLists': WHATEVER THE INPUT: true; the input reads as it did. -/
def meaningListsSpec : ChangeSpec := { name := "meaningLists", fn := fun _ => fun
  | [d1, d2, d3] => { results := [.lit (.bool true)], args := [d1, d2, d3] }
  | _ => none }
def meaningListsRow : OpenClaim := { program := "ytebmgladdgmmeaa", sum := "4d89292ea703c68ceea6aaee994be3142b2f969ab11cd814a898a10fd23c2f03", func := "quillpress/quillpresslaw22.MeaningLists", spec := "meaningLists", unfollowed := true, recurses := true, loops := true, apart := false }
def MeaningListsSaid : Prop := meaningListsRow.holds Try.pinned (OpenSpec.ofChange meaningListsSpec)

/-- ITS FALSE NEIGHBOUR: 'it returns false'. Refute it at one input. -/
def meaningListsWrong : ChangeSpec := { name := "meaningLists", fn := fun _ => fun
  | [d1, d2, d3] => { results := [.lit (.bool false)], args := [d1, d2, d3] }
  | _ => none }
def MeaningListsWrongFalsely : Prop := meaningListsRow.holds Try.pinned (OpenSpec.ofChange meaningListsWrong)

/-- 'quillpresslaw22.MeaningRounds': WHATEVER THE INPUT: true; the input reads as it did. -/
def meaningRoundsSpec : ChangeSpec := { name := "meaningRounds", fn := fun _ => fun
  | [d] => { results := [.lit (.bool true)], args := [d] }
  | _ => none }
def meaningRoundsRow : OpenClaim := { program := "ytebmgladdgmmeaa", sum := "4d89292ea703c68ceea6aaee994be3142b2f969ab11cd814a898a10fd23c2f03", func := "quillpress/quillpresslaw22.MeaningRounds", spec := "meaningRounds", unfollowed := true, recurses := true, apart := false }
def MeaningRoundsSaid : Prop := meaningRoundsRow.holds Try.pinned (OpenSpec.ofChange meaningRoundsSpec)

/-- ITS FALSE NEIGHBOUR: 'it returns false'. Refute it at one input. -/
def meaningRoundsWrong : ChangeSpec := { name := "meaningRounds", fn := fun _ => fun
  | [d] => { results := [.lit (.bool false)], args := [d] }
  | _ => none }
def MeaningRoundsWrongFalsely : Prop := meaningRoundsRow.holds Try.pinned (OpenSpec.ofChange meaningRoundsWrong)

/- THE SECOND FORM. 'bulk': how many values and letters a reading holds, each counted each time it is reached (what is shared counts as often as it is met; a slice's spare places count too). A statement '..UptoSaid' is the law's where the arguments, and the package variables that the reading takes, are together of bulk at most 1048576: NARROWER than '..Said'. Prove '..Said' where nothing that the law and all that it calls make is longer than what came in: it says more and counts as full. Else prove '..UptoSaid'. A law counts once. -/
mutual
def uptoBulk {H : Type} : DataW H → Nat
  | .lit (.string bytes) => bytes.length + 1
  | .lit _ => 1
  | .nil => 1
  | .ptr d => uptoBulk d + 1
  | .slice elems spare => uptoBulkAll elems + uptoBulkAll spare + 1
  | .agg parts => uptoBulkAll parts + 1
  | .iface _ d => uptoBulk d + 1
  | .map entries => uptoBulkEntries entries + 1
  | .held _ => 1
def uptoBulkAll {H : Type} : List (DataW H) → Nat
  | [] => 0
  | d :: r => uptoBulk d + uptoBulkAll r
def uptoBulkEntries {H : Type} : List (Lit × DataW H) → Nat
  | [] => 0
  | x :: r => uptoBulkEntry x + uptoBulkEntries r
def uptoBulkEntry {H : Type} : Lit × DataW H → Nat
  | (.string bytes, d) => bytes.length + uptoBulk d + 1
  | (_, d) => uptoBulk d + 1
 end
def uptoSmall : (H : Type) → List (DataW H) → Bool := fun _ ds => decide (uptoBulkAll ds ≤ 1048576)
def OpenSpec.upto (s : _root_.Go.ChangeSpec) : _root_.Go.OpenSpec := { _root_.Go.OpenSpec.ofChange s with cond := some uptoSmall }

/-- 'quillpresslaw19.SyntaxParts', WHERE WHAT IT READS IS OF BULK AT MOST 1048576: true; the input reads as it did. -/
def syntaxPartsUptoRow : OpenClaim := { program := "ytebmgladdgmmeaa", sum := "4d89292ea703c68ceea6aaee994be3142b2f969ab11cd814a898a10fd23c2f03", func := "quillpress/quillpresslaw19.SyntaxParts", spec := "syntaxParts", unfollowed := true, recurses := true, loops := true, apart := false, narrowed := true }
def SyntaxPartsUptoSaid : Prop := syntaxPartsUptoRow.holds Try.pinned (OpenSpec.upto syntaxPartsSpec)

/-- 'quillpresslaw19.SyntaxTells', WHERE WHAT IT READS IS OF BULK AT MOST 1048576: true; the input reads as it did. -/
def syntaxTellsUptoRow : OpenClaim := { program := "ytebmgladdgmmeaa", sum := "4d89292ea703c68ceea6aaee994be3142b2f969ab11cd814a898a10fd23c2f03", func := "quillpress/quillpresslaw19.SyntaxTells", spec := "syntaxTells", unfollowed := true, recurses := true, loops := true, apart := false, narrowed := true }
def SyntaxTellsUptoSaid : Prop := syntaxTellsUptoRow.holds Try.pinned (OpenSpec.upto syntaxTellsSpec)

/-- 'quillpresslaw17.VmDoes', WHERE WHAT IT READS IS OF BULK AT MOST 1048576: true; the input reads as it did. -/
def vmDoesUptoRow : OpenClaim := { program := "ytebmgladdgmmeaa", sum := "4d89292ea703c68ceea6aaee994be3142b2f969ab11cd814a898a10fd23c2f03", func := "quillpress/quillpresslaw17.VmDoes", spec := "vmDoes", unfollowed := true, recurses := true, apart := false, narrowed := true }
def VmDoesUptoSaid : Prop := vmDoesUptoRow.holds Try.pinned (OpenSpec.upto vmDoesSpec)

/-- 'quillpresslaw17.VmEnds', WHERE WHAT IT READS IS OF BULK AT MOST 1048576: true; the input reads as it did. -/
def vmEndsUptoRow : OpenClaim := { program := "ytebmgladdgmmeaa", sum := "4d89292ea703c68ceea6aaee994be3142b2f969ab11cd814a898a10fd23c2f03", func := "quillpress/quillpresslaw17.VmEnds", spec := "vmEnds", unfollowed := true, recurses := true, apart := false, narrowed := true }
def VmEndsUptoSaid : Prop := vmEndsUptoRow.holds Try.pinned (OpenSpec.upto vmEndsSpec)

/-- 'quillpresslaw22.MeaningLists', WHERE WHAT IT READS IS OF BULK AT MOST 1048576: true; the input reads as it did. -/
def meaningListsUptoRow : OpenClaim := { program := "ytebmgladdgmmeaa", sum := "4d89292ea703c68ceea6aaee994be3142b2f969ab11cd814a898a10fd23c2f03", func := "quillpress/quillpresslaw22.MeaningLists", spec := "meaningLists", unfollowed := true, recurses := true, loops := true, apart := false, narrowed := true }
def MeaningListsUptoSaid : Prop := meaningListsUptoRow.holds Try.pinned (OpenSpec.upto meaningListsSpec)

/-- 'quillpresslaw22.MeaningRounds', WHERE WHAT IT READS IS OF BULK AT MOST 1048576: true; the input reads as it did. -/
def meaningRoundsUptoRow : OpenClaim := { program := "ytebmgladdgmmeaa", sum := "4d89292ea703c68ceea6aaee994be3142b2f969ab11cd814a898a10fd23c2f03", func := "quillpress/quillpresslaw22.MeaningRounds", spec := "meaningRounds", unfollowed := true, recurses := true, apart := false, narrowed := true }
def MeaningRoundsUptoSaid : Prop := meaningRoundsUptoRow.holds Try.pinned (OpenSpec.upto meaningRoundsSpec)

end Rows
end Go.Proofs.Ytebmgladdgmmeaa
