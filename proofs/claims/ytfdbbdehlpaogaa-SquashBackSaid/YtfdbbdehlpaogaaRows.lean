/-
  No cell of these rows narrows 'for every input' (looked for: loops, veiled, ifaces, maps, wideKeys, modest, calm, conditions, laid).
  DERIVED. THE GIVEN ROWS OF THIS SEAT. 4 by the template 'for every input the law returns true; each argument reads behind the call as it read before'; 0 by the template 'total and deterministic' (their statements: YtfdbbdehlpaogaaTotals.lean).
  GIVEN WITH THE SEED: the statements are not yours to turn. If you find one false, say at which input.
  Laid BY PROGRAM, IN A SANDBOX (cutbox-rows.mjs): the forced cells as the released guide's own fill.sh prints them over the translation 25159328804f8514… (all of the seat's roots in one cut). By AI agents, Wed Nov 11 2026. No macro, syntax, notation, axiom, sorry.
-/
import Derived.Test.YtfdbbdehlpaogaaChecked
import GoSem.Claim
import GoSem.ClaimJoined
import GoSem.ClaimMapViews
import Derived.JoinedTies
import Derived.KernelRfl
namespace Go.Proofs.Ytfdbbdehlpaogaa
/- THE CELL 'sum', in the pinned program and in every row, IS THE sha256 OF THE DUMP (.gsa) THAT YtfdbbdehlpaogaaProg.lean LOADS. Nothing in Lean hashes anything: it is a label: what it is worth is what the hold of that sum in a sandbox is worth. -/
noncomputable def Try.pinned : Pinned := { name := "ytfdbbdehlpaogaa", sum := "25159328804f8514610eb9c3a8befbc1a9bde4d469e21876f2cd67a11d2eceb6", checked := Try.checked }
namespace Rows
def none {H : Type} : Left H := { results := [], args := [] }

/-- 'quillpresslaw10.StatesTell': WHATEVER THE INPUT: true; the input reads as it did. -/
def statesTellSpec : ChangeSpec := { name := "statesTell", fn := fun _ => fun
  | [d1, d2] => { results := [.lit (.bool true)], args := [d1, d2] }
  | _ => none }
def statesTellRow : OpenClaim := { program := "ytfdbbdehlpaogaa", sum := "25159328804f8514610eb9c3a8befbc1a9bde4d469e21876f2cd67a11d2eceb6", func := "quillpress/quillpresslaw10.StatesTell", spec := "statesTell", unfollowed := true, recurses := true, apart := false }
def StatesTellSaid : Prop := statesTellRow.holds Try.pinned (OpenSpec.ofChange statesTellSpec)

/-- ITS FALSE NEIGHBOUR: 'it returns false'. Refute it at one input. -/
def statesTellWrong : ChangeSpec := { name := "statesTell", fn := fun _ => fun
  | [d1, d2] => { results := [.lit (.bool false)], args := [d1, d2] }
  | _ => none }
def StatesTellWrongFalsely : Prop := statesTellRow.holds Try.pinned (OpenSpec.ofChange statesTellWrong)

/-- 'quillpresslaw10.StatesLearn': WHATEVER THE INPUT: true; the input reads as it did. -/
def statesLearnSpec : ChangeSpec := { name := "statesLearn", fn := fun _ => fun
  | [d1, d2, d3] => { results := [.lit (.bool true)], args := [d1, d2, d3] }
  | _ => none }
def statesLearnRow : OpenClaim := { program := "ytfdbbdehlpaogaa", sum := "25159328804f8514610eb9c3a8befbc1a9bde4d469e21876f2cd67a11d2eceb6", func := "quillpress/quillpresslaw10.StatesLearn", spec := "statesLearn", unfollowed := true, recurses := true, apart := false }
def StatesLearnSaid : Prop := statesLearnRow.holds Try.pinned (OpenSpec.ofChange statesLearnSpec)

/-- ITS FALSE NEIGHBOUR: 'it returns false'. Refute it at one input. -/
def statesLearnWrong : ChangeSpec := { name := "statesLearn", fn := fun _ => fun
  | [d1, d2, d3] => { results := [.lit (.bool false)], args := [d1, d2, d3] }
  | _ => none }
def StatesLearnWrongFalsely : Prop := statesLearnRow.holds Try.pinned (OpenSpec.ofChange statesLearnWrong)

/-- 'quillpresslaw09.SquashTells': WHATEVER THE INPUT: true; the input reads as it did. -/
def squashTellsSpec : ChangeSpec := { name := "squashTells", fn := fun _ => fun
  | [d1, d2] => { results := [.lit (.bool true)], args := [d1, d2] }
  | _ => none }
def squashTellsRow : OpenClaim := { program := "ytfdbbdehlpaogaa", sum := "25159328804f8514610eb9c3a8befbc1a9bde4d469e21876f2cd67a11d2eceb6", func := "quillpress/quillpresslaw09.SquashTells", spec := "squashTells", unfollowed := true, recurses := true, apart := false }
def SquashTellsSaid : Prop := squashTellsRow.holds Try.pinned (OpenSpec.ofChange squashTellsSpec)

/-- ITS FALSE NEIGHBOUR: 'it returns false'. Refute it at one input. -/
def squashTellsWrong : ChangeSpec := { name := "squashTells", fn := fun _ => fun
  | [d1, d2] => { results := [.lit (.bool false)], args := [d1, d2] }
  | _ => none }
def SquashTellsWrongFalsely : Prop := squashTellsRow.holds Try.pinned (OpenSpec.ofChange squashTellsWrong)

/-- 'quillpresslaw09.SquashBack': WHATEVER THE INPUT: true; the input reads as it did. -/
def squashBackSpec : ChangeSpec := { name := "squashBack", fn := fun _ => fun
  | [d1, d2] => { results := [.lit (.bool true)], args := [d1, d2] }
  | _ => none }
def squashBackRow : OpenClaim := { program := "ytfdbbdehlpaogaa", sum := "25159328804f8514610eb9c3a8befbc1a9bde4d469e21876f2cd67a11d2eceb6", func := "quillpress/quillpresslaw09.SquashBack", spec := "squashBack", unfollowed := true, recurses := true, apart := false }
def SquashBackSaid : Prop := squashBackRow.holds Try.pinned (OpenSpec.ofChange squashBackSpec)

/-- ITS FALSE NEIGHBOUR: 'it returns false'. Refute it at one input. -/
def squashBackWrong : ChangeSpec := { name := "squashBack", fn := fun _ => fun
  | [d1, d2] => { results := [.lit (.bool false)], args := [d1, d2] }
  | _ => none }
def SquashBackWrongFalsely : Prop := squashBackRow.holds Try.pinned (OpenSpec.ofChange squashBackWrong)

/- THE SECOND FORM. 'bulk': how many values and letters a reading holds, each counted each time it is reached (what is shared counts as often as it is met; a slice's spare places count too). A statement '..UptoSaid' is the law's where the arguments, and the package variables that the reading takes, are together of bulk at most 1048576: NARROWER than '..Said'. Prove '..Said' where nothing that the law and all that it calls make is longer than what came in: it says more and counts as full. Else prove '..UptoSaid'. A law counts once. -/
mutual
def uptoBulk {H : Type} : DataW H → Nat
  | .lit (.string bytes) => bytes.length + 1
  | .lit _ => 1
  | .nil => 1
  | .ptr d => uptoBulk d + 1
  | .slice elems spare => uptoBulkAll elems + uptoBulkAll spare + 1
  | .agg parts => uptoBulkAll parts + 1
  | .iface _ d => uptoBulk d + 1
  | .map entries => uptoBulkEntries entries + 1
  | .held _ => 1
def uptoBulkAll {H : Type} : List (DataW H) → Nat
  | [] => 0
  | d :: r => uptoBulk d + uptoBulkAll r
def uptoBulkEntries {H : Type} : List (Lit × DataW H) → Nat
  | [] => 0
  | x :: r => uptoBulkEntry x + uptoBulkEntries r
def uptoBulkEntry {H : Type} : Lit × DataW H → Nat
  | (.string bytes, d) => bytes.length + uptoBulk d + 1
  | (_, d) => uptoBulk d + 1
 end
def uptoSmall : (H : Type) → List (DataW H) → Bool := fun _ ds => decide (uptoBulkAll ds ≤ 1048576)
def OpenSpec.upto (s : _root_.Go.ChangeSpec) : _root_.Go.OpenSpec := { _root_.Go.OpenSpec.ofChange s with cond := some uptoSmall }

/-- 'quillpresslaw10.StatesTell', WHERE WHAT IT READS IS OF BULK AT MOST 1048576: true; the input reads as it did. -/
def statesTellUptoRow : OpenClaim := { program := "ytfdbbdehlpaogaa", sum := "25159328804f8514610eb9c3a8befbc1a9bde4d469e21876f2cd67a11d2eceb6", func := "quillpress/quillpresslaw10.StatesTell", spec := "statesTell", unfollowed := true, recurses := true, apart := false, narrowed := true }
def StatesTellUptoSaid : Prop := statesTellUptoRow.holds Try.pinned (OpenSpec.upto statesTellSpec)

/-- 'quillpresslaw10.StatesLearn', WHERE WHAT IT READS IS OF BULK AT MOST 1048576: true; the input reads as it did. -/
def statesLearnUptoRow : OpenClaim := { program := "ytfdbbdehlpaogaa", sum := "25159328804f8514610eb9c3a8befbc1a9bde4d469e21876f2cd67a11d2eceb6", func := "quillpress/quillpresslaw10.StatesLearn", spec := "statesLearn", unfollowed := true, recurses := true, apart := false, narrowed := true }
def StatesLearnUptoSaid : Prop := statesLearnUptoRow.holds Try.pinned (OpenSpec.upto statesLearnSpec)

/-- 'quillpresslaw09.SquashTells', WHERE WHAT IT READS IS OF BULK AT MOST 1048576: true; the input reads as it did. -/
def squashTellsUptoRow : OpenClaim := { program := "ytfdbbdehlpaogaa", sum := "25159328804f8514610eb9c3a8befbc1a9bde4d469e21876f2cd67a11d2eceb6", func := "quillpress/quillpresslaw09.SquashTells", spec := "squashTells", unfollowed := true, recurses := true, apart := false, narrowed := true }
def SquashTellsUptoSaid : Prop := squashTellsUptoRow.holds Try.pinned (OpenSpec.upto squashTellsSpec)

/-- 'quillpresslaw09.SquashBack', WHERE WHAT IT READS IS OF BULK AT MOST 1048576: true; the input reads as it did. -/
def squashBackUptoRow : OpenClaim := { program := "ytfdbbdehlpaogaa", sum := "25159328804f8514610eb9c3a8befbc1a9bde4d469e21876f2cd67a11d2eceb6", func := "quillpress/quillpresslaw09.SquashBack", spec := "squashBack", unfollowed := true, recurses := true, apart := false, narrowed := true }
def SquashBackUptoSaid : Prop := squashBackUptoRow.holds Try.pinned (OpenSpec.upto squashBackSpec)

end Rows
end Go.Proofs.Ytfdbbdehlpaogaa
