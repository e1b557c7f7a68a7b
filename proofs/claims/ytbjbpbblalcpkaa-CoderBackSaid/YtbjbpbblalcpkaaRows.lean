/-
  No cell of these rows narrows 'for every input' (looked for: loops, veiled, ifaces, maps, wideKeys, modest, calm, conditions, laid).
  DERIVED. THE GIVEN ROWS OF THIS SEAT. 5 by the template 'for every input the law returns true; each argument reads behind the call as it read before'; 0 by the template 'total and deterministic' (their statements: YtbjbpbblalcpkaaTotals.lean).
  GIVEN WITH THE SEED: the statements are not yours to turn. If you find one false, say at which input.
  Laid BY PROGRAM, IN A SANDBOX (cutbox-rows.mjs): the forced cells as the released guide's own fill.sh prints them over the translation 77b399eb36540a4c… (all of the seat's roots in one cut). By AI agents, Wed Nov 11 2026. No macro, syntax, notation, axiom, sorry.
-/
import Derived.Test.YtbjbpbblalcpkaaChecked
import GoSem.Claim
import GoSem.ClaimJoined
import GoSem.ClaimMapViews
import Derived.JoinedTies
import Derived.KernelRfl
namespace Go.Proofs.Ytbjbpbblalcpkaa
/- THE CELL 'sum', in the pinned program and in every row, IS THE sha256 OF THE DUMP (.gsa) THAT YtbjbpbblalcpkaaProg.lean LOADS. Nothing in Lean hashes anything: it is a label: what it is worth is what the hold of that sum in a sandbox is worth. -/
noncomputable def Try.pinned : Pinned := { name := "ytbjbpbblalcpkaa", sum := "77b399eb36540a4ca76dd790a56ad01d664c9ec4e08797662c9cb2e42b762cd3", checked := Try.checked }
namespace Rows
def none {H : Type} : Left H := { results := [], args := [] }

/-- 'quillpresslaw14.CoderPuts': WHATEVER THE INPUT: true; the input reads as it did. -/
def coderPutsSpec : ChangeSpec := { name := "coderPuts", fn := fun _ => fun
  | [d] => { results := [.lit (.bool true)], args := [d] }
  | _ => none }
def coderPutsRow : OpenClaim := { program := "ytbjbpbblalcpkaa", sum := "77b399eb36540a4ca76dd790a56ad01d664c9ec4e08797662c9cb2e42b762cd3", func := "quillpress/quillpresslaw14.CoderPuts", spec := "coderPuts", unfollowed := true, recurses := true, apart := false }
def CoderPutsSaid : Prop := coderPutsRow.holds Try.pinned (OpenSpec.ofChange coderPutsSpec)

/-- ITS FALSE NEIGHBOUR: 'it returns false'. Refute it at one input. -/
def coderPutsWrong : ChangeSpec := { name := "coderPuts", fn := fun _ => fun
  | [d] => { results := [.lit (.bool false)], args := [d] }
  | _ => none }
def CoderPutsWrongFalsely : Prop := coderPutsRow.holds Try.pinned (OpenSpec.ofChange coderPutsWrong)

/-- 'quillpresslaw14.CoderBack': WHATEVER THE INPUT: true; the input reads as it did. -/
def coderBackSpec : ChangeSpec := { name := "coderBack", fn := fun _ => fun
  | [d1, d2] => { results := [.lit (.bool true)], args := [d1, d2] }
  | _ => none }
def coderBackRow : OpenClaim := { program := "ytbjbpbblalcpkaa", sum := "77b399eb36540a4ca76dd790a56ad01d664c9ec4e08797662c9cb2e42b762cd3", func := "quillpress/quillpresslaw14.CoderBack", spec := "coderBack", unfollowed := true, recurses := true, apart := false }
def CoderBackSaid : Prop := coderBackRow.holds Try.pinned (OpenSpec.ofChange coderBackSpec)

/-- ITS FALSE NEIGHBOUR: 'it returns false'. Refute it at one input. -/
def coderBackWrong : ChangeSpec := { name := "coderBack", fn := fun _ => fun
  | [d1, d2] => { results := [.lit (.bool false)], args := [d1, d2] }
  | _ => none }
def CoderBackWrongFalsely : Prop := coderBackRow.holds Try.pinned (OpenSpec.ofChange coderBackWrong)

/-- 'quillpresslaw14.CoderDear': WHATEVER THE INPUT: true; the input reads as it did. -/
def coderDearSpec : ChangeSpec := { name := "coderDear", fn := fun _ => fun
  | [d] => { results := [.lit (.bool true)], args := [d] }
  | _ => none }
def coderDearRow : OpenClaim := { program := "ytbjbpbblalcpkaa", sum := "77b399eb36540a4ca76dd790a56ad01d664c9ec4e08797662c9cb2e42b762cd3", func := "quillpress/quillpresslaw14.CoderDear", spec := "coderDear", unfollowed := true, recurses := true, apart := false }
def CoderDearSaid : Prop := coderDearRow.holds Try.pinned (OpenSpec.ofChange coderDearSpec)

/-- ITS FALSE NEIGHBOUR: 'it returns false'. Refute it at one input. -/
def coderDearWrong : ChangeSpec := { name := "coderDear", fn := fun _ => fun
  | [d] => { results := [.lit (.bool false)], args := [d] }
  | _ => none }
def CoderDearWrongFalsely : Prop := coderDearRow.holds Try.pinned (OpenSpec.ofChange coderDearWrong)

/-- 'quillpresslaw14.CoderGets': WHATEVER THE INPUT: true; the input reads as it did. -/
def coderGetsSpec : ChangeSpec := { name := "coderGets", fn := fun _ => fun
  | [d1, d2] => { results := [.lit (.bool true)], args := [d1, d2] }
  | _ => none }
def coderGetsRow : OpenClaim := { program := "ytbjbpbblalcpkaa", sum := "77b399eb36540a4ca76dd790a56ad01d664c9ec4e08797662c9cb2e42b762cd3", func := "quillpress/quillpresslaw14.CoderGets", spec := "coderGets", unfollowed := true, recurses := true, apart := false }
def CoderGetsSaid : Prop := coderGetsRow.holds Try.pinned (OpenSpec.ofChange coderGetsSpec)

/-- ITS FALSE NEIGHBOUR: 'it returns false'. Refute it at one input. -/
def coderGetsWrong : ChangeSpec := { name := "coderGets", fn := fun _ => fun
  | [d1, d2] => { results := [.lit (.bool false)], args := [d1, d2] }
  | _ => none }
def CoderGetsWrongFalsely : Prop := coderGetsRow.holds Try.pinned (OpenSpec.ofChange coderGetsWrong)

/-- 'quillpresslaw14.CoderNone': WHATEVER THE INPUT: true; the input reads as it did. -/
def coderNoneSpec : ChangeSpec := { name := "coderNone", fn := fun _ => fun
  | [d] => { results := [.lit (.bool true)], args := [d] }
  | _ => none }
def coderNoneRow : OpenClaim := { program := "ytbjbpbblalcpkaa", sum := "77b399eb36540a4ca76dd790a56ad01d664c9ec4e08797662c9cb2e42b762cd3", func := "quillpress/quillpresslaw14.CoderNone", spec := "coderNone", unfollowed := true, recurses := true, apart := false }
def CoderNoneSaid : Prop := coderNoneRow.holds Try.pinned (OpenSpec.ofChange coderNoneSpec)

/-- ITS FALSE NEIGHBOUR: 'it returns false'. Refute it at one input. -/
def coderNoneWrong : ChangeSpec := { name := "coderNone", fn := fun _ => fun
  | [d] => { results := [.lit (.bool false)], args := [d] }
  | _ => none }
def CoderNoneWrongFalsely : Prop := coderNoneRow.holds Try.pinned (OpenSpec.ofChange coderNoneWrong)

/- THE SECOND FORM. 'bulk': how many values and letters a reading holds, each counted each time it is reached (what is shared counts as often as it is met; a slice's spare places count too). A statement '..UptoSaid' is the law's where the arguments, and the package variables that the reading takes, are together of bulk at most 1048576: NARROWER than '..Said'. Prove '..Said' where nothing that the law and all that it calls make is longer than what came in: it says more and counts as full. Else prove '..UptoSaid'. A law counts once. -/
mutual
def uptoBulk {H : Type} : DataW H → Nat
  | .lit (.string bytes) => bytes.length + 1
  | .lit _ => 1
  | .nil => 1
  | .ptr d => uptoBulk d + 1
  | .slice elems spare => uptoBulkAll elems + uptoBulkAll spare + 1
  | .agg parts => uptoBulkAll parts + 1
  | .iface _ d => uptoBulk d + 1
  | .map entries => uptoBulkEntries entries + 1
  | .held _ => 1
def uptoBulkAll {H : Type} : List (DataW H) → Nat
  | [] => 0
  | d :: r => uptoBulk d + uptoBulkAll r
def uptoBulkEntries {H : Type} : List (Lit × DataW H) → Nat
  | [] => 0
  | x :: r => uptoBulkEntry x + uptoBulkEntries r
def uptoBulkEntry {H : Type} : Lit × DataW H → Nat
  | (.string bytes, d) => bytes.length + uptoBulk d + 1
  | (_, d) => uptoBulk d + 1
 end
def uptoSmall : (H : Type) → List (DataW H) → Bool := fun _ ds => decide (uptoBulkAll ds ≤ 1048576)
def OpenSpec.upto (s : _root_.Go.ChangeSpec) : _root_.Go.OpenSpec := { _root_.Go.OpenSpec.ofChange s with cond := some uptoSmall }

/-- 'quillpresslaw14.CoderPuts', WHERE WHAT IT READS IS OF BULK AT MOST 1048576: true; the input reads as it did. -/
def coderPutsUptoRow : OpenClaim := { program := "ytbjbpbblalcpkaa", sum := "77b399eb36540a4ca76dd790a56ad01d664c9ec4e08797662c9cb2e42b762cd3", func := "quillpress/quillpresslaw14.CoderPuts", spec := "coderPuts", unfollowed := true, recurses := true, apart := false, narrowed := true }
def CoderPutsUptoSaid : Prop := coderPutsUptoRow.holds Try.pinned (OpenSpec.upto coderPutsSpec)

/-- 'quillpresslaw14.CoderBack', WHERE WHAT IT READS IS OF BULK AT MOST 1048576: true; the input reads as it did. -/
def coderBackUptoRow : OpenClaim := { program := "ytbjbpbblalcpkaa", sum := "77b399eb36540a4ca76dd790a56ad01d664c9ec4e08797662c9cb2e42b762cd3", func := "quillpress/quillpresslaw14.CoderBack", spec := "coderBack", unfollowed := true, recurses := true, apart := false, narrowed := true }
def CoderBackUptoSaid : Prop := coderBackUptoRow.holds Try.pinned (OpenSpec.upto coderBackSpec)

/-- 'quillpresslaw14.CoderDear', WHERE WHAT IT READS IS OF BULK AT MOST 1048576: true; the input reads as it did. -/
def coderDearUptoRow : OpenClaim := { program := "ytbjbpbblalcpkaa", sum := "77b399eb36540a4ca76dd790a56ad01d664c9ec4e08797662c9cb2e42b762cd3", func := "quillpress/quillpresslaw14.CoderDear", spec := "coderDear", unfollowed := true, recurses := true, apart := false, narrowed := true }
def CoderDearUptoSaid : Prop := coderDearUptoRow.holds Try.pinned (OpenSpec.upto coderDearSpec)

/-- 'quillpresslaw14.CoderGets', WHERE WHAT IT READS IS OF BULK AT MOST 1048576: true; the input reads as it did. -/
def coderGetsUptoRow : OpenClaim := { program := "ytbjbpbblalcpkaa", sum := "77b399eb36540a4ca76dd790a56ad01d664c9ec4e08797662c9cb2e42b762cd3", func := "quillpress/quillpresslaw14.CoderGets", spec := "coderGets", unfollowed := true, recurses := true, apart := false, narrowed := true }
def CoderGetsUptoSaid : Prop := coderGetsUptoRow.holds Try.pinned (OpenSpec.upto coderGetsSpec)

/-- 'quillpresslaw14.CoderNone', WHERE WHAT IT READS IS OF BULK AT MOST 1048576: true; the input reads as it did. -/
def coderNoneUptoRow : OpenClaim := { program := "ytbjbpbblalcpkaa", sum := "77b399eb36540a4ca76dd790a56ad01d664c9ec4e08797662c9cb2e42b762cd3", func := "quillpress/quillpresslaw14.CoderNone", spec := "coderNone", unfollowed := true, recurses := true, apart := false, narrowed := true }
def CoderNoneUptoSaid : Prop := coderNoneUptoRow.holds Try.pinned (OpenSpec.upto coderNoneSpec)

end Rows
end Go.Proofs.Ytbjbpbblalcpkaa
