/-
  No cell of these rows narrows 'for every input' (looked for: loops, veiled, ifaces, maps, wideKeys, modest, calm, conditions, laid).
  DERIVED. THE GIVEN ROWS OF THIS SEAT. 3 by the template 'for every input the law returns true; each argument reads behind the call as it read before'; 0 by the template 'total and deterministic' (their statements: YtlhhkmpidnegcaaTotals.lean).
  GIVEN WITH THE SEED: the statements are not yours to turn. If you find one false, say at which input.
  Laid BY PROGRAM, IN A SANDBOX (cutbox-rows.mjs): the forced cells as the released guide's own fill.sh prints them over the translation 21018f1e597da2e7… (all of the seat's roots in one cut). By AI agents, Wed Nov 11 2026. No macro, syntax, notation, axiom, sorry.
-/
import Derived.Test.YtlhhkmpidnegcaaChecked
import GoSem.Claim
import GoSem.ClaimJoined
import GoSem.ClaimMapViews
import Derived.JoinedTies
import Derived.KernelRfl
namespace Go.Proofs.Ytlhhkmpidnegcaa
/- THE CELL 'sum', in the pinned program and in every row, IS THE sha256 OF THE DUMP (.gsa) THAT YtlhhkmpidnegcaaProg.lean LOADS. Nothing in Lean hashes anything: it is a label: what it is worth is what the hold of that sum in a sandbox is worth. -/
noncomputable def Try.pinned : Pinned := { name := "ytlhhkmpidnegcaa", sum := "21018f1e597da2e760e90b337d4f96c1d75aca8108bec61a7f79401cff41a029", checked := Try.checked }
namespace Rows
def none {H : Type} : Left H := { results := [], args := [] }

/-- 'quillpresslaw30.VersionsStay': WHATEVER THE INPUT: true; the input reads as it did. -/
def versionsStaySpec : ChangeSpec := { name := "versionsStay", fn := fun _ => fun
  | [d] => { results := [.lit (.bool true)], args := [d] }
  | _ => none }
def versionsStayRow : OpenClaim := { program := "ytlhhkmpidnegcaa", sum := "21018f1e597da2e760e90b337d4f96c1d75aca8108bec61a7f79401cff41a029", func := "quillpress/quillpresslaw30.VersionsStay", spec := "versionsStay", unfollowed := true, recurses := true, plainKeys := false, apart := false }
def VersionsStaySaid : Prop := versionsStayRow.holds Try.pinned (OpenSpec.ofChange versionsStaySpec)

/-- ITS FALSE NEIGHBOUR: 'it returns false'. Refute it at one input. -/
def versionsStayWrong : ChangeSpec := { name := "versionsStay", fn := fun _ => fun
  | [d] => { results := [.lit (.bool false)], args := [d] }
  | _ => none }
def VersionsStayWrongFalsely : Prop := versionsStayRow.holds Try.pinned (OpenSpec.ofChange versionsStayWrong)

/-- 'quillpresslaw30.VersionsNone': WHATEVER THE INPUT: true; the input reads as it did. -/
def versionsNoneSpec : ChangeSpec := { name := "versionsNone", fn := fun _ => fun
  | [d] => { results := [.lit (.bool true)], args := [d] }
  | _ => none }
def versionsNoneRow : OpenClaim := { program := "ytlhhkmpidnegcaa", sum := "21018f1e597da2e760e90b337d4f96c1d75aca8108bec61a7f79401cff41a029", func := "quillpress/quillpresslaw30.VersionsNone", spec := "versionsNone", inPlace := ["maps.clone"], unfollowed := true, recurses := true, plainKeys := false, apart := false }
def VersionsNoneSaid : Prop := versionsNoneRow.holds Try.pinned (OpenSpec.ofChange versionsNoneSpec)

/-- ITS FALSE NEIGHBOUR: 'it returns false'. Refute it at one input. -/
def versionsNoneWrong : ChangeSpec := { name := "versionsNone", fn := fun _ => fun
  | [d] => { results := [.lit (.bool false)], args := [d] }
  | _ => none }
def VersionsNoneWrongFalsely : Prop := versionsNoneRow.holds Try.pinned (OpenSpec.ofChange versionsNoneWrong)

/-- 'quillpresslaw30.VersionsNumbers': WHATEVER THE INPUT: true; the input reads as it did. -/
def versionsNumbersSpec : ChangeSpec := { name := "versionsNumbers", fn := fun _ => fun
  | [] => { results := [.lit (.bool true)], args := [] }
  | _ => none }
def versionsNumbersRow : OpenClaim := { program := "ytlhhkmpidnegcaa", sum := "21018f1e597da2e760e90b337d4f96c1d75aca8108bec61a7f79401cff41a029", func := "quillpress/quillpresslaw30.VersionsNumbers", spec := "versionsNumbers", unfollowed := true, recurses := true, plainKeys := false, apart := false }
def VersionsNumbersSaid : Prop := versionsNumbersRow.holds Try.pinned (OpenSpec.ofChange versionsNumbersSpec)

/-- ITS FALSE NEIGHBOUR: 'it returns false'. Refute it at one input. -/
def versionsNumbersWrong : ChangeSpec := { name := "versionsNumbers", fn := fun _ => fun
  | [] => { results := [.lit (.bool false)], args := [] }
  | _ => none }
def VersionsNumbersWrongFalsely : Prop := versionsNumbersRow.holds Try.pinned (OpenSpec.ofChange versionsNumbersWrong)

/- THE SECOND FORM. 'bulk': how many values and letters a reading holds, each counted each time it is reached (what is shared counts as often as it is met; a slice's spare places count too). A statement '..UptoSaid' is the law's where the arguments, and the package variables that the reading takes, are together of bulk at most 1048576: NARROWER than '..Said'. Prove '..Said' where nothing that the law and all that it calls make is longer than what came in: it says more and counts as full. Else prove '..UptoSaid'. A law counts once. -/
mutual
def uptoBulk {H : Type} : DataW H → Nat
  | .lit (.string bytes) => bytes.length + 1
  | .lit _ => 1
  | .nil => 1
  | .ptr d => uptoBulk d + 1
  | .slice elems spare => uptoBulkAll elems + uptoBulkAll spare + 1
  | .agg parts => uptoBulkAll parts + 1
  | .iface _ d => uptoBulk d + 1
  | .map entries => uptoBulkEntries entries + 1
  | .held _ => 1
def uptoBulkAll {H : Type} : List (DataW H) → Nat
  | [] => 0
  | d :: r => uptoBulk d + uptoBulkAll r
def uptoBulkEntries {H : Type} : List (Lit × DataW H) → Nat
  | [] => 0
  | x :: r => uptoBulkEntry x + uptoBulkEntries r
def uptoBulkEntry {H : Type} : Lit × DataW H → Nat
  | (.string bytes, d) => bytes.length + uptoBulk d + 1
  | (_, d) => uptoBulk d + 1
 end
def uptoSmall : (H : Type) → List (DataW H) → Bool := fun _ ds => decide (uptoBulkAll ds ≤ 1048576)
def OpenSpec.upto (s : _root_.Go.ChangeSpec) : _root_.Go.OpenSpec := { _root_.Go.OpenSpec.ofChange s with cond := some uptoSmall }

/-- 'quillpresslaw30.VersionsStay', WHERE WHAT IT READS IS OF BULK AT MOST 1048576: true; the input reads as it did. -/
def versionsStayUptoRow : OpenClaim := { program := "ytlhhkmpidnegcaa", sum := "21018f1e597da2e760e90b337d4f96c1d75aca8108bec61a7f79401cff41a029", func := "quillpress/quillpresslaw30.VersionsStay", spec := "versionsStay", unfollowed := true, recurses := true, plainKeys := false, apart := false, narrowed := true }
def VersionsStayUptoSaid : Prop := versionsStayUptoRow.holds Try.pinned (OpenSpec.upto versionsStaySpec)

/-- 'quillpresslaw30.VersionsNone', WHERE WHAT IT READS IS OF BULK AT MOST 1048576: true; the input reads as it did. -/
def versionsNoneUptoRow : OpenClaim := { program := "ytlhhkmpidnegcaa", sum := "21018f1e597da2e760e90b337d4f96c1d75aca8108bec61a7f79401cff41a029", func := "quillpress/quillpresslaw30.VersionsNone", spec := "versionsNone", inPlace := ["maps.clone"], unfollowed := true, recurses := true, plainKeys := false, apart := false, narrowed := true }
def VersionsNoneUptoSaid : Prop := versionsNoneUptoRow.holds Try.pinned (OpenSpec.upto versionsNoneSpec)

/-- 'quillpresslaw30.VersionsNumbers', WHERE WHAT IT READS IS OF BULK AT MOST 1048576: true; the input reads as it did. -/
def versionsNumbersUptoRow : OpenClaim := { program := "ytlhhkmpidnegcaa", sum := "21018f1e597da2e760e90b337d4f96c1d75aca8108bec61a7f79401cff41a029", func := "quillpress/quillpresslaw30.VersionsNumbers", spec := "versionsNumbers", unfollowed := true, recurses := true, plainKeys := false, apart := false, narrowed := true }
def VersionsNumbersUptoSaid : Prop := versionsNumbersUptoRow.holds Try.pinned (OpenSpec.upto versionsNumbersSpec)

end Rows
end Go.Proofs.Ytlhhkmpidnegcaa
