/-
  No cell of these rows narrows 'for every input' (looked for: loops, veiled, ifaces, maps, wideKeys, modest, calm, conditions, laid).
  DERIVED. THE GIVEN ROWS OF THIS SEAT. 7 by the template 'for every input the law returns true; each argument reads behind the call as it read before'; 0 by the template 'total and deterministic' (their statements: YtaiekpdoljleeaaTotals.lean).
  GIVEN WITH THE SEED: the statements are not yours to turn. If you find one false, say at which input.
  Laid BY PROGRAM, IN A SANDBOX (cutbox-rows.mjs): the forced cells as the released guide's own fill.sh prints them over the translation 22a215f64c27b1b4… (all of the seat's roots in one cut). By AI agents, Wed Nov 11 2026. No macro, syntax, notation, axiom, sorry.
-/
import Derived.Test.YtaiekpdoljleeaaChecked
import GoSem.Claim
import GoSem.ClaimJoined
import GoSem.ClaimMapViews
import Derived.JoinedTies
import Derived.KernelRfl
namespace Go.Proofs.Ytaiekpdoljleeaa
/- THE CELL 'sum', in the pinned program and in every row, IS THE sha256 OF THE DUMP (.gsa) THAT YtaiekpdoljleeaaProg.lean LOADS. Nothing in Lean hashes anything: it is a label: what it is worth is what the hold of that sum in a sandbox is worth. -/
noncomputable def Try.pinned : Pinned := { name := "ytaiekpdoljleeaa", sum := "22a215f64c27b1b4c63c98c38b9b4aac375e59055b5c1ea00d3016e250b843c8", checked := Try.checked }
namespace Rows
def none {H : Type} : Left H := { results := [], args := [] }

/-- 'quillpresslaw11.PartsTell': WHATEVER THE INPUT: true; the input reads as it did. -/
def partsTellSpec : ChangeSpec := { name := "partsTell", fn := fun _ => fun
  | [d] => { results := [.lit (.bool true)], args := [d] }
  | _ => none }
def partsTellRow : OpenClaim := { program := "ytaiekpdoljleeaa", sum := "22a215f64c27b1b4c63c98c38b9b4aac375e59055b5c1ea00d3016e250b843c8", func := "quillpress/quillpresslaw11.PartsTell", spec := "partsTell", unfollowed := true, recurses := true, apart := false }
def PartsTellSaid : Prop := partsTellRow.holds Try.pinned (OpenSpec.ofChange partsTellSpec)

/-- ITS FALSE NEIGHBOUR: 'it returns false'. Refute it at one input. -/
def partsTellWrong : ChangeSpec := { name := "partsTell", fn := fun _ => fun
  | [d] => { results := [.lit (.bool false)], args := [d] }
  | _ => none }
def PartsTellWrongFalsely : Prop := partsTellRow.holds Try.pinned (OpenSpec.ofChange partsTellWrong)

/-- 'quillpresslaw11.PartsStand': WHATEVER THE INPUT: true; the input reads as it did. -/
def partsStandSpec : ChangeSpec := { name := "partsStand", fn := fun _ => fun
  | [d] => { results := [.lit (.bool true)], args := [d] }
  | _ => none }
def partsStandRow : OpenClaim := { program := "ytaiekpdoljleeaa", sum := "22a215f64c27b1b4c63c98c38b9b4aac375e59055b5c1ea00d3016e250b843c8", func := "quillpress/quillpresslaw11.PartsStand", spec := "partsStand", unfollowed := true, recurses := true, apart := false }
def PartsStandSaid : Prop := partsStandRow.holds Try.pinned (OpenSpec.ofChange partsStandSpec)

/-- ITS FALSE NEIGHBOUR: 'it returns false'. Refute it at one input. -/
def partsStandWrong : ChangeSpec := { name := "partsStand", fn := fun _ => fun
  | [d] => { results := [.lit (.bool false)], args := [d] }
  | _ => none }
def PartsStandWrongFalsely : Prop := partsStandRow.holds Try.pinned (OpenSpec.ofChange partsStandWrong)

/-- 'quillpresslaw15.CodeBack': WHATEVER THE INPUT: true; the input reads as it did. -/
def codeBackSpec : ChangeSpec := { name := "codeBack", fn := fun _ => fun
  | [d1, d2, d3] => { results := [.lit (.bool true)], args := [d1, d2, d3] }
  | _ => none }
def codeBackRow : OpenClaim := { program := "ytaiekpdoljleeaa", sum := "22a215f64c27b1b4c63c98c38b9b4aac375e59055b5c1ea00d3016e250b843c8", func := "quillpress/quillpresslaw15.CodeBack", spec := "codeBack", unfollowed := true, recurses := true, apart := false }
def CodeBackSaid : Prop := codeBackRow.holds Try.pinned (OpenSpec.ofChange codeBackSpec)

/-- ITS FALSE NEIGHBOUR: 'it returns false'. Refute it at one input. -/
def codeBackWrong : ChangeSpec := { name := "codeBack", fn := fun _ => fun
  | [d1, d2, d3] => { results := [.lit (.bool false)], args := [d1, d2, d3] }
  | _ => none }
def CodeBackWrongFalsely : Prop := codeBackRow.holds Try.pinned (OpenSpec.ofChange codeBackWrong)

/-- 'quillpresslaw16.ValidTells': WHATEVER THE INPUT: true; the input reads as it did. -/
def validTellsSpec : ChangeSpec := { name := "validTells", fn := fun _ => fun
  | [d1, d2] => { results := [.lit (.bool true)], args := [d1, d2] }
  | _ => none }
def validTellsRow : OpenClaim := { program := "ytaiekpdoljleeaa", sum := "22a215f64c27b1b4c63c98c38b9b4aac375e59055b5c1ea00d3016e250b843c8", func := "quillpress/quillpresslaw16.ValidTells", spec := "validTells", unfollowed := true, recurses := true, apart := false }
def ValidTellsSaid : Prop := validTellsRow.holds Try.pinned (OpenSpec.ofChange validTellsSpec)

/-- ITS FALSE NEIGHBOUR: 'it returns false'. Refute it at one input. -/
def validTellsWrong : ChangeSpec := { name := "validTells", fn := fun _ => fun
  | [d1, d2] => { results := [.lit (.bool false)], args := [d1, d2] }
  | _ => none }
def ValidTellsWrongFalsely : Prop := validTellsRow.holds Try.pinned (OpenSpec.ofChange validTellsWrong)

/-- 'quillpresslaw16.ValidStays': WHATEVER THE INPUT: true; the input reads as it did. -/
def validStaysSpec : ChangeSpec := { name := "validStays", fn := fun _ => fun
  | [d1, d2, d3] => { results := [.lit (.bool true)], args := [d1, d2, d3] }
  | _ => none }
def validStaysRow : OpenClaim := { program := "ytaiekpdoljleeaa", sum := "22a215f64c27b1b4c63c98c38b9b4aac375e59055b5c1ea00d3016e250b843c8", func := "quillpress/quillpresslaw16.ValidStays", spec := "validStays", unfollowed := true, recurses := true, apart := false }
def ValidStaysSaid : Prop := validStaysRow.holds Try.pinned (OpenSpec.ofChange validStaysSpec)

/-- ITS FALSE NEIGHBOUR: 'it returns false'. Refute it at one input. -/
def validStaysWrong : ChangeSpec := { name := "validStays", fn := fun _ => fun
  | [d1, d2, d3] => { results := [.lit (.bool false)], args := [d1, d2, d3] }
  | _ => none }
def ValidStaysWrongFalsely : Prop := validStaysRow.holds Try.pinned (OpenSpec.ofChange validStaysWrong)

/-- 'quillpresslaw13.ModelTells': WHATEVER THE INPUT: true; the input reads as it did. -/
def modelTellsSpec : ChangeSpec := { name := "modelTells", fn := fun _ => fun
  | [d1, d2] => { results := [.lit (.bool true)], args := [d1, d2] }
  | _ => none }
def modelTellsRow : OpenClaim := { program := "ytaiekpdoljleeaa", sum := "22a215f64c27b1b4c63c98c38b9b4aac375e59055b5c1ea00d3016e250b843c8", func := "quillpress/quillpresslaw13.ModelTells", spec := "modelTells", unfollowed := true, recurses := true, apart := false }
def ModelTellsSaid : Prop := modelTellsRow.holds Try.pinned (OpenSpec.ofChange modelTellsSpec)

/-- ITS FALSE NEIGHBOUR: 'it returns false'. Refute it at one input. -/
def modelTellsWrong : ChangeSpec := { name := "modelTells", fn := fun _ => fun
  | [d1, d2] => { results := [.lit (.bool false)], args := [d1, d2] }
  | _ => none }
def ModelTellsWrongFalsely : Prop := modelTellsRow.holds Try.pinned (OpenSpec.ofChange modelTellsWrong)

/-- 'quillpresslaw13.ModelBack': WHATEVER THE INPUT: true; the input reads as it did. -/
def modelBackSpec : ChangeSpec := { name := "modelBack", fn := fun _ => fun
  | [d1, d2] => { results := [.lit (.bool true)], args := [d1, d2] }
  | _ => none }
def modelBackRow : OpenClaim := { program := "ytaiekpdoljleeaa", sum := "22a215f64c27b1b4c63c98c38b9b4aac375e59055b5c1ea00d3016e250b843c8", func := "quillpress/quillpresslaw13.ModelBack", spec := "modelBack", unfollowed := true, recurses := true, apart := false }
def ModelBackSaid : Prop := modelBackRow.holds Try.pinned (OpenSpec.ofChange modelBackSpec)

/-- ITS FALSE NEIGHBOUR: 'it returns false'. Refute it at one input. -/
def modelBackWrong : ChangeSpec := { name := "modelBack", fn := fun _ => fun
  | [d1, d2] => { results := [.lit (.bool false)], args := [d1, d2] }
  | _ => none }
def ModelBackWrongFalsely : Prop := modelBackRow.holds Try.pinned (OpenSpec.ofChange modelBackWrong)

/- THE SECOND FORM. 'bulk': how many values and letters a reading holds, each counted each time it is reached (what is shared counts as often as it is met; a slice's spare places count too). A statement '..UptoSaid' is the law's where the arguments, and the package variables that the reading takes, are together of bulk at most 1048576: NARROWER than '..Said'. Prove '..Said' where nothing that the law and all that it calls make is longer than what came in: it says more and counts as full. Else prove '..UptoSaid'. A law counts once. -/
mutual
def uptoBulk {H : Type} : DataW H → Nat
  | .lit (.string bytes) => bytes.length + 1
  | .lit _ => 1
  | .nil => 1
  | .ptr d => uptoBulk d + 1
  | .slice elems spare => uptoBulkAll elems + uptoBulkAll spare + 1
  | .agg parts => uptoBulkAll parts + 1
  | .iface _ d => uptoBulk d + 1
  | .map entries => uptoBulkEntries entries + 1
  | .held _ => 1
def uptoBulkAll {H : Type} : List (DataW H) → Nat
  | [] => 0
  | d :: r => uptoBulk d + uptoBulkAll r
def uptoBulkEntries {H : Type} : List (Lit × DataW H) → Nat
  | [] => 0
  | x :: r => uptoBulkEntry x + uptoBulkEntries r
def uptoBulkEntry {H : Type} : Lit × DataW H → Nat
  | (.string bytes, d) => bytes.length + uptoBulk d + 1
  | (_, d) => uptoBulk d + 1
 end
def uptoSmall : (H : Type) → List (DataW H) → Bool := fun _ ds => decide (uptoBulkAll ds ≤ 1048576)
def OpenSpec.upto (s : _root_.Go.ChangeSpec) : _root_.Go.OpenSpec := { _root_.Go.OpenSpec.ofChange s with cond := some uptoSmall }

/-- 'quillpresslaw11.PartsTell', WHERE WHAT IT READS IS OF BULK AT MOST 1048576: true; the input reads as it did. -/
def partsTellUptoRow : OpenClaim := { program := "ytaiekpdoljleeaa", sum := "22a215f64c27b1b4c63c98c38b9b4aac375e59055b5c1ea00d3016e250b843c8", func := "quillpress/quillpresslaw11.PartsTell", spec := "partsTell", unfollowed := true, recurses := true, apart := false, narrowed := true }
def PartsTellUptoSaid : Prop := partsTellUptoRow.holds Try.pinned (OpenSpec.upto partsTellSpec)

/-- 'quillpresslaw11.PartsStand', WHERE WHAT IT READS IS OF BULK AT MOST 1048576: true; the input reads as it did. -/
def partsStandUptoRow : OpenClaim := { program := "ytaiekpdoljleeaa", sum := "22a215f64c27b1b4c63c98c38b9b4aac375e59055b5c1ea00d3016e250b843c8", func := "quillpress/quillpresslaw11.PartsStand", spec := "partsStand", unfollowed := true, recurses := true, apart := false, narrowed := true }
def PartsStandUptoSaid : Prop := partsStandUptoRow.holds Try.pinned (OpenSpec.upto partsStandSpec)

/-- 'quillpresslaw15.CodeBack', WHERE WHAT IT READS IS OF BULK AT MOST 1048576: true; the input reads as it did. -/
def codeBackUptoRow : OpenClaim := { program := "ytaiekpdoljleeaa", sum := "22a215f64c27b1b4c63c98c38b9b4aac375e59055b5c1ea00d3016e250b843c8", func := "quillpress/quillpresslaw15.CodeBack", spec := "codeBack", unfollowed := true, recurses := true, apart := false, narrowed := true }
def CodeBackUptoSaid : Prop := codeBackUptoRow.holds Try.pinned (OpenSpec.upto codeBackSpec)

/-- 'quillpresslaw16.ValidTells', WHERE WHAT IT READS IS OF BULK AT MOST 1048576: true; the input reads as it did. -/
def validTellsUptoRow : OpenClaim := { program := "ytaiekpdoljleeaa", sum := "22a215f64c27b1b4c63c98c38b9b4aac375e59055b5c1ea00d3016e250b843c8", func := "quillpress/quillpresslaw16.ValidTells", spec := "validTells", unfollowed := true, recurses := true, apart := false, narrowed := true }
def ValidTellsUptoSaid : Prop := validTellsUptoRow.holds Try.pinned (OpenSpec.upto validTellsSpec)

/-- 'quillpresslaw16.ValidStays', WHERE WHAT IT READS IS OF BULK AT MOST 1048576: true; the input reads as it did. -/
def validStaysUptoRow : OpenClaim := { program := "ytaiekpdoljleeaa", sum := "22a215f64c27b1b4c63c98c38b9b4aac375e59055b5c1ea00d3016e250b843c8", func := "quillpress/quillpresslaw16.ValidStays", spec := "validStays", unfollowed := true, recurses := true, apart := false, narrowed := true }
def ValidStaysUptoSaid : Prop := validStaysUptoRow.holds Try.pinned (OpenSpec.upto validStaysSpec)

/-- 'quillpresslaw13.ModelTells', WHERE WHAT IT READS IS OF BULK AT MOST 1048576: true; the input reads as it did. -/
def modelTellsUptoRow : OpenClaim := { program := "ytaiekpdoljleeaa", sum := "22a215f64c27b1b4c63c98c38b9b4aac375e59055b5c1ea00d3016e250b843c8", func := "quillpress/quillpresslaw13.ModelTells", spec := "modelTells", unfollowed := true, recurses := true, apart := false, narrowed := true }
def ModelTellsUptoSaid : Prop := modelTellsUptoRow.holds Try.pinned (OpenSpec.upto modelTellsSpec)

/-- 'quillpresslaw13.ModelBack', WHERE WHAT IT READS IS OF BULK AT MOST 1048576: true; the input reads as it did. -/
def modelBackUptoRow : OpenClaim := { program := "ytaiekpdoljleeaa", sum := "22a215f64c27b1b4c63c98c38b9b4aac375e59055b5c1ea00d3016e250b843c8", func := "quillpress/quillpresslaw13.ModelBack", spec := "modelBack", unfollowed := true, recurses := true, apart := false, narrowed := true }
def ModelBackUptoSaid : Prop := modelBackUptoRow.holds Try.pinned (OpenSpec.upto modelBackSpec)

end Rows
end Go.Proofs.Ytaiekpdoljleeaa
