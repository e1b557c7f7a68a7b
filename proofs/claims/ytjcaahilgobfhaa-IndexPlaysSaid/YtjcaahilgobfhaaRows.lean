/-
  No cell of these rows narrows 'for every input' (looked for: loops, veiled, ifaces, maps, wideKeys, modest, calm, conditions, laid).
  DERIVED. THE GIVEN ROWS OF THIS SEAT. 7 by the template 'for every input the law returns true; each argument reads behind the call as it read before'; 0 by the template 'total and deterministic' (their statements: YtjcaahilgobfhaaTotals.lean).
  GIVEN WITH THE SEED: the statements are not yours to turn. If you find one false, say at which input.
  Laid BY PROGRAM, IN A SANDBOX (cutbox-rows.mjs): the forced cells as the released guide's own fill.sh prints them over the translation 76b755d72221cc5b… (all of the seat's roots in one cut). By AI agents, Wed Nov 11 2026. No macro, syntax, notation, axiom, sorry.
-/
import Derived.Test.YtjcaahilgobfhaaChecked
import GoSem.Claim
import GoSem.ClaimJoined
import GoSem.ClaimMapViews
import Derived.JoinedTies
import Derived.KernelRfl
namespace Go.Proofs.Ytjcaahilgobfhaa
/- THE CELL 'sum', in the pinned program and in every row, IS THE sha256 OF THE DUMP (.gsa) THAT YtjcaahilgobfhaaProg.lean LOADS. Nothing in Lean hashes anything: it is a label: what it is worth is what the hold of that sum in a sandbox is worth. -/
noncomputable def Try.pinned : Pinned := { name := "ytjcaahilgobfhaa", sum := "76b755d72221cc5bad1962fe6bb2431fb7291416761e10f4d4ce09cc77ec0039", checked := Try.checked }
namespace Rows
def none {H : Type} : Left H := { results := [], args := [] }

/-- 'quillpresslaw25.CutNumbers': WHATEVER THE INPUT: true; the input reads as it did. -/
def cutNumbersSpec : ChangeSpec := { name := "cutNumbers", fn := fun _ => fun
  | [] => { results := [.lit (.bool true)], args := [] }
  | _ => none }
def cutNumbersRow : OpenClaim := { program := "ytjcaahilgobfhaa", sum := "76b755d72221cc5bad1962fe6bb2431fb7291416761e10f4d4ce09cc77ec0039", func := "quillpress/quillpresslaw25.CutNumbers", spec := "cutNumbers", plainKeys := false, apart := false }
def CutNumbersSaid : Prop := cutNumbersRow.holds Try.pinned (OpenSpec.ofChange cutNumbersSpec)

/-- ITS FALSE NEIGHBOUR: 'it returns false'. Refute it at one input. -/
def cutNumbersWrong : ChangeSpec := { name := "cutNumbers", fn := fun _ => fun
  | [] => { results := [.lit (.bool false)], args := [] }
  | _ => none }
def CutNumbersWrongFalsely : Prop := cutNumbersRow.holds Try.pinned (OpenSpec.ofChange cutNumbersWrong)

/-- 'quillpresslaw25.CutTells': WHATEVER THE INPUT: true; the input reads as it did. -/
def cutTellsSpec : ChangeSpec := { name := "cutTells", fn := fun _ => fun
  | [d] => { results := [.lit (.bool true)], args := [d] }
  | _ => none }
def cutTellsRow : OpenClaim := { program := "ytjcaahilgobfhaa", sum := "76b755d72221cc5bad1962fe6bb2431fb7291416761e10f4d4ce09cc77ec0039", func := "quillpress/quillpresslaw25.CutTells", spec := "cutTells", plainKeys := false, apart := false }
def CutTellsSaid : Prop := cutTellsRow.holds Try.pinned (OpenSpec.ofChange cutTellsSpec)

/-- ITS FALSE NEIGHBOUR: 'it returns false'. Refute it at one input. -/
def cutTellsWrong : ChangeSpec := { name := "cutTells", fn := fun _ => fun
  | [d] => { results := [.lit (.bool false)], args := [d] }
  | _ => none }
def CutTellsWrongFalsely : Prop := cutTellsRow.holds Try.pinned (OpenSpec.ofChange cutTellsWrong)

/-- 'quillpresslaw25.CutStays': WHATEVER THE INPUT: true; the input reads as it did. -/
def cutStaysSpec : ChangeSpec := { name := "cutStays", fn := fun _ => fun
  | [d1, d2] => { results := [.lit (.bool true)], args := [d1, d2] }
  | _ => none }
def cutStaysRow : OpenClaim := { program := "ytjcaahilgobfhaa", sum := "76b755d72221cc5bad1962fe6bb2431fb7291416761e10f4d4ce09cc77ec0039", func := "quillpress/quillpresslaw25.CutStays", spec := "cutStays", plainKeys := false, apart := false }
def CutStaysSaid : Prop := cutStaysRow.holds Try.pinned (OpenSpec.ofChange cutStaysSpec)

/-- ITS FALSE NEIGHBOUR: 'it returns false'. Refute it at one input. -/
def cutStaysWrong : ChangeSpec := { name := "cutStays", fn := fun _ => fun
  | [d1, d2] => { results := [.lit (.bool false)], args := [d1, d2] }
  | _ => none }
def CutStaysWrongFalsely : Prop := cutStaysRow.holds Try.pinned (OpenSpec.ofChange cutStaysWrong)

/-- 'quillpresslaw26.IndexNumbers': WHATEVER THE INPUT: true; the input reads as it did. -/
def indexNumbersSpec : ChangeSpec := { name := "indexNumbers", fn := fun _ => fun
  | [] => { results := [.lit (.bool true)], args := [] }
  | _ => none }
def indexNumbersRow : OpenClaim := { program := "ytjcaahilgobfhaa", sum := "76b755d72221cc5bad1962fe6bb2431fb7291416761e10f4d4ce09cc77ec0039", func := "quillpress/quillpresslaw26.IndexNumbers", spec := "indexNumbers", plainKeys := false, apart := false }
def IndexNumbersSaid : Prop := indexNumbersRow.holds Try.pinned (OpenSpec.ofChange indexNumbersSpec)

/-- ITS FALSE NEIGHBOUR: 'it returns false'. Refute it at one input. -/
def indexNumbersWrong : ChangeSpec := { name := "indexNumbers", fn := fun _ => fun
  | [] => { results := [.lit (.bool false)], args := [] }
  | _ => none }
def IndexNumbersWrongFalsely : Prop := indexNumbersRow.holds Try.pinned (OpenSpec.ofChange indexNumbersWrong)

/-- 'quillpresslaw26.IndexOnce': WHATEVER THE INPUT: true; the input reads as it did. -/
def indexOnceSpec : ChangeSpec := { name := "indexOnce", fn := fun _ => fun
  | [d] => { results := [.lit (.bool true)], args := [d] }
  | _ => none }
def indexOnceRow : OpenClaim := { program := "ytjcaahilgobfhaa", sum := "76b755d72221cc5bad1962fe6bb2431fb7291416761e10f4d4ce09cc77ec0039", func := "quillpress/quillpresslaw26.IndexOnce", spec := "indexOnce", plainKeys := false, apart := false }
def IndexOnceSaid : Prop := indexOnceRow.holds Try.pinned (OpenSpec.ofChange indexOnceSpec)

/-- ITS FALSE NEIGHBOUR: 'it returns false'. Refute it at one input. -/
def indexOnceWrong : ChangeSpec := { name := "indexOnce", fn := fun _ => fun
  | [d] => { results := [.lit (.bool false)], args := [d] }
  | _ => none }
def IndexOnceWrongFalsely : Prop := indexOnceRow.holds Try.pinned (OpenSpec.ofChange indexOnceWrong)

/-- 'quillpresslaw26.IndexPlays': WHATEVER THE INPUT: true; the input reads as it did. -/
def indexPlaysSpec : ChangeSpec := { name := "indexPlays", fn := fun _ => fun
  | [d] => { results := [.lit (.bool true)], args := [d] }
  | _ => none }
def indexPlaysRow : OpenClaim := { program := "ytjcaahilgobfhaa", sum := "76b755d72221cc5bad1962fe6bb2431fb7291416761e10f4d4ce09cc77ec0039", func := "quillpress/quillpresslaw26.IndexPlays", spec := "indexPlays", inPlace := ["maps.clone"], plainKeys := false, apart := false }
def IndexPlaysSaid : Prop := indexPlaysRow.holds Try.pinned (OpenSpec.ofChange indexPlaysSpec)

/-- ITS FALSE NEIGHBOUR: 'it returns false'. Refute it at one input. -/
def indexPlaysWrong : ChangeSpec := { name := "indexPlays", fn := fun _ => fun
  | [d] => { results := [.lit (.bool false)], args := [d] }
  | _ => none }
def IndexPlaysWrongFalsely : Prop := indexPlaysRow.holds Try.pinned (OpenSpec.ofChange indexPlaysWrong)

/-- 'quillpresslaw26.IndexNone': WHATEVER THE INPUT: true; the input reads as it did. -/
def indexNoneSpec : ChangeSpec := { name := "indexNone", fn := fun _ => fun
  | [d1, d2] => { results := [.lit (.bool true)], args := [d1, d2] }
  | _ => none }
def indexNoneRow : OpenClaim := { program := "ytjcaahilgobfhaa", sum := "76b755d72221cc5bad1962fe6bb2431fb7291416761e10f4d4ce09cc77ec0039", func := "quillpress/quillpresslaw26.IndexNone", spec := "indexNone", inPlace := ["maps.clone"], plainKeys := false, apart := false }
def IndexNoneSaid : Prop := indexNoneRow.holds Try.pinned (OpenSpec.ofChange indexNoneSpec)

/-- ITS FALSE NEIGHBOUR: 'it returns false'. Refute it at one input. -/
def indexNoneWrong : ChangeSpec := { name := "indexNone", fn := fun _ => fun
  | [d1, d2] => { results := [.lit (.bool false)], args := [d1, d2] }
  | _ => none }
def IndexNoneWrongFalsely : Prop := indexNoneRow.holds Try.pinned (OpenSpec.ofChange indexNoneWrong)

/- THE SECOND FORM. 'bulk': how many values and letters a reading holds, each counted each time it is reached (what is shared counts as often as it is met; a slice's spare places count too). A statement '..UptoSaid' is the law's where the arguments, and the package variables that the reading takes, are together of bulk at most 1048576: NARROWER than '..Said'. Prove '..Said' where nothing that the law and all that it calls make is longer than what came in: it says more and counts as full. Else prove '..UptoSaid'. A law counts once. -/
mutual
def uptoBulk {H : Type} : DataW H → Nat
  | .lit (.string bytes) => bytes.length + 1
  | .lit _ => 1
  | .nil => 1
  | .ptr d => uptoBulk d + 1
  | .slice elems spare => uptoBulkAll elems + uptoBulkAll spare + 1
  | .agg parts => uptoBulkAll parts + 1
  | .iface _ d => uptoBulk d + 1
  | .map entries => uptoBulkEntries entries + 1
  | .held _ => 1
def uptoBulkAll {H : Type} : List (DataW H) → Nat
  | [] => 0
  | d :: r => uptoBulk d + uptoBulkAll r
def uptoBulkEntries {H : Type} : List (Lit × DataW H) → Nat
  | [] => 0
  | x :: r => uptoBulkEntry x + uptoBulkEntries r
def uptoBulkEntry {H : Type} : Lit × DataW H → Nat
  | (.string bytes, d) => bytes.length + uptoBulk d + 1
  | (_, d) => uptoBulk d + 1
 end
def uptoSmall : (H : Type) → List (DataW H) → Bool := fun _ ds => decide (uptoBulkAll ds ≤ 1048576)
def OpenSpec.upto (s : _root_.Go.ChangeSpec) : _root_.Go.OpenSpec := { _root_.Go.OpenSpec.ofChange s with cond := some uptoSmall }

/-- 'quillpresslaw25.CutNumbers', WHERE WHAT IT READS IS OF BULK AT MOST 1048576: true; the input reads as it did. -/
def cutNumbersUptoRow : OpenClaim := { program := "ytjcaahilgobfhaa", sum := "76b755d72221cc5bad1962fe6bb2431fb7291416761e10f4d4ce09cc77ec0039", func := "quillpress/quillpresslaw25.CutNumbers", spec := "cutNumbers", plainKeys := false, apart := false, narrowed := true }
def CutNumbersUptoSaid : Prop := cutNumbersUptoRow.holds Try.pinned (OpenSpec.upto cutNumbersSpec)

/-- 'quillpresslaw25.CutTells', WHERE WHAT IT READS IS OF BULK AT MOST 1048576: true; the input reads as it did. -/
def cutTellsUptoRow : OpenClaim := { program := "ytjcaahilgobfhaa", sum := "76b755d72221cc5bad1962fe6bb2431fb7291416761e10f4d4ce09cc77ec0039", func := "quillpress/quillpresslaw25.CutTells", spec := "cutTells", plainKeys := false, apart := false, narrowed := true }
def CutTellsUptoSaid : Prop := cutTellsUptoRow.holds Try.pinned (OpenSpec.upto cutTellsSpec)

/-- 'quillpresslaw25.CutStays', WHERE WHAT IT READS IS OF BULK AT MOST 1048576: true; the input reads as it did. -/
def cutStaysUptoRow : OpenClaim := { program := "ytjcaahilgobfhaa", sum := "76b755d72221cc5bad1962fe6bb2431fb7291416761e10f4d4ce09cc77ec0039", func := "quillpress/quillpresslaw25.CutStays", spec := "cutStays", plainKeys := false, apart := false, narrowed := true }
def CutStaysUptoSaid : Prop := cutStaysUptoRow.holds Try.pinned (OpenSpec.upto cutStaysSpec)

/-- 'quillpresslaw26.IndexNumbers', WHERE WHAT IT READS IS OF BULK AT MOST 1048576: true; the input reads as it did. -/
def indexNumbersUptoRow : OpenClaim := { program := "ytjcaahilgobfhaa", sum := "76b755d72221cc5bad1962fe6bb2431fb7291416761e10f4d4ce09cc77ec0039", func := "quillpress/quillpresslaw26.IndexNumbers", spec := "indexNumbers", plainKeys := false, apart := false, narrowed := true }
def IndexNumbersUptoSaid : Prop := indexNumbersUptoRow.holds Try.pinned (OpenSpec.upto indexNumbersSpec)

/-- 'quillpresslaw26.IndexOnce', WHERE WHAT IT READS IS OF BULK AT MOST 1048576: true; the input reads as it did. -/
def indexOnceUptoRow : OpenClaim := { program := "ytjcaahilgobfhaa", sum := "76b755d72221cc5bad1962fe6bb2431fb7291416761e10f4d4ce09cc77ec0039", func := "quillpress/quillpresslaw26.IndexOnce", spec := "indexOnce", plainKeys := false, apart := false, narrowed := true }
def IndexOnceUptoSaid : Prop := indexOnceUptoRow.holds Try.pinned (OpenSpec.upto indexOnceSpec)

/-- 'quillpresslaw26.IndexPlays', WHERE WHAT IT READS IS OF BULK AT MOST 1048576: true; the input reads as it did. -/
def indexPlaysUptoRow : OpenClaim := { program := "ytjcaahilgobfhaa", sum := "76b755d72221cc5bad1962fe6bb2431fb7291416761e10f4d4ce09cc77ec0039", func := "quillpress/quillpresslaw26.IndexPlays", spec := "indexPlays", inPlace := ["maps.clone"], plainKeys := false, apart := false, narrowed := true }
def IndexPlaysUptoSaid : Prop := indexPlaysUptoRow.holds Try.pinned (OpenSpec.upto indexPlaysSpec)

/-- 'quillpresslaw26.IndexNone', WHERE WHAT IT READS IS OF BULK AT MOST 1048576: true; the input reads as it did. -/
def indexNoneUptoRow : OpenClaim := { program := "ytjcaahilgobfhaa", sum := "76b755d72221cc5bad1962fe6bb2431fb7291416761e10f4d4ce09cc77ec0039", func := "quillpress/quillpresslaw26.IndexNone", spec := "indexNone", inPlace := ["maps.clone"], plainKeys := false, apart := false, narrowed := true }
def IndexNoneUptoSaid : Prop := indexNoneUptoRow.holds Try.pinned (OpenSpec.upto indexNoneSpec)

end Rows
end Go.Proofs.Ytjcaahilgobfhaa
