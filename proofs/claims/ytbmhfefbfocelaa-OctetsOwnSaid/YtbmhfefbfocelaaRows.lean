/-
  No cell of these rows narrows 'for every input' (looked for: loops, veiled, ifaces, maps, wideKeys, modest, calm, conditions, laid).
  DERIVED. THE GIVEN ROWS OF THIS SEAT. 7 by the template 'for every input the law returns true; each argument reads behind the call as it read before'; 0 by the template 'total and deterministic' (their statements: YtbmhfefbfocelaaTotals.lean).
  GIVEN WITH THE SEED: the statements are not yours to turn. If you find one false, say at which input.
  Laid BY PROGRAM, IN A SANDBOX (cutbox-rows.mjs): the forced cells as the released guide's own fill.sh prints them over the translation 5e1742753ac960c0… (all of the seat's roots in one cut). By AI agents, Wed Nov 11 2026. No macro, syntax, notation, axiom, sorry.
-/
import Derived.Test.YtbmhfefbfocelaaChecked
import GoSem.Claim
import GoSem.ClaimJoined
import GoSem.ClaimMapViews
import Derived.JoinedTies
import Derived.KernelRfl
namespace Go.Proofs.Ytbmhfefbfocelaa
/- THE CELL 'sum', in the pinned program and in every row, IS THE sha256 OF THE DUMP (.gsa) THAT YtbmhfefbfocelaaProg.lean LOADS. Nothing in Lean hashes anything: it is a label: what it is worth is what the hold of that sum in a sandbox is worth. -/
noncomputable def Try.pinned : Pinned := { name := "ytbmhfefbfocelaa", sum := "5e1742753ac960c0d040a428314218d5e4e1f3404d6b6c56d6940e26b2dd83d3", checked := Try.checked }
namespace Rows
def none {H : Type} : Left H := { results := [], args := [] }

/-- 'quillpresslaw01.OctetsPlaces': WHATEVER THE INPUT: true; the input reads as it did. -/
def octetsPlacesSpec : ChangeSpec := { name := "octetsPlaces", fn := fun _ => fun
  | [d] => { results := [.lit (.bool true)], args := [d] }
  | _ => none }
def octetsPlacesRow : OpenClaim := { program := "ytbmhfefbfocelaa", sum := "5e1742753ac960c0d040a428314218d5e4e1f3404d6b6c56d6940e26b2dd83d3", func := "quillpress/quillpresslaw01.OctetsPlaces", spec := "octetsPlaces", apart := false }
def OctetsPlacesSaid : Prop := octetsPlacesRow.holds Try.pinned (OpenSpec.ofChange octetsPlacesSpec)

/-- ITS FALSE NEIGHBOUR: 'it returns false'. Refute it at one input. -/
def octetsPlacesWrong : ChangeSpec := { name := "octetsPlaces", fn := fun _ => fun
  | [d] => { results := [.lit (.bool false)], args := [d] }
  | _ => none }
def OctetsPlacesWrongFalsely : Prop := octetsPlacesRow.holds Try.pinned (OpenSpec.ofChange octetsPlacesWrong)

/-- 'quillpresslaw01.OctetsOrder': WHATEVER THE INPUT: true; the input reads as it did. -/
def octetsOrderSpec : ChangeSpec := { name := "octetsOrder", fn := fun _ => fun
  | [d1, d2, d3, d4] => { results := [.lit (.bool true)], args := [d1, d2, d3, d4] }
  | _ => none }
def octetsOrderRow : OpenClaim := { program := "ytbmhfefbfocelaa", sum := "5e1742753ac960c0d040a428314218d5e4e1f3404d6b6c56d6940e26b2dd83d3", func := "quillpress/quillpresslaw01.OctetsOrder", spec := "octetsOrder", apart := false }
def OctetsOrderSaid : Prop := octetsOrderRow.holds Try.pinned (OpenSpec.ofChange octetsOrderSpec)

/-- ITS FALSE NEIGHBOUR: 'it returns false'. Refute it at one input. -/
def octetsOrderWrong : ChangeSpec := { name := "octetsOrder", fn := fun _ => fun
  | [d1, d2, d3, d4] => { results := [.lit (.bool false)], args := [d1, d2, d3, d4] }
  | _ => none }
def OctetsOrderWrongFalsely : Prop := octetsOrderRow.holds Try.pinned (OpenSpec.ofChange octetsOrderWrong)

/-- 'quillpresslaw01.OctetsTwice': WHATEVER THE INPUT: true; the input reads as it did. -/
def octetsTwiceSpec : ChangeSpec := { name := "octetsTwice", fn := fun _ => fun
  | [d1, d2, d3] => { results := [.lit (.bool true)], args := [d1, d2, d3] }
  | _ => none }
def octetsTwiceRow : OpenClaim := { program := "ytbmhfefbfocelaa", sum := "5e1742753ac960c0d040a428314218d5e4e1f3404d6b6c56d6940e26b2dd83d3", func := "quillpress/quillpresslaw01.OctetsTwice", spec := "octetsTwice", apart := false }
def OctetsTwiceSaid : Prop := octetsTwiceRow.holds Try.pinned (OpenSpec.ofChange octetsTwiceSpec)

/-- ITS FALSE NEIGHBOUR: 'it returns false'. Refute it at one input. -/
def octetsTwiceWrong : ChangeSpec := { name := "octetsTwice", fn := fun _ => fun
  | [d1, d2, d3] => { results := [.lit (.bool false)], args := [d1, d2, d3] }
  | _ => none }
def OctetsTwiceWrongFalsely : Prop := octetsTwiceRow.holds Try.pinned (OpenSpec.ofChange octetsTwiceWrong)

/-- 'quillpresslaw01.OctetsFixed': WHATEVER THE INPUT: true; the input reads as it did. -/
def octetsFixedSpec : ChangeSpec := { name := "octetsFixed", fn := fun _ => fun
  | [] => { results := [.lit (.bool true)], args := [] }
  | _ => none }
def octetsFixedRow : OpenClaim := { program := "ytbmhfefbfocelaa", sum := "5e1742753ac960c0d040a428314218d5e4e1f3404d6b6c56d6940e26b2dd83d3", func := "quillpress/quillpresslaw01.OctetsFixed", spec := "octetsFixed", apart := false }
def OctetsFixedSaid : Prop := octetsFixedRow.holds Try.pinned (OpenSpec.ofChange octetsFixedSpec)

/-- ITS FALSE NEIGHBOUR: 'it returns false'. Refute it at one input. -/
def octetsFixedWrong : ChangeSpec := { name := "octetsFixed", fn := fun _ => fun
  | [] => { results := [.lit (.bool false)], args := [] }
  | _ => none }
def OctetsFixedWrongFalsely : Prop := octetsFixedRow.holds Try.pinned (OpenSpec.ofChange octetsFixedWrong)

/-- 'quillpresslaw01.OctetsRow': WHATEVER THE INPUT: true; the input reads as it did. -/
def octetsRowSpec : ChangeSpec := { name := "octetsRow", fn := fun _ => fun
  | [d1, d2, d3] => { results := [.lit (.bool true)], args := [d1, d2, d3] }
  | _ => none }
def octetsRowRow : OpenClaim := { program := "ytbmhfefbfocelaa", sum := "5e1742753ac960c0d040a428314218d5e4e1f3404d6b6c56d6940e26b2dd83d3", func := "quillpress/quillpresslaw01.OctetsRow", spec := "octetsRow", apart := false }
def OctetsRowSaid : Prop := octetsRowRow.holds Try.pinned (OpenSpec.ofChange octetsRowSpec)

/-- ITS FALSE NEIGHBOUR: 'it returns false'. Refute it at one input. -/
def octetsRowWrong : ChangeSpec := { name := "octetsRow", fn := fun _ => fun
  | [d1, d2, d3] => { results := [.lit (.bool false)], args := [d1, d2, d3] }
  | _ => none }
def OctetsRowWrongFalsely : Prop := octetsRowRow.holds Try.pinned (OpenSpec.ofChange octetsRowWrong)

/-- 'quillpresslaw01.OctetsTells': WHATEVER THE INPUT: true; the input reads as it did. -/
def octetsTellsSpec : ChangeSpec := { name := "octetsTells", fn := fun _ => fun
  | [d1, d2, d3, d4] => { results := [.lit (.bool true)], args := [d1, d2, d3, d4] }
  | _ => none }
def octetsTellsRow : OpenClaim := { program := "ytbmhfefbfocelaa", sum := "5e1742753ac960c0d040a428314218d5e4e1f3404d6b6c56d6940e26b2dd83d3", func := "quillpress/quillpresslaw01.OctetsTells", spec := "octetsTells", recurses := true, apart := false }
def OctetsTellsSaid : Prop := octetsTellsRow.holds Try.pinned (OpenSpec.ofChange octetsTellsSpec)

/-- ITS FALSE NEIGHBOUR: 'it returns false'. Refute it at one input. -/
def octetsTellsWrong : ChangeSpec := { name := "octetsTells", fn := fun _ => fun
  | [d1, d2, d3, d4] => { results := [.lit (.bool false)], args := [d1, d2, d3, d4] }
  | _ => none }
def OctetsTellsWrongFalsely : Prop := octetsTellsRow.holds Try.pinned (OpenSpec.ofChange octetsTellsWrong)

/-- 'quillpresslaw01.OctetsOwn': WHATEVER THE INPUT: true; the input reads as it did. -/
def octetsOwnSpec : ChangeSpec := { name := "octetsOwn", fn := fun _ => fun
  | [d1, d2, d3] => { results := [.lit (.bool true)], args := [d1, d2, d3] }
  | _ => none }
def octetsOwnRow : OpenClaim := { program := "ytbmhfefbfocelaa", sum := "5e1742753ac960c0d040a428314218d5e4e1f3404d6b6c56d6940e26b2dd83d3", func := "quillpress/quillpresslaw01.OctetsOwn", spec := "octetsOwn", unfollowed := true, recurses := true, apart := false }
def OctetsOwnSaid : Prop := octetsOwnRow.holds Try.pinned (OpenSpec.ofChange octetsOwnSpec)

/-- ITS FALSE NEIGHBOUR: 'it returns false'. Refute it at one input. -/
def octetsOwnWrong : ChangeSpec := { name := "octetsOwn", fn := fun _ => fun
  | [d1, d2, d3] => { results := [.lit (.bool false)], args := [d1, d2, d3] }
  | _ => none }
def OctetsOwnWrongFalsely : Prop := octetsOwnRow.holds Try.pinned (OpenSpec.ofChange octetsOwnWrong)

/- THE SECOND FORM. 'bulk': how many values and letters a reading holds, each counted each time it is reached (what is shared counts as often as it is met; a slice's spare places count too). A statement '..UptoSaid' is the law's where the arguments, and the package variables that the reading takes, are together of bulk at most 1048576: NARROWER than '..Said'. Prove '..Said' where nothing that the law and all that it calls make is longer than what came in: it says more and counts as full. Else prove '..UptoSaid'. A law counts once. -/
mutual
def uptoBulk {H : Type} : DataW H → Nat
  | .lit (.string bytes) => bytes.length + 1
  | .lit _ => 1
  | .nil => 1
  | .ptr d => uptoBulk d + 1
  | .slice elems spare => uptoBulkAll elems + uptoBulkAll spare + 1
  | .agg parts => uptoBulkAll parts + 1
  | .iface _ d => uptoBulk d + 1
  | .map entries => uptoBulkEntries entries + 1
  | .held _ => 1
def uptoBulkAll {H : Type} : List (DataW H) → Nat
  | [] => 0
  | d :: r => uptoBulk d + uptoBulkAll r
def uptoBulkEntries {H : Type} : List (Lit × DataW H) → Nat
  | [] => 0
  | x :: r => uptoBulkEntry x + uptoBulkEntries r
def uptoBulkEntry {H : Type} : Lit × DataW H → Nat
  | (.string bytes, d) => bytes.length + uptoBulk d + 1
  | (_, d) => uptoBulk d + 1
 end
def uptoSmall : (H : Type) → List (DataW H) → Bool := fun _ ds => decide (uptoBulkAll ds ≤ 1048576)
def OpenSpec.upto (s : _root_.Go.ChangeSpec) : _root_.Go.OpenSpec := { _root_.Go.OpenSpec.ofChange s with cond := some uptoSmall }

/-- 'quillpresslaw01.OctetsPlaces', WHERE WHAT IT READS IS OF BULK AT MOST 1048576: true; the input reads as it did. -/
def octetsPlacesUptoRow : OpenClaim := { program := "ytbmhfefbfocelaa", sum := "5e1742753ac960c0d040a428314218d5e4e1f3404d6b6c56d6940e26b2dd83d3", func := "quillpress/quillpresslaw01.OctetsPlaces", spec := "octetsPlaces", apart := false, narrowed := true }
def OctetsPlacesUptoSaid : Prop := octetsPlacesUptoRow.holds Try.pinned (OpenSpec.upto octetsPlacesSpec)

/-- 'quillpresslaw01.OctetsOrder', WHERE WHAT IT READS IS OF BULK AT MOST 1048576: true; the input reads as it did. -/
def octetsOrderUptoRow : OpenClaim := { program := "ytbmhfefbfocelaa", sum := "5e1742753ac960c0d040a428314218d5e4e1f3404d6b6c56d6940e26b2dd83d3", func := "quillpress/quillpresslaw01.OctetsOrder", spec := "octetsOrder", apart := false, narrowed := true }
def OctetsOrderUptoSaid : Prop := octetsOrderUptoRow.holds Try.pinned (OpenSpec.upto octetsOrderSpec)

/-- 'quillpresslaw01.OctetsTwice', WHERE WHAT IT READS IS OF BULK AT MOST 1048576: true; the input reads as it did. -/
def octetsTwiceUptoRow : OpenClaim := { program := "ytbmhfefbfocelaa", sum := "5e1742753ac960c0d040a428314218d5e4e1f3404d6b6c56d6940e26b2dd83d3", func := "quillpress/quillpresslaw01.OctetsTwice", spec := "octetsTwice", apart := false, narrowed := true }
def OctetsTwiceUptoSaid : Prop := octetsTwiceUptoRow.holds Try.pinned (OpenSpec.upto octetsTwiceSpec)

/-- 'quillpresslaw01.OctetsFixed', WHERE WHAT IT READS IS OF BULK AT MOST 1048576: true; the input reads as it did. -/
def octetsFixedUptoRow : OpenClaim := { program := "ytbmhfefbfocelaa", sum := "5e1742753ac960c0d040a428314218d5e4e1f3404d6b6c56d6940e26b2dd83d3", func := "quillpress/quillpresslaw01.OctetsFixed", spec := "octetsFixed", apart := false, narrowed := true }
def OctetsFixedUptoSaid : Prop := octetsFixedUptoRow.holds Try.pinned (OpenSpec.upto octetsFixedSpec)

/-- 'quillpresslaw01.OctetsRow', WHERE WHAT IT READS IS OF BULK AT MOST 1048576: true; the input reads as it did. -/
def octetsRowUptoRow : OpenClaim := { program := "ytbmhfefbfocelaa", sum := "5e1742753ac960c0d040a428314218d5e4e1f3404d6b6c56d6940e26b2dd83d3", func := "quillpress/quillpresslaw01.OctetsRow", spec := "octetsRow", apart := false, narrowed := true }
def OctetsRowUptoSaid : Prop := octetsRowUptoRow.holds Try.pinned (OpenSpec.upto octetsRowSpec)

/-- 'quillpresslaw01.OctetsTells', WHERE WHAT IT READS IS OF BULK AT MOST 1048576: true; the input reads as it did. -/
def octetsTellsUptoRow : OpenClaim := { program := "ytbmhfefbfocelaa", sum := "5e1742753ac960c0d040a428314218d5e4e1f3404d6b6c56d6940e26b2dd83d3", func := "quillpress/quillpresslaw01.OctetsTells", spec := "octetsTells", recurses := true, apart := false, narrowed := true }
def OctetsTellsUptoSaid : Prop := octetsTellsUptoRow.holds Try.pinned (OpenSpec.upto octetsTellsSpec)

/-- 'quillpresslaw01.OctetsOwn', WHERE WHAT IT READS IS OF BULK AT MOST 1048576: true; the input reads as it did. -/
def octetsOwnUptoRow : OpenClaim := { program := "ytbmhfefbfocelaa", sum := "5e1742753ac960c0d040a428314218d5e4e1f3404d6b6c56d6940e26b2dd83d3", func := "quillpress/quillpresslaw01.OctetsOwn", spec := "octetsOwn", unfollowed := true, recurses := true, apart := false, narrowed := true }
def OctetsOwnUptoSaid : Prop := octetsOwnUptoRow.holds Try.pinned (OpenSpec.upto octetsOwnSpec)

end Rows
end Go.Proofs.Ytbmhfefbfocelaa
