/- Put, whatever the bit and the chance, of the program and of the reference: one contract each. Condition: fewer than 65536 bytes shed so far. -/
import Derived.Test.YtbjbpbblalcpkaaRefEnd
namespace Go.Proofs.Ytbjbpbblalcpkaa
open Go.RowKit Go.WideShapes
set_option linter.unusedVariables false
def good (b p : Int) : Bool := (b == 0 || b == 1) && decide (1 ≤ p) && decide (p ≤ 65535)
theorem good_yes {b p : Int} (h : good b p = true) : (b = 0 ∨ b = 1) ∧ 1 ≤ p ∧ p ≤ 65535 := by
  unfold good at h
  simp at h
  exact ⟨h.1.1, h.1.2, h.2⟩
theorem good_no {b p : Int} (h : good b p = false) : (b ≠ 0 ∧ b ≠ 1) ∨ p < 1 ∨ 65535 < p := by
  unfold good at h
  simp only [Bool.and_eq_false_iff, Bool.or_eq_false_iff, beq_eq_false_iff_ne, decide_eq_false_iff_not] at h
  omega
def codeG (b p : Int) : Int := if good b p then 0 else 2
def stepG (b p x y : Int) : List Int × Int × Int := if good b p then step b p x y else ([], x, y)
theorem stepG_nrm {b p x y : Int} (h : Nrm x y) : Nrm (stepG b p x y).2.1 (stepG b p x y).2.2 := by
  unfold stepG
  cases hg : good b p
  · exact h
  · obtain ⟨_, h1, h2⟩ := good_yes hg
    exact step_nrm h h1 h2
theorem stepG_len {b p x y : Int} (h : Nrm x y) : (stepG b p x y).1.length ≤ 4 := by
  unfold stepG
  cases hg : good b p
  · simp
  · obtain ⟨_, h1, h2⟩ := good_yes hg
    simp only [if_true]
    rw [show step b p x y = norm (cutX b p x y) (cutY b p x y) from rfl, norm_len _ _ _ rfl (cut_ivl h h1 h2)]
    exact need_le _ _
theorem stepG_oct {b p x y : Int} (h : Nrm x y) : Oct (stepG b p x y).1 := by
  unfold stepG
  cases hg : good b p
  · intro u hu; cases hu
  · obtain ⟨_, h1, h2⟩ := good_yes hg
    exact norm_oct _ _ _ rfl (cut_ivl h h1 h2)
theorem four_oct' {x : Int} (x0 : 0 ≤ x) (x1 : x ≤ 4294967295) : Oct (four x) := fun u hu => by
  unfold four at hu
  simp at hu
  omega
theorem sameB1 (xs : List Int) (A B : Option Addr) (c d : Nat) (w : World) (hA : Rd w A (octs xs)) (hB : Rd w B (octs xs)) (hl : xs.length ≤ 9223372036854775807) :
    Calls Try.prog 14 #[.slice A xs.length c, .slice B xs.length d] w fun e w' => e = .returned (.bool true) ∧ Below w.heap.size w w' := by
  have h := sameB xs xs A B _ _ c d w rfl rfl hA hB hl
  rwa [show decide (xs = xs) = true from decide_eq_true rfl] at h
structure PutG (B g : Nat) (c x y : Int) (out : List Int) (v : Value) (w0 : World) (e : Ending) (w : World) : Prop where
  ret : e = .returned (.int .i64 c)
  ex : ∃ v', Enc B w g x y out v' ∧ (v'.ownBlock = v.ownBlock ∨ ∃ q, v'.ownBlock = some q ∧ w0.heap.size ≤ q)
  frm : Frm (own1 g v) w0 w
theorem put_gen (B g : Nat) (b x y p : Int) (out : List Int) (v : Value) (w : World) (he : Enc B w g x y out v) (hn : Nrm x y) (hl : out.length < 65536) (hB : B ≤ w.heap.size) :
    Calls Try.prog 10 #[.pointer (some ⟨g, 0, none⟩), .int .i64 b, .int .i64 p] w (PutG B g (codeG b p) (stepG b p x y).2.1 (stepG b p x y).2.2 (out ++ (stepG b p x y).1) v w) := by
  unfold codeG stepG
  cases hg : good b p
  · simp only [Bool.false_eq_true, if_false, List.append_nil]
    exact (put_arg B g b x y p out v w he (good_no hg)).mono fun e w' ⟨h1, h2⟩ => ⟨h1, ⟨v, he.below h2, .inl rfl⟩, Frm.of_below h2⟩
  · obtain ⟨h0, h1, h2⟩ := good_yes hg
    simp only [if_true]
    exact (put_ok B g b x y p out v w he hn hl hB h0 h1 h2).mono fun e w' ⟨h1, h2, h3⟩ => ⟨h1, h2, h3⟩
structure PutGR (B g : Nat) (c x y : Int) (out : List Int) (v : Value) (w0 : World) (e : Ending) (w : World) : Prop where
  ret : e = .returned (.int .i64 c)
  ex : ∃ v', EncR B w g x y out v' ∧ (v'.ownBlock = v.ownBlock ∨ ∃ q, v'.ownBlock = some q ∧ w0.heap.size ≤ q)
  frm : Frm (own1 g v) w0 w
theorem putR_gen (B g : Nat) (b x y p : Int) (out : List Int) (v : Value) (w : World) (he : EncR B w g x y out v) (hn : Nrm x y) (hl : out.length < 65536) (hB : B ≤ w.heap.size) :
    Calls Try.prog 11 #[.pointer (some ⟨g, 0, none⟩), .int .i64 b, .int .i64 p] w (PutGR B g (codeG b p) (stepG b p x y).2.1 (stepG b p x y).2.2 (out ++ (stepG b p x y).1) v w) := by
  unfold codeG stepG
  cases hg : good b p
  · simp only [Bool.false_eq_true, if_false, List.append_nil]
    exact (putR_arg g b p w (good_no hg)).mono fun e w' ⟨h1, h2⟩ => by subst h2; exact ⟨h1, ⟨v, he, .inl rfl⟩, Frm.refl _ _⟩
  · obtain ⟨h0, h1, h2⟩ := good_yes hg
    simp only [if_true]
    exact (putR_ok B g b x y p out v w he hn hl hB h0 h1 h2).mono fun e w' ⟨h1, h2, h3⟩ => ⟨h1, h2, h3⟩
end Go.Proofs.Ytbjbpbblalcpkaa
