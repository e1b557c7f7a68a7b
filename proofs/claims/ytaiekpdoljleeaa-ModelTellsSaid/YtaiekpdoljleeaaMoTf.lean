/- What ModelTells' walk leans on: Put as one contract, its reference, the reference's Get for every row. Plain. -/
import Derived.Test.YtaiekpdoljleeaaMoRs
import Derived.Test.YtaiekpdoljleeaaMoRp
import Derived.Test.YtaiekpdoljleeaaMoCm
import Derived.Test.YtaiekpdoljleeaaMoBa
namespace Go.Proofs.Ytaiekpdoljleeaa
open Go.RowKit Go.WideShapes
set_option linter.unusedVariables false
set_option linter.unusedSimpArgs false
def putX (d : Md) : List Int := if rightM d = 0 then bytesM d else []
theorem putX_len (d : Md) : (putX d).length ≤ 9000 := by
  unfold putX
  split
  · rename_i h; exact bytes_bd h
  · simp
theorem zero_small : Md.zero.ts.length ≤ 5000 ∧ Md.zero.code.length ≤ 4096 ∧ Md.zero.post.length ≤ 4096 := by simp [Md.zero]
theorem get_small (bs : List Int) : (getM bs).1.ts.length ≤ 5000 ∧ (getM bs).1.code.length ≤ 4096 ∧ (getM bs).1.post.length ≤ 4096 := by
  unfold getM
  rcases partsG ((headG bs).2.getD 4 0).toNat (headG bs).1 [] with _ | q
  · exact zero_small
  · simp only
    unfold endG
    rcases (codeG (codeG q.1).1).1 with _ | rest
    · exact zero_small
    · simp only
      split
      · rename_i h
        have h1 := (okM_iff _).1 (rightM_zero h).1
        obtain ⟨_, h3, _, _⟩ := right_zero (rightM_zero h).2
        simp only at h1 h3 ⊢
        omega
      · exact zero_small
/-- What Put tells: the bytes, or none, and the number. -/
def IsPut (d : Md) (w0 : World) (e : Ending) (w : World) : Prop :=
  (∃ A c, e = .returned (.tuple #[.slice A (putX d).length c, .int .i64 (rightM d)]) ∧ Rd w A (octs (putX d))) ∧ Below w0.heap.size w0 w
theorem put_of_yes {d : Md} {w0 w : World} {e : Ending} (h : rightM d = 0) (hp : IsBytes (bytesM d) w0 e w) : IsPut d w0 e w := by
  obtain ⟨⟨A, c, rfl, _, ho⟩, hl⟩ := hp
  have e1 : putX d = bytesM d := by unfold putX; rw [if_pos h]
  refine ⟨⟨A, c, by rw [e1, h], ?_⟩, hl⟩
  rw [e1]
  exact Rd.of_own ho
theorem put_of_no {d : Md} {w0 w : World} {e : Ending} (h : rightM d ≠ 0) (hp : e = .returned (.tuple #[.slice none 0 0, .int .i64 (rightM d)]) ∧ Below w0.heap.size w0 w) : IsPut d w0 e w := by
  have e1 : putX d = [] := by unfold putX; rw [if_neg h]
  refine ⟨⟨none, 0, by rw [e1]; exact hp.1, ?_⟩, hp.2⟩
  rw [e1]
  exact Rd.nil _ _
theorem put35g (d : Md) (A B D : Option Addr) (n c nc cc np cp : Nat) (w : World) (hn : n = d.ts.length) (hnc : nc = d.code.length) (hnp : np = d.post.length) (hok : ∀ t ∈ d.ts, t.ok) (h : MdR d A B D w) (hl : n ≤ 5000) (lc : nc ≤ 1000000000) (lp : np ≤ 1000000000) :
    Calls Try.prog 35 #[mdV d.h d.m d.ph d.pm (.slice A n c) (.slice B nc cc) (.slice D np cp)] w (IsPut d w) := by
  by_cases hr : rightM d = 0
  · exact (put35_yes d A B D n c nc cc np cp w hn hnc hnp hok h.p h.c h.q hr).mono fun _ _ hp => put_of_yes hr hp
  · exact (put35_no d A B D n c nc cc np cp w hn hnc hnp hok h.p hl lc lp hr).mono fun _ _ hp => put_of_no hr hp
theorem put36g (d : Md) (A B D : Option Addr) (n c nc cc np cp : Nat) (w : World) (hn : n = d.ts.length) (hnc : nc = d.code.length) (hnp : np = d.post.length) (h : MdR d A B D w) (hl : n ≤ 5000) (lc : nc ≤ 1000000000) (lp : np ≤ 1000000000) :
    Calls Try.prog 36 #[mdV d.h d.m d.ph d.pm (.slice A n c) (.slice B nc cc) (.slice D np cp)] w (IsPut d w) := by
  by_cases hr : rightM d = 0
  · exact (put36_yes d A B D n c nc cc np cp w hn hnc hnp h.p h.c h.q hr).mono fun _ _ hp => put_of_yes hr hp
  · exact (put36_no d A B D n c nc cc np cp w hn hnc hnp h.p hl lc lp hr).mono fun _ _ hp => put_of_no hr hp
theorem get38 (bs : List Int) (A : Option Addr) (n c : Nat) (w : World) (hn : n = bs.length) (hnc : n ≤ c) (hr : Rd w A (octs bs)) (ho : Oct bs) (hm : n ≤ 1000000000) (hcm : c ≤ 9223372036854775807) :
    Calls Try.prog 38 #[.slice A n c] w (IsModel (getM bs) w) := by
  by_cases h5 : n < 5
  · exact get38_short bs A n c w hn h5
  · obtain ⟨b, off, rfl, hlt, _⟩ := hr (by rw [octs_length]; omega)
    exact get38_long bs b off n c w hn hnc hr ho hm hcm (by omega) hlt
end Go.Proofs.Ytaiekpdoljleeaa
