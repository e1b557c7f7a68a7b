/- An instruction put into bytes: plain. Conditions: a right one. -/
import Derived.Test.YtebmgladdgmmeaaCoRight
import Derived.Laws.BitsAllLaws
namespace Go.Proofs.Ytebmgladdgmmeaa
open Go.RowKit Go.WideShapes
set_option linter.unusedVariables false
set_option linter.unusedSimpArgs false
def octs (l : List Int) : List Value := l.map (.int .u8)
theorem octs_one (l : List Int) : ∀ u ∈ octs l, u.oneCell' = true := fun u hu => by
  obtain ⟨x, _, rfl⟩ := List.mem_map.1 hu; rfl
theorem octs_length (l : List Int) : (octs l).length = l.length := by simp [octs]
theorem tBytes : SlT Try.prog 48 5 (.int .u8 0) 1 := ⟨Try.underlying48, by kernel_rfl, rfl⟩
def firstI (t : In) : Int := t.o * 8 + (if (shO t.o).operand then t.s else t.d)
def restI (t : In) (a : Int) : List Int :=
  if (shO t.o).long then [t.n / 256, t.n % 256] else if (shO t.o).jump then [(t.n - a - 2) % 256] else if (shO t.o).frm then [t.s] else if 0 < moreI t then [t.n] else []
def putI (t : In) (a : Int) : List Int := firstI t :: restI t a
theorem or_first (o low : Int) (h0 : 0 ≤ o) (h1 : o ≤ 30) (l0 : 0 ≤ low) (l1 : low ≤ 7) : bits .or .u8 (o * 8) low = o * 8 + low := by
  rw [u8_or _ _ (by omega) (by omega) (by omega) (by omega), nat_join 3 _ _ (by omega) (by omega)]
  omega
structure RightC (c : Int) (o d s n : Int) : Prop where
  op : 0 ≤ o ∧ o ≤ 30
  lim : rightI ⟨o, d, s, n⟩ = true
/-- Bytes of the call's own, and no fault. -/
structure IsBytes (bs : List Int) (w0 : World) (e : Ending) (w : World) : Prop where
  ex : ∃ A c, e = .returned (.tuple #[.slice A bs.length c, .int .i64 0]) ∧ bs.length ≤ c ∧ w.ownsRow w0.heap.size 5 1 (.slice A bs.length c) bs.length (octs bs)
  low : Below w0.heap.size w0 w
theorem bytes_close {bs : List Int} {us : List Value} {base n : Nat} {v : Value} {w0 w : World} (h : w.ownsRow base 5 1 v n us) (hu : us = octs bs) (hb : w0.heap.size ≤ base) (hl : Below w0.heap.size w0 w) : IsBytes bs w0 (.returned (.tuple #[v, .int .i64 0])) w := by
  subst hu
  have hn : n = bs.length := by have := h.1; rw [octs_length] at this; omega
  subst hn
  obtain ⟨A, c, rfl, hc⟩ := own_slice h
  obtain ⟨hl', h⟩ := h
  refine ⟨⟨A, c, rfl, hc, hl', ?_⟩, hl⟩
  rcases h with h | ⟨g, cap, cur, hv, hbg, hr⟩
  · exact .inl h
  · exact .inr ⟨g, cap, cur, hv, by omega, hr⟩
theorem op_le {o : Int} (h : shO o ≠ ⟨false, 0, false, false, false, false, false⟩) : o ≤ 30 := by
  refine Classical.byContradiction fun hn => h ?_
  have : cls o = 0 := by
    unfold cls
    rw [if_neg (by omega), if_neg (by omega), if_neg (by omega), if_neg (by omega), if_neg (by omega), if_neg (by omega), if_neg (by omega), if_neg (by omega), if_neg (by omega)]
  unfold shO
  rw [this]
  rfl
end Go.Proofs.Ytebmgladdgmmeaa
