/- A word of four bytes: as package sha's closure tells it, and as the reference does. -/
import Derived.Test.YtgkgdbjdmmieaaaShLo
namespace Go.Proofs.Ytgkgdbjdmmieaaa
open Go.RowKit Go.WideShapes
set_option linter.unusedVariables false
set_option linter.unusedSimpArgs false
def octs (l : List Int) : List Value := l.map (Value.int .u8)
theorem octs_length (l : List Int) : (octs l).length = l.length := by simp [octs]
theorem octs_take (l : List Int) (n : Nat) : (octs l).take n = octs (l.take n) := by simp [octs, List.map_take]
theorem octs_drop (l : List Int) (n : Nat) : (octs l).drop n = octs (l.drop n) := by simp [octs, List.map_drop]
theorem octs_append (l r : List Int) : octs l ++ octs r = octs (l ++ r) := by simp [octs]
theorem octs_snoc (l : List Int) (x : Int) : octs l ++ [.int .u8 x] = octs (l ++ [x]) := by simp [octs]
theorem octs_one {l : List Int} : ∀ u ∈ octs l, u.oneCell' = true := by
  intro u hu
  simp [octs] at hu
  obtain ⟨x, _, rfl⟩ := hu
  rfl
theorem octs_at {l : List Int} {i : Nat} (h : i < l.length) : (octs l)[i]? = some (.int .u8 (l.getD i 0)) := by
  simp [octs, List.getElem?_eq_getElem h, List.getD_eq_getElem?_getD]
theorem tBytes : SlT Try.prog 25 5 (.int .u8 0) 1 := ⟨Try.underlying25, by kernel_rfl, rfl⟩
set_option maxHeartbeats 1000000 in
theorem word_any (bs : List Int) (t : Nat) (A : Option Addr) (c bx : Nat) (w : World) (ht : t < 16) (hl : bs.length = 64) (ho : Oct bs) (hr : Rd w A (octs bs)) (hc : 64 ≤ c) (hb : Blk w bx 25 #[.slice A 64 c]) :
    Calls Try.prog 29 #[.int .i64 (t : Int), .pointer (some ⟨bx, 0, none⟩)] w fun e w' => e = .returned (.int .u32 (wordI bs t)) ∧ ∃ n, w' = w.drewN n := by
  have c0 := hb.cell 0
  simp at c0
  obtain ⟨b, off, rfl, hlt, hcell⟩ := hr (by rw [octs_length]; omega)
  have e0 := hcell _ _ (octs_at (l := bs) (i := 4 * t) (by omega))
  have e1 := hcell _ _ (octs_at (l := bs) (i := 4 * t + 1) (by omega))
  have e2 := hcell _ _ (octs_at (l := bs) (i := 4 * t + 2) (by omega))
  have e3 := hcell _ _ (octs_at (l := bs) (i := 4 * t + 3) (by omega))
  have H : orI (orI (orI (bs.getD (4 * t) 0 * 16777216 % 4294967296) (bs.getD (4 * t + 1) 0 * 65536 % 4294967296)) (bs.getD (4 * t + 2) 0 * 256 % 4294967296)) (bs.getD (4 * t + 3) 0) = wordI bs t := beW_or _ _ _ _ (ho.getD _) (ho.getD _) (ho.getD _) (ho.getD _)
  have b0 := ho.getD (4 * t)
  have b1 := ho.getD (4 * t + 1)
  have b2 := ho.getD (4 * t + 2)
  have b3 := ho.getD (4 * t + 3)
  obtain ⟨r, hr'⟩ : ∃ r, wordI bs t = r := ⟨_, rfl⟩
  rw [hr'] at H ⊢
  clear hr'
  generalize bs.getD (4 * t) 0 = x0 at *
  generalize bs.getD (4 * t + 1) 0 = x1 at *
  generalize bs.getD (4 * t + 2) 0 = x2 at *
  generalize bs.getD (4 * t + 3) 0 = x3 at *
  rw [show x0 * 16777216 % 4294967296 = x0 * 16777216 by omega, show x1 * 65536 % 4294967296 = x1 * 65536 by omega, show x2 * 256 % 4294967296 = x2 * 256 by omega] at H
  have HH := Lib.hid H
  clear H hcell hr hb ho
  have i0 : (4 * (t : Int)).toNat = 4 * t := by omega
  have i1 : (4 * (t : Int) + 1).toNat = 4 * t + 1 := by omega
  have i2 : (4 * (t : Int) + 2).toNat = 4 * t + 2 := by omega
  have i3 : (4 * (t : Int) + 3).toNat = 4 * t + 3 := by omega
  go_enter Try.func29, Try.ntmps29
  go_wp2
  go_quiet (fail)
  go_wp2
  go_ret
  exact ⟨ret_u32 HH.out, _, rfl⟩
end Go.Proofs.Ytgkgdbjdmmieaaa
