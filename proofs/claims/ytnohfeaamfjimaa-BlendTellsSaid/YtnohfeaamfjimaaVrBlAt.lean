/- blend's small functions: place, into, at, miss, two, a slow chance: walks; what they tell, plain. -/
import Derived.Test.YtnohfeaamfjimaaVrPaEq
import Derived.Test.YtnohfeaamfjimaaVrSquash
import Derived.Deep.Cut
import Derived.Deep.CutBlock
import Derived.Deep.DeepCutAuto
import Derived.Deep.MidRow
import Derived.Laws.Cover3
namespace Go.Proofs.Ytnohfeaamfjimaa
open Go.RowKit
set_option linter.unusedVariables false
set_option linter.unusedSimpArgs false
def placeI (h c : Int) (s : Nat) : Int := if s = 0 then 0 else bits .xor .u32 h (c * 40503) * 2654435761 % 4294967296 / 2 ^ (32 - s)
theorem place_bd (h c : Int) (s : Nat) (s2 : s ≤ 16) : 0 ≤ placeI h c s ∧ placeI h c s < 2 ^ s := by
  unfold placeI
  split
  · rename_i h; subst h; simp
  · have h0 : 0 ≤ bits .xor .u32 h (c * 40503) * 2654435761 % 4294967296 := Int.emod_nonneg _ (by omega)
    have h1 : bits .xor .u32 h (c * 40503) * 2654435761 % 4294967296 < 4294967296 := Int.emod_lt_of_pos _ (by omega)
    generalize bits .xor .u32 h (c * 40503) * 2654435761 % 4294967296 = x at *
    have hp : (0 : Int) < 2 ^ (32 - s) := Int.pow_pos (by omega)
    refine ⟨Int.ediv_nonneg h0 (by omega), Int.ediv_lt_of_lt_mul hp ?_⟩
    rw [← Int.pow_add, show s + (32 - s) = 32 by omega]
    exact h1
theorem place_any (h c : Int) (s : Nat) (w : World) (h0 : 0 ≤ h) (h1 : h ≤ 4294967295) (c0 : 0 ≤ c) (c1 : c ≤ 255) (s2 : s ≤ 16) : Calls Try.prog 98 #[.int .u32 h, .int .i64 c, .int .i64 (s : Int)] w fun e w' => e = .returned (.int .i64 (placeI h c s)) ∧ w = w' := by
  have hb := place_bd h c s s2
  have hp : (2 : Int) ^ s ≤ 2 ^ 16 := by
    have := Nat.pow_le_pow_right (show 0 < 2 by omega) s2
    exact_mod_cast this
  by_cases hs : s = 0
  · subst hs
    go_enter Try.func98, Try.ntmps98
    go_wp2
    go_ret
    exact ⟨rfl, rfl⟩
  · have hv : placeI h c s = bits .xor .u32 h (c * 40503) * 2654435761 % 4294967296 / 2 ^ (32 - s) := if_neg hs
    rw [hv] at hb
    have hs1 : ((s : Int) == 0) = false := by simpa using hs
    go_enter Try.func98, Try.ntmps98
    go_wp2
    go_ret
    exact ⟨ret_i64 hv.symm, rfl⟩
def intoI (n a b : Int) : Int := min (max n a) b
theorem into_any (n a b : Int) (w : World) : Calls Try.prog 111 #[.int .i64 n, .int .i64 a, .int .i64 b] w fun e w' => e = .returned (.int .i64 (intoI n a b)) ∧ w = w' := by
  go_enter Try.func111, Try.ntmps111
  go_wp2
  all_goals
    go_ret
    refine ⟨ret_i64 ?_, rfl⟩
    unfold intoI
    omega
theorem atU_any (g B : Nat) (h c : Int) (s : Nat) (w : World) (h0 : 0 ≤ h) (h1 : h ≤ 4294967295) (c0 : 0 ≤ c) (c1 : c ≤ 255) (s2 : s ≤ 16)
    (k7 : w.cell? ⟨g, 7, none⟩ = some (.int .u32 h)) (k1 : w.cell? ⟨g, 1, none⟩ = some (.int .i64 (s : Int))) (b1 : w.cell? ⟨B, 1, none⟩ = some (.int .i64 c)) :
    Calls Try.prog 95 #[.pointer (some ⟨g, 0, none⟩), .pointer (some ⟨B, 1, none⟩)] w (Quiet (.int .i64 (placeI h c s)) w) := by
  have HP := Lib.hid (show ∀ w, Calls Try.prog 98 #[.int .u32 h, .int .i64 c, .int .i64 (s : Int)] w fun e w' => e = .returned (.int .i64 (placeI h c s)) ∧ w' = w from fun w => (place_any h c s w h0 h1 c0 c1 s2).mono fun e w' h => ⟨h.1, h.2.symm⟩)
  clear h0 h1 c0 c1 s2
  go_enter Try.func95, Try.ntmps95
  go_upto_region 1 with fail
  go_quiet (exact Calls.quiet_of_same (HP.out _))
  go_wp2
  go_ret
  exact ⟨rfl, below_drewN (Below.refl _ _) nq⟩
theorem miss_any (g : Nat) (d bit : Int) (w : World) (hb : bit = 0 ∨ bit = 1) : Calls Try.prog 94 #[.pointer (some ⟨g, 0, none⟩), .int .i64 d, .int .i64 bit] w (Quiet (.int .i64 (4095 * bit - sqI d)) w) := by
  have hq := sq_bd d
  have HS := Lib.hid (fun w => squash_any d w)
  have b0 : 0 ≤ bit := by omega
  have b1 : bit ≤ 1 := by omega
  clear hb
  generalize sqI d = q at *
  go_enter Try.func94, Try.ntmps94
  go_wp2_with fail
  refine (HS.out w).mono ?_
  rintro e w1 ⟨rfl, hl⟩
  go_wp2
  go_ret
  exact ⟨rfl, hl⟩
theorem two_any (g B : Nat) (a b : Nat) (x y : Int) (g2 n c : Nat) (w : World) (hc : w.cell? ⟨B, 4, none⟩ = some (.slice (some ⟨g2, 0, none⟩) n c)) (k2 : w.cell? ⟨g, 2, none⟩ = some (.int .i64 (a : Int))) (k3 : w.cell? ⟨g, 3, none⟩ = some (.int .i64 (b : Int)))
    (ha : a < n) (hb : b < n) (hx : w.cell? ⟨g2, a, none⟩ = some (.int .i64 x)) (hy : w.cell? ⟨g2, b, none⟩ = some (.int .i64 y)) (hn : n ≤ 1000) :
    Calls Try.prog 108 #[.pointer (some ⟨g, 0, none⟩), .pointer (some ⟨B, 1, none⟩)] w (Quiet (.tuple #[.int .i64 x, .int .i64 y]) w) := by
  go_enter Try.func108, Try.ntmps108
  go_upto_region 1 with fail
  go_quiet (fail)
  go_wp2
  go_ret2
  exact ⟨rfl, below_drewN (Below.refl _ _) nq⟩
end Go.Proofs.Ytnohfeaamfjimaa
