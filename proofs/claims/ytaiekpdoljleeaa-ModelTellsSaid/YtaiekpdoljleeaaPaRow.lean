/- The kinds' rows, a number's range, powers of two: plain, and their walks. No condition but a power's (at most 16). -/
import Derived.Test.YtaiekpdoljleeaaSt
namespace Go.Proofs.Ytaiekpdoljleeaa
open Go.RowKit Go.WideShapes
set_option linter.unusedVariables false
/-- A kind's row: least and most of Size; A, B; low and high of C; Rate, Limit. -/
structure Rw where
  least : Int
  most : Int
  a : Bool
  b : Bool
  low : Int
  high : Int
  rate : Bool
  limit : Bool
def Rw.agg (r : Rw) : Value := .agg #[.int .i64 r.least, .int .i64 r.most, .bool r.a, .bool r.b, .int .i64 r.low, .int .i64 r.high, .bool r.rate, .bool r.limit]
def rowK (k : Int) : Rw :=
  if k = 1 then ⟨0, -1, false, false, -2047, 2047, false, false⟩ else
  if k = 2 then ⟨0, 16, false, false, 0, 0, false, true⟩ else
  if k = 3 then ⟨0, 16, false, false, 0, 0, false, false⟩ else
  if k = 4 then ⟨4, 16, false, false, 0, 0, false, false⟩ else
  if k = 5 then ⟨0, -1, true, true, 0, 256, false, false⟩ else
  if k = 6 then ⟨0, 16, true, true, 0, 0, true, false⟩ else
  if k = 7 then ⟨0, 12, true, true, 0, 0, true, false⟩ else
  if k = 8 then ⟨0, 16, true, false, 0, 0, false, false⟩ else
  if k = 9 then ⟨0, 10, true, false, 0, 0, false, true⟩ else
  ⟨0, 0, false, false, 0, 0, false, false⟩
def okK (k : Int) : Bool := decide (1 ≤ k) && decide (k ≤ 9)
theorem kind_cases (k : Int) : k = 1 ∨ k = 2 ∨ k = 3 ∨ k = 4 ∨ k = 5 ∨ k = 6 ∨ k = 7 ∨ k = 8 ∨ k = 9 ∨ (k < 1 ∨ 9 < k) := by omega
structure IsRow (k : Int) (w0 : World) (e : Ending) (w : World) : Prop where
  ret : e = .returned (.tuple #[(rowK k).agg, .bool (okK k)])
  low : Below w0.heap.size w0 w
set_option maxHeartbeats 1000000 in
theorem rowOf_any (k : Int) (w : World) : Calls Try.prog 44 #[.int .u8 k] w (IsRow k w) := by
  have hb : ∀ (u : Value), Below w.heap.size w (w.alloc (.cells u.cells 68)) := fun u => (Below.refl _ _).alloc (Nat.le_refl _) _
  rcases kind_cases k with rfl | rfl | rfl | rfl | rfl | rfl | rfl | rfl | rfl | h
  · go_enter Try.func44, Try.ntmps44
    go_wp2
    exact bodyPost_ret (v := .tuple #[.agg #[.int .i64 0, .int .i64 (-1), .bool false, .bool false, .int .i64 (-2047), .int .i64 2047, .bool false, .bool false], .bool true]) (by simp [results, Try.results44, go_sem]) rfl ⟨rfl, by first | exact (((Below.refl _ _).alloc (Nat.le_refl _) _).setCell (by simp) _) | (repeat (first | exact (Below.refl _ _).alloc (Nat.le_refl _) _ | (refine Below.setCell ?_ (by simp) _)))⟩
  · go_enter Try.func44, Try.ntmps44
    go_wp2
    exact bodyPost_ret (v := .tuple #[.agg #[.int .i64 0, .int .i64 (16), .bool false, .bool false, .int .i64 (0), .int .i64 0, .bool false, .bool true], .bool true]) (by simp [results, Try.results44, go_sem]) rfl ⟨rfl, by first | exact (((Below.refl _ _).alloc (Nat.le_refl _) _).setCell (by simp) _) | (repeat (first | exact (Below.refl _ _).alloc (Nat.le_refl _) _ | (refine Below.setCell ?_ (by simp) _)))⟩
  · go_enter Try.func44, Try.ntmps44
    go_wp2
    exact bodyPost_ret (v := .tuple #[.agg #[.int .i64 0, .int .i64 (16), .bool false, .bool false, .int .i64 (0), .int .i64 0, .bool false, .bool false], .bool true]) (by simp [results, Try.results44, go_sem]) rfl ⟨rfl, by first | exact (((Below.refl _ _).alloc (Nat.le_refl _) _).setCell (by simp) _) | (repeat (first | exact (Below.refl _ _).alloc (Nat.le_refl _) _ | (refine Below.setCell ?_ (by simp) _)))⟩
  · go_enter Try.func44, Try.ntmps44
    go_wp2
    exact bodyPost_ret (v := .tuple #[.agg #[.int .i64 4, .int .i64 (16), .bool false, .bool false, .int .i64 (0), .int .i64 0, .bool false, .bool false], .bool true]) (by simp [results, Try.results44, go_sem]) rfl ⟨rfl, by first | exact (((Below.refl _ _).alloc (Nat.le_refl _) _).setCell (by simp) _) | (repeat (first | exact (Below.refl _ _).alloc (Nat.le_refl _) _ | (refine Below.setCell ?_ (by simp) _)))⟩
  · go_enter Try.func44, Try.ntmps44
    go_wp2
    exact bodyPost_ret (v := .tuple #[.agg #[.int .i64 0, .int .i64 (-1), .bool true, .bool true, .int .i64 (0), .int .i64 256, .bool false, .bool false], .bool true]) (by simp [results, Try.results44, go_sem]) rfl ⟨rfl, by first | exact (((Below.refl _ _).alloc (Nat.le_refl _) _).setCell (by simp) _) | (repeat (first | exact (Below.refl _ _).alloc (Nat.le_refl _) _ | (refine Below.setCell ?_ (by simp) _)))⟩
  · go_enter Try.func44, Try.ntmps44
    go_wp2
    exact bodyPost_ret (v := .tuple #[.agg #[.int .i64 0, .int .i64 (16), .bool true, .bool true, .int .i64 (0), .int .i64 0, .bool true, .bool false], .bool true]) (by simp [results, Try.results44, go_sem]) rfl ⟨rfl, by first | exact (((Below.refl _ _).alloc (Nat.le_refl _) _).setCell (by simp) _) | (repeat (first | exact (Below.refl _ _).alloc (Nat.le_refl _) _ | (refine Below.setCell ?_ (by simp) _)))⟩
  · go_enter Try.func44, Try.ntmps44
    go_wp2
    exact bodyPost_ret (v := .tuple #[.agg #[.int .i64 0, .int .i64 (12), .bool true, .bool true, .int .i64 (0), .int .i64 0, .bool true, .bool false], .bool true]) (by simp [results, Try.results44, go_sem]) rfl ⟨rfl, by first | exact (((Below.refl _ _).alloc (Nat.le_refl _) _).setCell (by simp) _) | (repeat (first | exact (Below.refl _ _).alloc (Nat.le_refl _) _ | (refine Below.setCell ?_ (by simp) _)))⟩
  · go_enter Try.func44, Try.ntmps44
    go_wp2
    exact bodyPost_ret (v := .tuple #[.agg #[.int .i64 0, .int .i64 (16), .bool true, .bool false, .int .i64 (0), .int .i64 0, .bool false, .bool false], .bool true]) (by simp [results, Try.results44, go_sem]) rfl ⟨rfl, by first | exact (((Below.refl _ _).alloc (Nat.le_refl _) _).setCell (by simp) _) | (repeat (first | exact (Below.refl _ _).alloc (Nat.le_refl _) _ | (refine Below.setCell ?_ (by simp) _)))⟩
  · go_enter Try.func44, Try.ntmps44
    go_wp2
    exact bodyPost_ret (v := .tuple #[.agg #[.int .i64 0, .int .i64 (10), .bool true, .bool false, .int .i64 (0), .int .i64 0, .bool false, .bool true], .bool true]) (by simp [results, Try.results44, go_sem]) rfl ⟨rfl, by first | exact (((Below.refl _ _).alloc (Nat.le_refl _) _).setCell (by simp) _) | (repeat (first | exact (Below.refl _ _).alloc (Nat.le_refl _) _ | (refine Below.setCell ?_ (by simp) _)))⟩
  · have g : ∀ n : Int, 1 ≤ n → n ≤ 9 → (k == n) = false := fun n h1 h2 => by simp; omega
    have g1 := g 1 (by omega) (by omega)
    have g2 := g 2 (by omega) (by omega)
    have g3 := g 3 (by omega) (by omega)
    have g4 := g 4 (by omega) (by omega)
    have g5 := g 5 (by omega) (by omega)
    have g6 := g 6 (by omega) (by omega)
    have g7 := g 7 (by omega) (by omega)
    have g8 := g 8 (by omega) (by omega)
    have g9 := g 9 (by omega) (by omega)
    have e : (Value.tuple #[(rowK k).agg, .bool (okK k)]) = .tuple #[.agg #[.int .i64 0, .int .i64 0, .bool false, .bool false, .int .i64 0, .int .i64 0, .bool false, .bool false], .bool false] := by
      unfold rowK okK
      rw [if_neg (by omega), if_neg (by omega), if_neg (by omega), if_neg (by omega), if_neg (by omega), if_neg (by omega), if_neg (by omega), if_neg (by omega), if_neg (by omega)]
      rw [show (decide (1 ≤ k) && decide (k ≤ 9)) = false by rw [Bool.and_eq_false_iff]; simp; omega]
      rfl
    have E := Lib.hid e
    clear e g h
    go_enter Try.func44, Try.ntmps44
    go_wp2
    exact bodyPost_ret (v := .tuple #[.agg #[.int .i64 0, .int .i64 0, .bool false, .bool false, .int .i64 0, .int .i64 0, .bool false, .bool false], .bool false]) (by simp [results, Try.results44, go_sem]) rfl ⟨by rw [E.out], by first | exact (((Below.refl _ _).alloc (Nat.le_refl _) _).setCell (by simp) _) | (repeat (first | exact (Below.refl _ _).alloc (Nat.le_refl _) _ | (refine Below.setCell ?_ (by simp) _)))⟩
/-- Is a number from a to b; where the field is not named: nought. -/
def inB (n low high : Int) (named : Bool) : Bool := if named then decide (low ≤ n) && decide (n ≤ high) else decide (0 ≤ n) && decide (n ≤ 0)
structure Same (v : Value) (w0 : World) (e : Ending) (w : World) : Prop where
  ret : e = .returned v
  same : w0 = w
theorem in_any (n low high : Int) (named : Bool) (w : World) : Calls Try.prog 62 #[.int .i64 n, .int .i64 low, .int .i64 high, .bool named] w (Same (.bool (inB n low high named)) w) := by
  cases named
  · by_cases h1 : 0 ≤ n
    · have g : decide (0 ≤ n) = true := by simp; omega
      go_enter Try.func62, Try.ntmps62
      go_wp2
      go_ret
      exact ⟨by simp [inB, h1], rfl⟩
    · have g : decide (0 ≤ n) = false := by simp; omega
      go_enter Try.func62, Try.ntmps62
      go_wp2
      go_ret
      exact ⟨by simp [inB, g], rfl⟩
  · by_cases h1 : low ≤ n
    · have g : decide (low ≤ n) = true := by simp; omega
      go_enter Try.func62, Try.ntmps62
      go_wp2
      go_ret
      exact ⟨by simp [inB, h1], rfl⟩
    · have g : decide (low ≤ n) = false := by simp; omega
      go_enter Try.func62, Try.ntmps62
      go_wp2
      go_ret
      exact ⟨by simp [inB, g], rfl⟩
theorem within_any (n low high : Int) (w : World) : Calls Try.prog 45 #[.int .i64 n, .int .i64 low, .int .i64 high] w (Same (.bool (inB n low high true)) w) := by
  by_cases h1 : low ≤ n
  · have g : decide (low ≤ n) = true := by simp; omega
    go_enter Try.func45, Try.ntmps45
    go_wp2
    go_ret
    exact ⟨by simp [inB, h1], rfl⟩
  · have g : decide (low ≤ n) = false := by simp; omega
    go_enter Try.func45, Try.ntmps45
    go_wp2
    go_ret
    exact ⟨by simp [inB, g], rfl⟩
end Go.Proofs.Ytaiekpdoljleeaa
