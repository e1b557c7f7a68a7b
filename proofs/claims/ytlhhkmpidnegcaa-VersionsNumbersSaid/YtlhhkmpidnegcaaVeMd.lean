/- Made at 101: so many bytes, whichever: walks. Condition: none. -/
import Derived.Test.YtlhhkmpidnegcaaVeAk
namespace Go.Proofs.Ytlhhkmpidnegcaa
open Go.RowKit Go.WideShapes Go.Maps
set_option linter.unusedVariables false
set_option linter.unusedSimpArgs false
set_option maxRecDepth 100000
def octs (l : List Int) : List Value := l.map (.int .u8)
theorem octs_one (l : List Int) : ∀ u ∈ octs l, u.oneCell' = true := fun u hu => by
  obtain ⟨x, _, rfl⟩ := List.mem_map.1 hu; rfl
theorem octs_length (l : List Int) : (octs l).length = l.length := by simp [octs]
theorem tBytes : SlT Try.prog 58 5 (.int .u8 0) 1 := ⟨Try.underlying58, by kernel_rfl, rfl⟩
def IsU64 (w : World) (e : Ending) (w' : World) : Prop := (∃ y : Int, e = .returned (.int .u64 y) ∧ 0 ≤ y ∧ y ≤ 18446744073709551615) ∧ w = w'
def IsU8 (w : World) (e : Ending) (w' : World) : Prop := (∃ y : Int, e = .returned (.int .u8 y) ∧ 0 ≤ y ∧ y ≤ 255) ∧ w = w'
theorem u64_bd (n : Int) : 0 ≤ IntKind.u64.wrap n ∧ IntKind.u64.wrap n ≤ 18446744073709551615 := by
  have : IntKind.u64.wrap n = n % 18446744073709551616 := by simp [IntKind.wrap, IntKind.bits, IntKind.signed]
  omega
theorem made_any (x : Int) (w : World) (h0 : 0 ≤ x) (h1 : x ≤ 18446744073709551615) : Calls Try.prog 48 #[.int .u64 x] w (IsU64 w) := by
  go_enter Try.func48, Try.ntmps48
  go_wp2
  go_ret
  exact ⟨⟨_, rfl, (u64_bd _).1, (u64_bd _).2⟩, rfl⟩
theorem first_any (x : Int) (w : World) (h0 : 0 ≤ x) (h1 : x ≤ 100) : Calls Try.prog 47 #[.int .i64 x] w (IsU64 w) := by
  go_enter Try.func47, Try.ntmps47
  go_wp2_with fail
  refine (made_any _ _ (by omega) (by omega)).mono ?_
  rintro e w1 ⟨⟨y, rfl, y0, y1⟩, rfl⟩
  go_wp2
  go_ret
  exact ⟨⟨y, rfl, y0, y1⟩, rfl⟩
theorem taken_any (x : Int) (w : World) (h0 : 0 ≤ x) (h1 : x ≤ 18446744073709551615) : Calls Try.prog 49 #[.int .u64 x] w (IsU8 w) := by
  go_enter Try.func49, Try.ntmps49
  go_wp2
  go_ret
  exact ⟨⟨_, rfl, by omega, by omega⟩, rfl⟩
structure MadeRel (base : Nat) (w0 : World) (x v i : Value) (w : World) : Prop where
  ex : ∃ (k : Nat) (y : Int) (l : List Int), i = .int .i64 k ∧ k ≤ 101 ∧ x = .int .u64 y ∧ 0 ≤ y ∧ y ≤ 18446744073709551615 ∧ l.length = k ∧ Oct l ∧ w.ownsRow base 5 1 v k (octs l)
  low : Below w0.heap.size w0 w
structure IsMade (w0 : World) (e : Ending) (w : World) : Prop where
  ex : ∃ A c l, e = .returned (.slice A 101 c) ∧ l.length = 101 ∧ Oct l ∧ w.ownsRow w0.heap.size 5 1 (.slice A 101 c) 101 (octs l)
  low : Below w0.heap.size w0 w
theorem octs_snoc (l : List Int) (x : Int) : octs (l ++ [x]) = octs l ++ [.int .u8 x] := by simp [octs]
set_option maxRecDepth 100000 in
set_option maxHeartbeats 2000000 in
theorem made101 (s : Int) (w : World) (h0 : 0 ≤ s) (h1 : s ≤ 100) : Calls Try.prog 20 #[.int .i64 s, .int .i64 101] w (IsMade w) := by
  go_enter Try.func20, Try.ntmps20
  go_wp2_with fail
  refine (first_any _ _ h0 h1).mono ?_
  rintro e w1 ⟨⟨y, rfl, y0, y1⟩, rfl⟩
  go_wp2_with fail
  go_loopw [5, 6, 11] (fun x v i wr => MadeRel w.heap.size w x v i wr) (fun _ _ i _ => 101 - (intOf i).toNat)
  case atStart => exact ⟨⟨0, y, [], rfl, by omega, rfl, y0, y1, rfl, (by intro x hx; cases hx), World.ownsRow_nil w w.heap.size 5 1⟩, Below.refl _ _⟩
  case round =>
    obtain ⟨⟨k, y, l, rfl, hk, rfl, y0, y1, hl, ho, hown⟩, hb⟩ := hrel
    have HL := Lib.hid hl
    have HO := Lib.hid ho
    clear hl ho
    by_cases hlt : k < 101
    · by_cases hq : (bits .and .i64 (k : Int) 7 == 0) = true
      · go_wp2_with fail
        refine (made_any _ _ y0 y1).mono ?_
        rintro e w1 ⟨⟨y', rfl, y0', y1'⟩, rfl⟩
        go_wp2_with fail
        refine (taken_any _ _ y0' y1').mono ?_
        rintro e w1 ⟨⟨z, rfl, z0, z1⟩, rfl⟩
        go_wp2_with (at_builtin; refine wpList_app1 tBytes rfl (.tmp 19) (.tmp 22) rfl w.heap.size _ k (octs l) rfl hown (.int .u8 z) rfl _ rfl rfl (by omega) (by unfold maxLen; omega) hb.size ?_; intro v2 w2 hown2 _ hb3)
        go_roundw
        case rel => exact ⟨⟨k + 1, y', l ++ [z], by simp, by omega, rfl, y0', y1', by rw [List.length_append, HL.out]; rfl, HO.out.append (fun x hx => by simp at hx; subst hx; exact ⟨z0, z1⟩), by rw [octs_snoc]; exact hown2⟩, hb.trans hb3⟩
        case measure => simp [intOf]; omega
      · have hq' : (bits .and .i64 (k : Int) 7 == 0) = false := by simpa using hq
        clear hq
        go_wp2_with fail
        refine (taken_any _ _ y0 y1).mono ?_
        rintro e w1 ⟨⟨z, rfl, z0, z1⟩, rfl⟩
        go_wp2_with (at_builtin; refine wpList_app1 tBytes rfl (.tmp 19) (.tmp 22) rfl w.heap.size _ k (octs l) rfl hown (.int .u8 z) rfl _ rfl rfl (by omega) (by unfold maxLen; omega) hb.size ?_; intro v2 w2 hown2 _ hb3)
        go_roundw
        case rel => exact ⟨⟨k + 1, y, l ++ [z], by simp, by omega, rfl, y0, y1, by rw [List.length_append, HL.out]; rfl, HO.out.append (fun x hx => by simp at hx; subst hx; exact ⟨z0, z1⟩), by rw [octs_snoc]; exact hown2⟩, hb.trans hb3⟩
        case measure => simp [intOf]; omega
    · obtain rfl : k = 101 := by omega
      obtain ⟨A1, c1, rfl, hc1⟩ := own_slice hown
      go_wp2
      go_ret
      exact ⟨⟨A1, c1, l, rfl, HL.out, HO.out, hown⟩, hb⟩
end Go.Proofs.Ytlhhkmpidnegcaa
