/- The encoder: made, its length, its end: walks. -/
import Derived.Test.YtbjbpbblalcpkaaPutEnc
namespace Go.Proofs.Ytbjbpbblalcpkaa
open Go.RowKit Go.WideShapes
set_option linter.unusedVariables false
set_option maxHeartbeats 2000000 in
theorem put_unmade (g : Nat) (x y b p : Int) (v : Value) (w : World) (hb : Blk w g 58 #[.int .u32 x, .int .u32 y, .bool false, v]) : Calls Try.prog 10 #[.pointer (some ⟨g, 0, none⟩), .int .i64 b, .int .i64 p] w (PutNo 1 w) := by
  have c2 := (hb.alloc (.cells #[.pointer (some ⟨g, 0, none⟩)] 23)).cell 2
  simp at c2
  clear hb
  go_enter Try.func10, Try.ntmps10
  go_wp2
  go_ret
  exact ⟨rfl, (Below.refl _ _).alloc (Nat.le_refl _) _⟩
set_option maxHeartbeats 2000000 in
theorem put_long (B g : Nat) (b x y p : Int) (out : List Int) (v : Value) (w : World) (he : Enc B w g x y out v) (hl : 65536 ≤ out.length) (hm : out.length ≤ 1000000) (hb : b = 0 ∨ b = 1) (p0 : 1 ≤ p) (p1 : p ≤ 65535) :
    Calls Try.prog 10 #[.pointer (some ⟨g, 0, none⟩), .int .i64 b, .int .i64 p] w (PutNo 3 w) := by
  obtain ⟨A, c, rfl, hc⟩ := own_slice he.own
  have c2 := (he.blk.alloc (.cells #[.pointer (some ⟨g, 0, none⟩)] 23)).cell 2
  have c3 := (he.blk.alloc (.cells #[.pointer (some ⟨g, 0, none⟩)] 23)).cell 3
  simp at c2 c3
  have gd : decide ((65536 : Int) ≤ (out.length : Int)) = true := by simp; omega
  have HL := Lib.hid hl
  have HM := Lib.hid hm
  clear he hl hm
  rcases hb with rfl | rfl
  all_goals
    go_enter Try.func10, Try.ntmps10
    go_wp2_with (go_at_call 26; refine (chance_yes p _ p0 p1).mono ?_; rintro e w1 ⟨rfl, rfl⟩)
    go_ret
    exact ⟨rfl, (Below.refl _ _).alloc (Nat.le_refl _) _⟩
structure Same (v : Value) (w0 : World) (e : Ending) (w : World) : Prop where
  ret : e = .returned v
  same : w0 = w
theorem len_nil (w : World) : Calls Try.prog 12 #[.pointer none] w (Same (.int .i64 0) w) := by
  go_enter Try.func12, Try.ntmps12
  go_wp2
  go_ret
  exact ⟨rfl, rfl⟩
theorem len_of (g n : Nat) (x y : Int) (m : Bool) (A : Option Addr) (c : Nat) (w : World) (hb : Blk w g 58 #[.int .u32 x, .int .u32 y, .bool m, .slice A n c]) : Calls Try.prog 12 #[.pointer (some ⟨g, 0, none⟩)] w (Same (.int .i64 n) w) := by
  have c3 := hb.cell 3
  simp at c3
  clear hb
  go_enter Try.func12, Try.ntmps12
  go_wp2
  go_ret
  exact ⟨rfl, rfl⟩
theorem len_any (B g : Nat) (x y : Int) (out : List Int) (v : Value) (w : World) (he : Enc B w g x y out v) : Calls Try.prog 12 #[.pointer (some ⟨g, 0, none⟩)] w (Same (.int .i64 out.length) w) := by
  obtain ⟨A, c, rfl, hc⟩ := own_slice he.own
  exact len_of g out.length x y true A c w he.blk
structure Begun (w0 : World) (e : Ending) (w : World) : Prop where
  ret : e = .returned (.agg #[.int .u32 0, .int .u32 4294967295, .bool true])
  low : Below w0.heap.size w0 w
theorem begun_any (w : World) : Calls Try.prog 25 #[] w (Begun w) := by
  go_enter Try.func25, Try.ntmps25
  go_wp2
  exact bodyPost_ret (v := .agg #[.int .u32 0, .int .u32 4294967295, .bool true]) (by simp [results, Try.results25, go_sem]) rfl ⟨rfl, (Below.refl _ _).alloc (Nat.le_refl _) _⟩
/-- A new encoder. -/
structure NewEnc (w0 : World) (e : Ending) (w : World) : Prop where
  ex : ∃ g, e = .returned (.pointer (some ⟨g, 0, none⟩)) ∧ Enc w0.heap.size w g 0 4294967295 [] (.slice none 0 0)
  low : Below w0.heap.size w0 w
set_option maxHeartbeats 2000000 in
theorem newEnc_any (w : World) : Calls Try.prog 8 #[] w (NewEnc w) := by
  go_enter Try.func8, Try.ntmps8
  go_wp2_with fail
  refine (begun_any _).mono ?_
  rintro e w1 ⟨rfl, hb1⟩
  go_wp2
  go_ret
  exact ⟨⟨w1.heap.size, rfl, ⟨Blk.new _ _ _, ⟨rfl, .inl ⟨rfl, rfl⟩⟩, hb1.size⟩⟩, hb1.alloc hb1.size _⟩
end Go.Proofs.Ytbjbpbblalcpkaa
