/- ShaNone's walk: a digest that New did not make answers noughts and ErrNil. -/
import Derived.Test.YtgkgdbjdmmieaaaShAw
import Derived.Test.YtgkgdbjdmmieaaaShEq
namespace Go.Proofs.Ytgkgdbjdmmieaaa
open Go.RowKit Go.WideShapes
set_option linter.unusedVariables false
set_option linter.unusedSimpArgs false
set_option maxHeartbeats 4000000 in
set_option maxRecDepth 100000 in
theorem none_law {p q : Prop} (b : Value) (w : World) (hp : p) (hq : q) : Calls Try.prog 4 #[b] w fun e w' => e = .returned (.bool true) ∧ Below w.heap.size w w' := by
  have z20 : zero20 = #[.int .u8 0, .int .u8 0, .int .u8 0, .int .u8 0, .int .u8 0, .int .u8 0, .int .u8 0, .int .u8 0, .int .u8 0, .int .u8 0, .int .u8 0, .int .u8 0, .int .u8 0, .int .u8 0, .int .u8 0, .int .u8 0, .int .u8 0, .int .u8 0, .int .u8 0, .int .u8 0] := rfl
  have w0 := fun W => write_nil b W
  have s0 := fun W => sum_nil W
  have l0 := fun W => len_nil W
  have w1 := fun (W : World) (g : Nat) (u1 u2 u3 u4 u5 u6 u7 : Value) (hb : Blk W g 33 #[.bool false, u1, u2, u3, u4, u5, u6, u7]) => write_unmade b g u1 u2 u3 u4 u5 u6 u7 W hb
  have s1 := fun (W : World) (g : Nat) (u1 u2 u3 u4 u5 u6 u7 : Value) (hb : Blk W g 33 #[.bool false, u1, u2, u3, u4, u5, u6, u7]) => sum_unmade g u1 u2 u3 u4 u5 u6 u7 W hb
  have l1 := fun (W : World) (g : Nat) (n : Int) (u1 u2 u3 u4 u5 u6 u7 : Value) (hb : Blk W g 33 #[u1, u2, u3, u4, u5, u6, u7, .int .i64 n]) => len_of g n u1 u2 u3 u4 u5 u6 u7 W hb
  rw [z20] at s0 s1
  have hd := (Blk.new w 33 #[.bool false, .int .u32 0, .int .u32 0, .int .u32 0, .int .u32 0, .int .u32 0, .slice none 0 0, .int .i64 0]).alloc (.cells #[.pointer none, .pointer (some ⟨w.heap.size, 0, none⟩)] 29)
  have hs := Blk.new (w.alloc (.cells #[.bool false, .int .u32 0, .int .u32 0, .int .u32 0, .int .u32 0, .int .u32 0, .slice none 0 0, .int .i64 0] 33)) 29 #[.pointer none, .pointer (some ⟨w.heap.size, 0, none⟩)]
  rw [show (w.alloc (.cells #[.bool false, .int .u32 0, .int .u32 0, .int .u32 0, .int .u32 0, .int .u32 0, .slice none 0 0, .int .i64 0] 33)).heap.size = w.heap.size + 1 by simp] at hs
  have hb0 := ((Below.refl w.heap.size w).alloc (Nat.le_refl _) (.cells #[.bool false, .int .u32 0, .int .u32 0, .int .u32 0, .int .u32 0, .int .u32 0, .slice none 0 0, .int .i64 0] 33)).alloc (by simp) (.cells #[.pointer none, .pointer (some ⟨w.heap.size, 0, none⟩)] 29)
  have heq := fun W => eq20_same (List.replicate 20 0) rfl (by intro x hx; simp at hx; omega) W
  rw [show (octs (List.replicate 20 0)).toArray = zero20 from rfl, z20] at heq
  have W0 := Lib.hid w0
  have S0 := Lib.hid s0
  have L0 := Lib.hid l0
  have W1 := Lib.hid w1
  have S1 := Lib.hid s1
  have L1 := Lib.hid l1
  have HD := Lib.hid hd
  have HS := Lib.hid hs
  have HB0 := Lib.hid hb0
  clear w0 s0 l0 w1 s1 l1 hd hs hb0 z20 hp hq
  go_enter Try.func4, Try.ntmps4
  go_wp2_with fail
  generalize hW : (w.alloc (.cells #[.bool false, .int .u32 0, .int .u32 0, .int .u32 0, .int .u32 0, .int .u32 0, .slice none 0 0, .int .i64 0] 33)).alloc (.cells #[.pointer none, .pointer (some ⟨w.heap.size, 0, none⟩)] 29) = W at HD HS HB0 ⊢
  clear hW
  go_loopw [11] (fun i wr => ∃ k : Nat, k ≤ 2 ∧ i = .int .i64 k ∧ Below W.heap.size W wr) (fun i _ => 2 - (intOf i).toNat)
  case atStart => exact ⟨0, by omega, rfl, Below.refl _ _⟩
  case round =>
    obtain ⟨k, hk, rfl, hb⟩ := hrel
    have hs' := HS.out.below hb
    have hd' := HD.out.below hb
    have c0 := hs'.cell 0
    have c1 := hs'.cell 1
    simp at c0 c1
    have HB := Lib.hid hb
    have HD' := Lib.hid hd'
    clear hs' hd' hb
    have hk3 : k = 0 ∨ k = 1 ∨ k = 2 := by omega
    rcases hk3 with rfl | rfl | rfl
    · go_wp2_with fail
      refine (W0.out _).mono ?_
      rintro e w2 ⟨rfl, rfl⟩
      go_wp2_with fail
      refine (S0.out _).mono ?_
      rintro e w3 ⟨rfl, hb3⟩
      go_wp2_with fail
      refine (L0.out _).mono ?_
      rintro e w4 ⟨rfl, rfl⟩
      go_wp2_with fail
      go_roundw
      case rel => exact ⟨1, by omega, rfl, ch0 HB.out hb3⟩
      case measure => simp [intOf]
    · go_wp2_with fail
      refine (W1.out _ _ _ _ _ _ _ _ _ HD'.out).mono ?_
      rintro e w2 ⟨rfl, rfl⟩
      go_wp2_with fail
      refine (S1.out _ _ _ _ _ _ _ _ _ HD'.out).mono ?_
      rintro e w3 ⟨rfl, hb3⟩
      have hd3 := HD'.out.below hb3
      go_wp2_with fail
      refine (L1.out _ _ _ _ _ _ _ _ _ _ hd3).mono ?_
      rintro e w4 ⟨rfl, rfl⟩
      go_wp2_with fail
      go_roundw
      case rel => exact ⟨2, by omega, rfl, ch0 HB.out hb3⟩
      case measure => simp [intOf]
    · go_wp2_with fail
      refine (awake_any _).mono ?_
      rintro e w2 ⟨rfl, hb2⟩
      go_wp2_with fail
      go_ret
      exact ⟨rfl, (HB0.out.trans (HB.out.mono HB0.out.size)).trans (hb2.mono (Nat.le_trans HB0.out.size HB.out.size))⟩
end Go.Proofs.Ytgkgdbjdmmieaaa
