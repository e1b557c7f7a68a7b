/- The two laws over package squash, walked out of the functions' contracts: any two numbers; no condition. -/
import Derived.Test.YtfdbbdehlpaogaaSquash
namespace Go.Proofs.Ytfdbbdehlpaogaa
open Go.RowKit
theorem st_2048 : stI 2048 = 0 := by
  refine (IsSt.uniq ⟨by omega, by omega, fun d _ h => ?_, fun _ => by decide +kernel⟩ (st_is 2048)).symm
  have := sq_mono d (-1) (by omega)
  have e : sqI (-1) < 2048 := by decide +kernel
  omega
theorem st_0 : stI 0 = -2047 := (IsSt.uniq ⟨by omega, by omega, fun d _ h => by omega, fun _ => by decide +kernel⟩ (st_is 0)).symm
theorem st_5000 : stI 5000 = 2047 := by
  refine (IsSt.uniq ⟨by omega, by omega, fun d _ h => ?_, fun h => by omega⟩ (st_is 5000)).symm
  have := sq_bd d
  omega
set_option maxHeartbeats 2000000 in
theorem sqAwake_any (w : World) :
    Calls Try.prog 19 #[] w fun e w' => e = .returned (.bool true) ∧ Below w.heap.size w w' := by
  have n1 : sqI 0 = 2048 := by decide +kernel
  have n2 : sqI 128 = 2550 := by decide +kernel
  have n3 : sqI 64 = 2299 := by decide +kernel
  have n4 : sqI (-128) = 1546 := by decide +kernel
  have n5 : sqI 2047 = 4095 := by decide +kernel
  have n6 : sqI (-2047) = 1 := by decide +kernel
  have n7 : sqI 9999 = 4095 := by decide +kernel
  have n8 := st_2048
  have n9 := st_0
  have n10 := st_5000
  go_enter Try.func19, Try.ntmps19
  go_wp2_with fail
  refine (squash_any _ _).mono ?_; rintro e w1 ⟨rfl, hb1⟩; go_wp2_with fail
  refine (squash_any _ _).mono ?_; rintro e w2 ⟨rfl, hb2⟩; go_wp2_with fail
  refine (squash_any _ _).mono ?_; rintro e w3 ⟨rfl, hb3⟩; go_wp2_with fail
  refine (squash_any _ _).mono ?_; rintro e w4 ⟨rfl, hb4⟩; go_wp2_with fail
  refine (squash_any _ _).mono ?_; rintro e w5 ⟨rfl, hb5⟩; go_wp2_with fail
  refine (squash_any _ _).mono ?_; rintro e w6 ⟨rfl, hb6⟩; go_wp2_with fail
  refine (squash_any _ _).mono ?_; rintro e w7 ⟨rfl, hb7⟩; go_wp2_with fail
  refine (stretch_any _ _).mono ?_; rintro e w8 ⟨rfl, hb8⟩; go_wp2_with fail
  refine (stretch_any _ _).mono ?_; rintro e w9 ⟨rfl, hb9⟩; go_wp2_with fail
  refine (stretch_any _ _).mono ?_; rintro e wa ⟨rfl, hba⟩; go_wp2
  go_ret
  have k1 := hb1.trans (hb2.mono hb1.size)
  have k2 := k1.trans (hb3.mono k1.size)
  have k3 := k2.trans (hb4.mono k2.size)
  have k4 := k3.trans (hb5.mono k3.size)
  have k5 := k4.trans (hb6.mono k4.size)
  have k6 := k5.trans (hb7.mono k5.size)
  have k7 := k6.trans (hb8.mono k6.size)
  have k8 := k7.trans (hb9.mono k7.size)
  exact ⟨rfl, k8.trans (hba.mono k8.size)⟩
set_option maxHeartbeats 1000000 in
theorem sqTells_any (d p : Int) (w : World) (_ : (Lit.int .i64 d).wf = true) (_ : (Lit.int .i64 p).wf = true) :
    Calls Try.prog 5 #[.int .i64 d, .int .i64 p] w fun e w' => e = .returned (.bool true) ∧ Below w.heap.size w w' := by
  go_enter Try.func5, Try.ntmps5
  go_wp2_with fail
  refine (squash_any _ _).mono ?_; rintro e w1 ⟨rfl, hb1⟩; go_wp2_with fail
  refine (rsquash_any _ _).mono ?_; rintro e w2 ⟨rfl, hb2⟩; go_wp2_with fail
  refine (stretch_any _ _).mono ?_; rintro e w3 ⟨rfl, hb3⟩; go_wp2_with fail
  refine (rstretch_any _ _).mono ?_; rintro e w4 ⟨rfl, hb4⟩; go_wp2_with fail
  refine (sqAwake_any _).mono ?_; rintro e w5 ⟨rfl, hb5⟩; go_wp2
  go_ret
  have k1 := hb1.trans (hb2.mono hb1.size)
  have k2 := k1.trans (hb3.mono k1.size)
  have k3 := k2.trans (hb4.mono k2.size)
  exact ⟨rfl, k3.trans (hb5.mono k3.size)⟩
def RBack (w0 : World) (v : Value) (w : World) : Prop := ∃ k : Nat, k ≤ 2 ∧ v = .int .i64 k ∧ Below w0.heap.size w0 w
set_option maxRecDepth 100000 in
set_option maxHeartbeats 8000000 in
theorem sqBack_any (a b : Int) (w : World) (_ : (Lit.int .i64 a).wf = true) (_ : (Lit.int .i64 b).wf = true) :
    Calls Try.prog 6 #[.int .i64 a, .int .i64 b] w fun e w' => e = .returned (.bool true) ∧ Below w.heap.size w w' := by
  by_cases hab : b < a
  · skip
    have f1 := sq_mono b a (by omega)
    have f2 := st_mono b a (by omega)
    go_enter Try.func6, Try.ntmps6
    go_wp2_with fail
    refine (squash_any _ _).mono ?_; rintro e w1 ⟨rfl, hb1⟩; go_wp2_with fail
    refine (squash_any _ _).mono ?_; rintro e w2 ⟨rfl, hb2⟩; go_wp2_with fail
    refine (stretch_any _ _).mono ?_; rintro e w3 ⟨rfl, hb3⟩; go_wp2_with fail
    refine (stretch_any _ _).mono ?_; rintro e w4 ⟨rfl, hb4⟩; go_wp2_with fail
    have k1 := hb1.trans (hb2.mono hb1.size)
    have k2 := k1.trans (hb3.mono k1.size)
    have k3 := k2.trans (hb4.mono k2.size)
    clear hb1 hb2 hb3 hb4 k1 k2
    have i0 : ∀ w, (Instr.index 33 (.agg #[.int .i64 b, .int .i64 a]) (.int .i64 0)).run Try.prog w = .ok (.int .i64 b) w := fun _ => by kernel_rfl
    have i1 : ∀ w, (Instr.index 33 (.agg #[.int .i64 b, .int .i64 a]) (.int .i64 1)).run Try.prog w = .ok (.int .i64 a) w := fun _ => by kernel_rfl
    go_loopw [29] (fun v wr => RBack w v wr) (fun v _ => 2 - (intOf v).toNat)
    case atStart => exact ⟨0, by omega, rfl, k3⟩
    case round =>
      obtain ⟨k, hk, rfl, hb⟩ := hrel
      rcases (show k = 0 ∨ k = 1 ∨ k = 2 from by omega) with rfl | rfl | rfl
      · obtain ⟨g1, g2⟩ := sq_bd b
        have g3 := (st_is b).lo
        have g4 := (st_is b).hi
        have g5 := back1 b
        have g6 := back2 b
        rcases (show b < -2047 ∨ (-2047 ≤ b ∧ b ≤ 2047) ∨ (2047 < b ∧ b ≤ 4095) ∨ 4095 < b from by omega) with hx | ⟨hx, hx'⟩ | ⟨hx, hx'⟩ | hx
        all_goals
          first | have g5 := g5 (by omega) | clear g5
          first | have g6 := g6 (by omega) | clear g6
          go_wp2_with (first | (go_at_call 15; refine (squash_any _ _).mono ?_; rintro e w1 ⟨rfl, hb1⟩; have hb := hb.trans (hb1.mono hb.size)) | (go_at_call 17; refine (stretch_any _ _).mono ?_; rintro e w1 ⟨rfl, hb1⟩; have hb := hb.trans (hb1.mono hb.size)))
          go_roundw
        all_goals first | exact ⟨1, by omega, by go_num, by assumption⟩ | (simp [intOf]; done)
      · obtain ⟨g1, g2⟩ := sq_bd a
        have g3 := (st_is a).lo
        have g4 := (st_is a).hi
        have g5 := back1 a
        have g6 := back2 a
        rcases (show a < -2047 ∨ (-2047 ≤ a ∧ a ≤ 2047) ∨ (2047 < a ∧ a ≤ 4095) ∨ 4095 < a from by omega) with hx | ⟨hx, hx'⟩ | ⟨hx, hx'⟩ | hx
        all_goals
          first | have g5 := g5 (by omega) | clear g5
          first | have g6 := g6 (by omega) | clear g6
          go_wp2_with (first | (go_at_call 15; refine (squash_any _ _).mono ?_; rintro e w1 ⟨rfl, hb1⟩; have hb := hb.trans (hb1.mono hb.size)) | (go_at_call 17; refine (stretch_any _ _).mono ?_; rintro e w1 ⟨rfl, hb1⟩; have hb := hb.trans (hb1.mono hb.size)))
          go_roundw
        all_goals first | exact ⟨2, by omega, by go_num, by assumption⟩ | (simp [intOf]; done)
      · go_wp2_with (first | (go_at_call 19; refine (sqAwake_any _).mono ?_; rintro e w1 ⟨rfl, hb1⟩))
        go_ret
        exact ⟨rfl, hb.trans (hb1.mono hb.size)⟩
  · skip
    have f1 := sq_mono a b (by omega)
    have f2 := st_mono a b (by omega)
    go_enter Try.func6, Try.ntmps6
    go_wp2_with fail
    refine (squash_any _ _).mono ?_; rintro e w1 ⟨rfl, hb1⟩; go_wp2_with fail
    refine (squash_any _ _).mono ?_; rintro e w2 ⟨rfl, hb2⟩; go_wp2_with fail
    refine (stretch_any _ _).mono ?_; rintro e w3 ⟨rfl, hb3⟩; go_wp2_with fail
    refine (stretch_any _ _).mono ?_; rintro e w4 ⟨rfl, hb4⟩; go_wp2_with fail
    have k1 := hb1.trans (hb2.mono hb1.size)
    have k2 := k1.trans (hb3.mono k1.size)
    have k3 := k2.trans (hb4.mono k2.size)
    clear hb1 hb2 hb3 hb4 k1 k2
    have i0 : ∀ w, (Instr.index 33 (.agg #[.int .i64 a, .int .i64 b]) (.int .i64 0)).run Try.prog w = .ok (.int .i64 a) w := fun _ => by kernel_rfl
    have i1 : ∀ w, (Instr.index 33 (.agg #[.int .i64 a, .int .i64 b]) (.int .i64 1)).run Try.prog w = .ok (.int .i64 b) w := fun _ => by kernel_rfl
    go_loopw [29] (fun v wr => RBack w v wr) (fun v _ => 2 - (intOf v).toNat)
    case atStart => exact ⟨0, by omega, rfl, k3⟩
    case round =>
      obtain ⟨k, hk, rfl, hb⟩ := hrel
      rcases (show k = 0 ∨ k = 1 ∨ k = 2 from by omega) with rfl | rfl | rfl
      · obtain ⟨g1, g2⟩ := sq_bd a
        have g3 := (st_is a).lo
        have g4 := (st_is a).hi
        have g5 := back1 a
        have g6 := back2 a
        rcases (show a < -2047 ∨ (-2047 ≤ a ∧ a ≤ 2047) ∨ (2047 < a ∧ a ≤ 4095) ∨ 4095 < a from by omega) with hx | ⟨hx, hx'⟩ | ⟨hx, hx'⟩ | hx
        all_goals
          first | have g5 := g5 (by omega) | clear g5
          first | have g6 := g6 (by omega) | clear g6
          go_wp2_with (first | (go_at_call 15; refine (squash_any _ _).mono ?_; rintro e w1 ⟨rfl, hb1⟩; have hb := hb.trans (hb1.mono hb.size)) | (go_at_call 17; refine (stretch_any _ _).mono ?_; rintro e w1 ⟨rfl, hb1⟩; have hb := hb.trans (hb1.mono hb.size)))
          go_roundw
        all_goals first | exact ⟨1, by omega, by go_num, by assumption⟩ | (simp [intOf]; done)
      · obtain ⟨g1, g2⟩ := sq_bd b
        have g3 := (st_is b).lo
        have g4 := (st_is b).hi
        have g5 := back1 b
        have g6 := back2 b
        rcases (show b < -2047 ∨ (-2047 ≤ b ∧ b ≤ 2047) ∨ (2047 < b ∧ b ≤ 4095) ∨ 4095 < b from by omega) with hx | ⟨hx, hx'⟩ | ⟨hx, hx'⟩ | hx
        all_goals
          first | have g5 := g5 (by omega) | clear g5
          first | have g6 := g6 (by omega) | clear g6
          go_wp2_with (first | (go_at_call 15; refine (squash_any _ _).mono ?_; rintro e w1 ⟨rfl, hb1⟩; have hb := hb.trans (hb1.mono hb.size)) | (go_at_call 17; refine (stretch_any _ _).mono ?_; rintro e w1 ⟨rfl, hb1⟩; have hb := hb.trans (hb1.mono hb.size)))
          go_roundw
        all_goals first | exact ⟨2, by omega, by go_num, by assumption⟩ | (simp [intOf]; done)
      · go_wp2_with (first | (go_at_call 19; refine (sqAwake_any _).mono ?_; rintro e w1 ⟨rfl, hb1⟩))
        go_ret
        exact ⟨rfl, hb.trans (hb1.mono hb.size)⟩
end Go.Proofs.Ytfdbbdehlpaogaa
