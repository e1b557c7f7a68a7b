/- How many bytes more, class by class: walks. No condition. -/
import Derived.Test.YtebmgladdgmmeaaCoPl
namespace Go.Proofs.Ytebmgladdgmmeaa
open Go.RowKit Go.WideShapes
set_option linter.unusedVariables false
set_option linter.unusedSimpArgs false
set_option maxRecDepth 100000 in
set_option maxHeartbeats 4000000 in
theorem moreI_0 (o d s n : Int) (w : World) (h0 : 0 ≤ o) (h : shO o = ⟨false, 0, false, false, false, false, false⟩) : Calls Try.prog 81 #[.agg #[.int .u8 o, .int .i64 d, .int .i64 s, .int .i64 n]] w (Quiet (.int .i64 (moreI ⟨o, d, s, n⟩)) w) := by
  have hrow := fun W => shape_any o W h0
  have hR : ∀ w e w', IsSh o w e w' → e = .returned (.agg #[.bool false, .int .i64 (0), .bool false, .bool false, .bool false, .bool false, .bool false]) ∧ Below w.heap.size w w' := fun w e w' hh => ⟨by rw [hh.1, h]; rfl, hh.2⟩
  have hone : moreI ⟨o, d, s, n⟩ = 0 := by simp [moreI, codeI, rightI, moreI, h]
  obtain ⟨C, hC⟩ : ∃ C, moreI ⟨o, d, s, n⟩ = C := ⟨_, rfl⟩
  rw [hC] at hone ⊢
  have HC := Lib.hid hone
  have HROW := Lib.hid fun w => (hrow w).mono (hR w)
  clear hrow hR hone h hC
  go_enter Try.func81, Try.ntmps81
  go_wp2_with fail
  refine (HROW.out _).mono ?_
  rintro e w1 ⟨rfl, hb1⟩
  have hB := ((Blk.new w 31 #[.int .u8 o, .int .i64 d, .int .i64 s, .int .i64 n]).below hb1).alloc (.cells #[.bool false, .int .i64 (0), .bool false, .bool false, .bool false, .bool false, .bool false] 82)
  have p0 := hB.cell 0
  have p1 := hB.cell 1
  have p2 := hB.cell 2
  have p3 := hB.cell 3
  simp at p0 p1 p2 p3
  have HB := Lib.hid (((Below.refl w.heap.size w).alloc (Nat.le_refl _) _).trans (hb1.mono (by rw [World.size_alloc]; omega)))
  clear hB hb1
  go_wp2_with (fail)
  all_goals
    go_ret
    refine ⟨ret_i64 ?_, HB.out.alloc HB.out.size _⟩
    have hc := HC.out
    clear HC HROW HB
    subst hc
    first | rfl | simp_all
set_option maxRecDepth 100000 in
set_option maxHeartbeats 4000000 in
theorem moreI_1 (o d s n : Int) (w : World) (h0 : 0 ≤ o) (h : shO o = ⟨true, -1, false, false, false, false, false⟩) : Calls Try.prog 81 #[.agg #[.int .u8 o, .int .i64 d, .int .i64 s, .int .i64 n]] w (Quiet (.int .i64 (moreI ⟨o, d, s, n⟩)) w) := by
  have hrow := fun W => shape_any o W h0
  have hR : ∀ w e w', IsSh o w e w' → e = .returned (.agg #[.bool true, .int .i64 (-1), .bool false, .bool false, .bool false, .bool false, .bool false]) ∧ Below w.heap.size w w' := fun w e w' hh => ⟨by rw [hh.1, h]; rfl, hh.2⟩
  have hone : moreI ⟨o, d, s, n⟩ = 0 := by simp [moreI, codeI, rightI, moreI, h]
  obtain ⟨C, hC⟩ : ∃ C, moreI ⟨o, d, s, n⟩ = C := ⟨_, rfl⟩
  rw [hC] at hone ⊢
  have HC := Lib.hid hone
  have HROW := Lib.hid fun w => (hrow w).mono (hR w)
  clear hrow hR hone h hC
  go_enter Try.func81, Try.ntmps81
  go_wp2_with fail
  refine (HROW.out _).mono ?_
  rintro e w1 ⟨rfl, hb1⟩
  have hB := ((Blk.new w 31 #[.int .u8 o, .int .i64 d, .int .i64 s, .int .i64 n]).below hb1).alloc (.cells #[.bool true, .int .i64 (-1), .bool false, .bool false, .bool false, .bool false, .bool false] 82)
  have p0 := hB.cell 0
  have p1 := hB.cell 1
  have p2 := hB.cell 2
  have p3 := hB.cell 3
  simp at p0 p1 p2 p3
  have HB := Lib.hid (((Below.refl w.heap.size w).alloc (Nat.le_refl _) _).trans (hb1.mono (by rw [World.size_alloc]; omega)))
  clear hB hb1
  go_wp2_with (fail)
  all_goals
    go_ret
    refine ⟨ret_i64 ?_, HB.out.alloc HB.out.size _⟩
    have hc := HC.out
    clear HC HROW HB
    subst hc
    first | rfl | simp_all
set_option maxRecDepth 100000 in
set_option maxHeartbeats 4000000 in
theorem moreI_2 (o d s n : Int) (w : World) (h0 : 0 ≤ o) (h : shO o = ⟨true, 6, true, false, false, false, false⟩) : Calls Try.prog 81 #[.agg #[.int .u8 o, .int .i64 d, .int .i64 s, .int .i64 n]] w (Quiet (.int .i64 (moreI ⟨o, d, s, n⟩)) w) := by
  have hrow := fun W => shape_any o W h0
  have hR : ∀ w e w', IsSh o w e w' → e = .returned (.agg #[.bool true, .int .i64 (6), .bool true, .bool false, .bool false, .bool false, .bool false]) ∧ Below w.heap.size w w' := fun w e w' hh => ⟨by rw [hh.1, h]; rfl, hh.2⟩
  have hone : moreI ⟨o, d, s, n⟩ = 1 := by simp [moreI, codeI, rightI, moreI, h]
  obtain ⟨C, hC⟩ : ∃ C, moreI ⟨o, d, s, n⟩ = C := ⟨_, rfl⟩
  rw [hC] at hone ⊢
  have HC := Lib.hid hone
  have HROW := Lib.hid fun w => (hrow w).mono (hR w)
  clear hrow hR hone h hC
  go_enter Try.func81, Try.ntmps81
  go_wp2_with fail
  refine (HROW.out _).mono ?_
  rintro e w1 ⟨rfl, hb1⟩
  have hB := ((Blk.new w 31 #[.int .u8 o, .int .i64 d, .int .i64 s, .int .i64 n]).below hb1).alloc (.cells #[.bool true, .int .i64 (6), .bool true, .bool false, .bool false, .bool false, .bool false] 82)
  have p0 := hB.cell 0
  have p1 := hB.cell 1
  have p2 := hB.cell 2
  have p3 := hB.cell 3
  simp at p0 p1 p2 p3
  have HB := Lib.hid (((Below.refl w.heap.size w).alloc (Nat.le_refl _) _).trans (hb1.mono (by rw [World.size_alloc]; omega)))
  clear hB hb1
  go_wp2_with (fail)
  all_goals
    go_ret
    refine ⟨ret_i64 ?_, HB.out.alloc HB.out.size _⟩
    have hc := HC.out
    clear HC HROW HB
    subst hc
    first | rfl | simp_all
set_option maxRecDepth 100000 in
set_option maxHeartbeats 4000000 in
theorem moreI_3 (o d s n : Int) (w : World) (h0 : 0 ≤ o) (h : shO o = ⟨true, 6, false, false, true, false, false⟩) : Calls Try.prog 81 #[.agg #[.int .u8 o, .int .i64 d, .int .i64 s, .int .i64 n]] w (Quiet (.int .i64 (moreI ⟨o, d, s, n⟩)) w) := by
  have hrow := fun W => shape_any o W h0
  have hR : ∀ w e w', IsSh o w e w' → e = .returned (.agg #[.bool true, .int .i64 (6), .bool false, .bool false, .bool true, .bool false, .bool false]) ∧ Below w.heap.size w w' := fun w e w' hh => ⟨by rw [hh.1, h]; rfl, hh.2⟩
  have hone : moreI ⟨o, d, s, n⟩ = 1 := by simp [moreI, codeI, rightI, moreI, h]
  obtain ⟨C, hC⟩ : ∃ C, moreI ⟨o, d, s, n⟩ = C := ⟨_, rfl⟩
  rw [hC] at hone ⊢
  have HC := Lib.hid hone
  have HROW := Lib.hid fun w => (hrow w).mono (hR w)
  clear hrow hR hone h hC
  go_enter Try.func81, Try.ntmps81
  go_wp2_with fail
  refine (HROW.out _).mono ?_
  rintro e w1 ⟨rfl, hb1⟩
  have hB := ((Blk.new w 31 #[.int .u8 o, .int .i64 d, .int .i64 s, .int .i64 n]).below hb1).alloc (.cells #[.bool true, .int .i64 (6), .bool false, .bool false, .bool true, .bool false, .bool false] 82)
  have p0 := hB.cell 0
  have p1 := hB.cell 1
  have p2 := hB.cell 2
  have p3 := hB.cell 3
  simp at p0 p1 p2 p3
  have HB := Lib.hid (((Below.refl w.heap.size w).alloc (Nat.le_refl _) _).trans (hb1.mono (by rw [World.size_alloc]; omega)))
  clear hB hb1
  go_wp2_with (fail)
  all_goals
    go_ret
    refine ⟨ret_i64 ?_, HB.out.alloc HB.out.size _⟩
    have hc := HC.out
    clear HC HROW HB
    subst hc
    first | rfl | simp_all
set_option maxRecDepth 100000 in
set_option maxHeartbeats 4000000 in
theorem moreI_4 (o d s n : Int) (w : World) (h0 : 0 ≤ o) (h : shO o = ⟨true, 6, false, false, false, false, false⟩) : Calls Try.prog 81 #[.agg #[.int .u8 o, .int .i64 d, .int .i64 s, .int .i64 n]] w (Quiet (.int .i64 (moreI ⟨o, d, s, n⟩)) w) := by
  have hrow := fun W => shape_any o W h0
  have hR : ∀ w e w', IsSh o w e w' → e = .returned (.agg #[.bool true, .int .i64 (6), .bool false, .bool false, .bool false, .bool false, .bool false]) ∧ Below w.heap.size w w' := fun w e w' hh => ⟨by rw [hh.1, h]; rfl, hh.2⟩
  have hone : moreI ⟨o, d, s, n⟩ = 0 := by simp [moreI, codeI, rightI, moreI, h]
  obtain ⟨C, hC⟩ : ∃ C, moreI ⟨o, d, s, n⟩ = C := ⟨_, rfl⟩
  rw [hC] at hone ⊢
  have HC := Lib.hid hone
  have HROW := Lib.hid fun w => (hrow w).mono (hR w)
  clear hrow hR hone h hC
  go_enter Try.func81, Try.ntmps81
  go_wp2_with fail
  refine (HROW.out _).mono ?_
  rintro e w1 ⟨rfl, hb1⟩
  have hB := ((Blk.new w 31 #[.int .u8 o, .int .i64 d, .int .i64 s, .int .i64 n]).below hb1).alloc (.cells #[.bool true, .int .i64 (6), .bool false, .bool false, .bool false, .bool false, .bool false] 82)
  have p0 := hB.cell 0
  have p1 := hB.cell 1
  have p2 := hB.cell 2
  have p3 := hB.cell 3
  simp at p0 p1 p2 p3
  have HB := Lib.hid (((Below.refl w.heap.size w).alloc (Nat.le_refl _) _).trans (hb1.mono (by rw [World.size_alloc]; omega)))
  clear hB hb1
  go_wp2_with (fail)
  all_goals
    go_ret
    refine ⟨ret_i64 ?_, HB.out.alloc HB.out.size _⟩
    have hc := HC.out
    clear HC HROW HB
    subst hc
    first | rfl | simp_all
set_option maxRecDepth 100000 in
set_option maxHeartbeats 4000000 in
theorem moreI_5 (o d s n : Int) (w : World) (h0 : 0 ≤ o) (h : shO o = ⟨true, -1, false, true, false, false, false⟩) : Calls Try.prog 81 #[.agg #[.int .u8 o, .int .i64 d, .int .i64 s, .int .i64 n]] w (Quiet (.int .i64 (moreI ⟨o, d, s, n⟩)) w) := by
  have hrow := fun W => shape_any o W h0
  have hR : ∀ w e w', IsSh o w e w' → e = .returned (.agg #[.bool true, .int .i64 (-1), .bool false, .bool true, .bool false, .bool false, .bool false]) ∧ Below w.heap.size w w' := fun w e w' hh => ⟨by rw [hh.1, h]; rfl, hh.2⟩
  have hone : moreI ⟨o, d, s, n⟩ = if s = 7 then 1 else 0 := by simp [moreI, codeI, rightI, moreI, h]
  obtain ⟨C, hC⟩ : ∃ C, moreI ⟨o, d, s, n⟩ = C := ⟨_, rfl⟩
  rw [hC] at hone ⊢
  have HC := Lib.hid hone
  have HROW := Lib.hid fun w => (hrow w).mono (hR w)
  clear hrow hR hone h hC
  go_enter Try.func81, Try.ntmps81
  go_wp2_with fail
  refine (HROW.out _).mono ?_
  rintro e w1 ⟨rfl, hb1⟩
  have hB := ((Blk.new w 31 #[.int .u8 o, .int .i64 d, .int .i64 s, .int .i64 n]).below hb1).alloc (.cells #[.bool true, .int .i64 (-1), .bool false, .bool true, .bool false, .bool false, .bool false] 82)
  have p0 := hB.cell 0
  have p1 := hB.cell 1
  have p2 := hB.cell 2
  have p3 := hB.cell 3
  simp at p0 p1 p2 p3
  have HB := Lib.hid (((Below.refl w.heap.size w).alloc (Nat.le_refl _) _).trans (hb1.mono (by rw [World.size_alloc]; omega)))
  clear hB hb1
  go_wp2_with (fail)
  all_goals
    go_ret
    refine ⟨ret_i64 ?_, HB.out.alloc HB.out.size _⟩
    have hc := HC.out
    clear HC HROW HB
    subst hc
    first | rfl | simp_all
set_option maxRecDepth 100000 in
set_option maxHeartbeats 4000000 in
theorem moreI_6 (o d s n : Int) (w : World) (h0 : 0 ≤ o) (h : shO o = ⟨true, 3, false, false, true, false, false⟩) : Calls Try.prog 81 #[.agg #[.int .u8 o, .int .i64 d, .int .i64 s, .int .i64 n]] w (Quiet (.int .i64 (moreI ⟨o, d, s, n⟩)) w) := by
  have hrow := fun W => shape_any o W h0
  have hR : ∀ w e w', IsSh o w e w' → e = .returned (.agg #[.bool true, .int .i64 (3), .bool false, .bool false, .bool true, .bool false, .bool false]) ∧ Below w.heap.size w w' := fun w e w' hh => ⟨by rw [hh.1, h]; rfl, hh.2⟩
  have hone : moreI ⟨o, d, s, n⟩ = 1 := by simp [moreI, codeI, rightI, moreI, h]
  obtain ⟨C, hC⟩ : ∃ C, moreI ⟨o, d, s, n⟩ = C := ⟨_, rfl⟩
  rw [hC] at hone ⊢
  have HC := Lib.hid hone
  have HROW := Lib.hid fun w => (hrow w).mono (hR w)
  clear hrow hR hone h hC
  go_enter Try.func81, Try.ntmps81
  go_wp2_with fail
  refine (HROW.out _).mono ?_
  rintro e w1 ⟨rfl, hb1⟩
  have hB := ((Blk.new w 31 #[.int .u8 o, .int .i64 d, .int .i64 s, .int .i64 n]).below hb1).alloc (.cells #[.bool true, .int .i64 (3), .bool false, .bool false, .bool true, .bool false, .bool false] 82)
  have p0 := hB.cell 0
  have p1 := hB.cell 1
  have p2 := hB.cell 2
  have p3 := hB.cell 3
  simp at p0 p1 p2 p3
  have HB := Lib.hid (((Below.refl w.heap.size w).alloc (Nat.le_refl _) _).trans (hb1.mono (by rw [World.size_alloc]; omega)))
  clear hB hb1
  go_wp2_with (fail)
  all_goals
    go_ret
    refine ⟨ret_i64 ?_, HB.out.alloc HB.out.size _⟩
    have hc := HC.out
    clear HC HROW HB
    subst hc
    first | rfl | simp_all
set_option maxRecDepth 100000 in
set_option maxHeartbeats 4000000 in
theorem moreI_7 (o d s n : Int) (w : World) (h0 : 0 ≤ o) (h : shO o = ⟨true, -1, false, false, true, false, false⟩) : Calls Try.prog 81 #[.agg #[.int .u8 o, .int .i64 d, .int .i64 s, .int .i64 n]] w (Quiet (.int .i64 (moreI ⟨o, d, s, n⟩)) w) := by
  have hrow := fun W => shape_any o W h0
  have hR : ∀ w e w', IsSh o w e w' → e = .returned (.agg #[.bool true, .int .i64 (-1), .bool false, .bool false, .bool true, .bool false, .bool false]) ∧ Below w.heap.size w w' := fun w e w' hh => ⟨by rw [hh.1, h]; rfl, hh.2⟩
  have hone : moreI ⟨o, d, s, n⟩ = 1 := by simp [moreI, codeI, rightI, moreI, h]
  obtain ⟨C, hC⟩ : ∃ C, moreI ⟨o, d, s, n⟩ = C := ⟨_, rfl⟩
  rw [hC] at hone ⊢
  have HC := Lib.hid hone
  have HROW := Lib.hid fun w => (hrow w).mono (hR w)
  clear hrow hR hone h hC
  go_enter Try.func81, Try.ntmps81
  go_wp2_with fail
  refine (HROW.out _).mono ?_
  rintro e w1 ⟨rfl, hb1⟩
  have hB := ((Blk.new w 31 #[.int .u8 o, .int .i64 d, .int .i64 s, .int .i64 n]).below hb1).alloc (.cells #[.bool true, .int .i64 (-1), .bool false, .bool false, .bool true, .bool false, .bool false] 82)
  have p0 := hB.cell 0
  have p1 := hB.cell 1
  have p2 := hB.cell 2
  have p3 := hB.cell 3
  simp at p0 p1 p2 p3
  have HB := Lib.hid (((Below.refl w.heap.size w).alloc (Nat.le_refl _) _).trans (hb1.mono (by rw [World.size_alloc]; omega)))
  clear hB hb1
  go_wp2_with (fail)
  all_goals
    go_ret
    refine ⟨ret_i64 ?_, HB.out.alloc HB.out.size _⟩
    have hc := HC.out
    clear HC HROW HB
    subst hc
    first | rfl | simp_all
set_option maxRecDepth 100000 in
set_option maxHeartbeats 4000000 in
theorem moreI_8 (o d s n : Int) (w : World) (h0 : 0 ≤ o) (h : shO o = ⟨true, -1, false, false, false, true, false⟩) : Calls Try.prog 81 #[.agg #[.int .u8 o, .int .i64 d, .int .i64 s, .int .i64 n]] w (Quiet (.int .i64 (moreI ⟨o, d, s, n⟩)) w) := by
  have hrow := fun W => shape_any o W h0
  have hR : ∀ w e w', IsSh o w e w' → e = .returned (.agg #[.bool true, .int .i64 (-1), .bool false, .bool false, .bool false, .bool true, .bool false]) ∧ Below w.heap.size w w' := fun w e w' hh => ⟨by rw [hh.1, h]; rfl, hh.2⟩
  have hone : moreI ⟨o, d, s, n⟩ = 1 := by simp [moreI, codeI, rightI, moreI, h]
  obtain ⟨C, hC⟩ : ∃ C, moreI ⟨o, d, s, n⟩ = C := ⟨_, rfl⟩
  rw [hC] at hone ⊢
  have HC := Lib.hid hone
  have HROW := Lib.hid fun w => (hrow w).mono (hR w)
  clear hrow hR hone h hC
  go_enter Try.func81, Try.ntmps81
  go_wp2_with fail
  refine (HROW.out _).mono ?_
  rintro e w1 ⟨rfl, hb1⟩
  have hB := ((Blk.new w 31 #[.int .u8 o, .int .i64 d, .int .i64 s, .int .i64 n]).below hb1).alloc (.cells #[.bool true, .int .i64 (-1), .bool false, .bool false, .bool false, .bool true, .bool false] 82)
  have p0 := hB.cell 0
  have p1 := hB.cell 1
  have p2 := hB.cell 2
  have p3 := hB.cell 3
  simp at p0 p1 p2 p3
  have HB := Lib.hid (((Below.refl w.heap.size w).alloc (Nat.le_refl _) _).trans (hb1.mono (by rw [World.size_alloc]; omega)))
  clear hB hb1
  go_wp2_with (fail)
  all_goals
    go_ret
    refine ⟨ret_i64 ?_, HB.out.alloc HB.out.size _⟩
    have hc := HC.out
    clear HC HROW HB
    subst hc
    first | rfl | simp_all
set_option maxRecDepth 100000 in
set_option maxHeartbeats 4000000 in
theorem moreI_9 (o d s n : Int) (w : World) (h0 : 0 ≤ o) (h : shO o = ⟨true, -1, false, false, false, false, true⟩) : Calls Try.prog 81 #[.agg #[.int .u8 o, .int .i64 d, .int .i64 s, .int .i64 n]] w (Quiet (.int .i64 (moreI ⟨o, d, s, n⟩)) w) := by
  have hrow := fun W => shape_any o W h0
  have hR : ∀ w e w', IsSh o w e w' → e = .returned (.agg #[.bool true, .int .i64 (-1), .bool false, .bool false, .bool false, .bool false, .bool true]) ∧ Below w.heap.size w w' := fun w e w' hh => ⟨by rw [hh.1, h]; rfl, hh.2⟩
  have hone : moreI ⟨o, d, s, n⟩ = 2 := by simp [moreI, codeI, rightI, moreI, h]
  obtain ⟨C, hC⟩ : ∃ C, moreI ⟨o, d, s, n⟩ = C := ⟨_, rfl⟩
  rw [hC] at hone ⊢
  have HC := Lib.hid hone
  have HROW := Lib.hid fun w => (hrow w).mono (hR w)
  clear hrow hR hone h hC
  go_enter Try.func81, Try.ntmps81
  go_wp2_with fail
  refine (HROW.out _).mono ?_
  rintro e w1 ⟨rfl, hb1⟩
  have hB := ((Blk.new w 31 #[.int .u8 o, .int .i64 d, .int .i64 s, .int .i64 n]).below hb1).alloc (.cells #[.bool true, .int .i64 (-1), .bool false, .bool false, .bool false, .bool false, .bool true] 82)
  have p0 := hB.cell 0
  have p1 := hB.cell 1
  have p2 := hB.cell 2
  have p3 := hB.cell 3
  simp at p0 p1 p2 p3
  have HB := Lib.hid (((Below.refl w.heap.size w).alloc (Nat.le_refl _) _).trans (hb1.mono (by rw [World.size_alloc]; omega)))
  clear hB hb1
  go_wp2_with (fail)
  all_goals
    go_ret
    refine ⟨ret_i64 ?_, HB.out.alloc HB.out.size _⟩
    have hc := HC.out
    clear HC HROW HB
    subst hc
    first | rfl | simp_all
end Go.Proofs.Ytebmgladdgmmeaa
