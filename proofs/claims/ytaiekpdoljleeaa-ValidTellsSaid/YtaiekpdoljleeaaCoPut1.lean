/- An instruction put into bytes, class by class: walks. Conditions: a right one, at a place from 0 to 65535. -/
import Derived.Test.YtaiekpdoljleeaaCoLim
namespace Go.Proofs.Ytaiekpdoljleeaa
open Go.RowKit Go.WideShapes
set_option linter.unusedVariables false
set_option linter.unusedSimpArgs false
set_option maxRecDepth 100000 in
set_option maxHeartbeats 4000000 in
theorem put_ok_1 (o d s n a : Int) (w : World) (h0 : 0 ≤ o) (h : shO o = ⟨true, -1, false, false, false, false, false⟩) (hr : rightI ⟨o, d, s, n⟩ = true) (a0 : 0 ≤ a) (a1 : a ≤ 65535) : Calls Try.prog 20 #[.agg #[.int .u8 o, .int .i64 d, .int .i64 s, .int .i64 n], .int .i64 a] w (IsBytes ((o * 8 + d) :: []) w) := by
  have hrow := fun W => shape_any o W h0
  have hR : ∀ w e w', IsSh o w e w' → e = .returned (.agg #[.bool true, .int .i64 (-1), .bool false, .bool false, .bool false, .bool false, .bool false]) ∧ Below w.heap.size w w' := fun w e w' hh => ⟨by rw [hh.1, h]; rfl, hh.2⟩
  have HROW := Lib.hid fun w => (hrow w).mono (hR w)
  have ho : o ≤ 30 := op_le (by rw [h]; simp)
  have hlim := (lim_1 o d s n h).1 hr
  have hrt := fun W => rightI_any ⟨o, d, s, n⟩ W h0
  unfold codeI at hrt
  rw [hr] at hrt
  simp only [if_true] at hrt
  unfold In.agg at hrt
  simp only at hrt
  have HRT := Lib.hid hrt
  have hmo := fun W => moreI_any ⟨o, d, s, n⟩ W h0
  have hme : moreI ⟨o, d, s, n⟩ = 0 := by simp [moreI, h]
  rw [hme] at hmo
  unfold In.agg at hmo
  simp only at hmo
  have HMO := Lib.hid hmo
  clear hrow hR h hr hrt hmo hme
  have zd : d = 0 := by omega
  have zs : s = 0 := by omega
  have zn : n = 0 := by omega
  subst zd
  subst zs
  subst zn
  have hor := or_first o 0 h0 ho (by omega) (by omega)
  go_enter Try.func20, Try.ntmps20
  go_wp2_with fail
  refine (HROW.out _).mono ?_
  rintro e w1 ⟨rfl, hb1⟩
  have hB := ((Blk.new w 36 #[.int .u8 o, .int .i64 0, .int .i64 0, .int .i64 0]).below hb1).alloc (.cells #[.bool true, .int .i64 (-1), .bool false, .bool false, .bool false, .bool false, .bool false] 75)
  have hW := Blk.new w1 75 #[.bool true, .int .i64 (-1), .bool false, .bool false, .bool false, .bool false, .bool false]
  have p0 := hB.cell 0
  have p1 := hB.cell 1
  have p2 := hB.cell 2
  have p3 := hB.cell 3
  simp at p0 p1 p2 p3
  have HBB := Lib.hid hB
  have HWW := Lib.hid hW
  have HB := Lib.hid (((Below.refl w.heap.size w).alloc (Nat.le_refl _) _).trans (hb1.mono (by rw [World.size_alloc]; omega)))
  clear hB hW hb1
  go_wp2_with fail
  refine (HRT.out _).mono ?_
  rintro e w2 ⟨rfl, hb2⟩
  have hB := HBB.out.below hb2
  have hW := HWW.out.below hb2
  have hq0 := hB.cell 0
  have hq1 := hB.cell 1
  have hq2 := hB.cell 2
  have hq3 := hB.cell 3
  have hs0 := hW.cell 0
  have hs1 := hW.cell 1
  have hs2 := hW.cell 2
  have hs3 := hW.cell 3
  have hs4 := hW.cell 4
  have hs5 := hW.cell 5
  have hs6 := hW.cell 6
  simp at hq0 hq1 hq2 hq3 hs0 hs1 hs2 hs3 hs4 hs5 hs6
  have HB2 := Lib.hid (ch1 HB.out hb2)
  have hB3 := hB.alloc (.cells #[.int .u8 (o * 8)] 5)
  have hW3 := hW.alloc (.cells #[.int .u8 (o * 8)] 5)
  have hr0 := hB3.cell 0
  have hr1 := hB3.cell 1
  have hr2 := hB3.cell 2
  have hr3 := hB3.cell 3
  have ht2 := hW3.cell 2
  have ht3 := hW3.cell 3
  have ht4 := hW3.cell 4
  have ht5 := hW3.cell 5
  have ht6 := hW3.cell 6
  simp at hr0 hr1 hr2 hr3 ht2 ht3 ht4 ht5 ht6
  have O3 := Lib.hid (World.ownsRow_lit (size := 1) w2 #[.int .u8 (o * 8)] 1 (e := 5) HB2.out.size (by unfold maxLen; omega) rfl)
  have HB3 := Lib.hid (HB2.out.alloc HB2.out.size (.cells #[.int .u8 (o * 8)] 5))
  have HBX := Lib.hid hB3
  clear hB hW hb2 p0 p1 p2 p3 hB3 hW3
  go_wp2_with fail
  refine (HMO.out _).mono ?_
  rintro e w3 ⟨rfl, hb3⟩
  have hx3 := (HBX.out.below hb3).cell 3
  simp at hx3
  have O5 := Lib.hid (own_below O3.out hb3)
  have HB5 := Lib.hid (ch0 HB3.out hb3)
  clear hb3
  go_wp2_with fail
  go_ret2
  exact bytes_close O5.out (by simp [octs]) (Nat.le_refl _) HB5.out
set_option maxRecDepth 100000 in
set_option maxHeartbeats 4000000 in
theorem put_ok_2 (o d s n a : Int) (w : World) (h0 : 0 ≤ o) (h : shO o = ⟨true, 6, true, false, false, false, false⟩) (hr : rightI ⟨o, d, s, n⟩ = true) (a0 : 0 ≤ a) (a1 : a ≤ 65535) : Calls Try.prog 20 #[.agg #[.int .u8 o, .int .i64 d, .int .i64 s, .int .i64 n], .int .i64 a] w (IsBytes ((o * 8 + d) :: [s]) w) := by
  have hrow := fun W => shape_any o W h0
  have hR : ∀ w e w', IsSh o w e w' → e = .returned (.agg #[.bool true, .int .i64 (6), .bool true, .bool false, .bool false, .bool false, .bool false]) ∧ Below w.heap.size w w' := fun w e w' hh => ⟨by rw [hh.1, h]; rfl, hh.2⟩
  have HROW := Lib.hid fun w => (hrow w).mono (hR w)
  have ho : o ≤ 30 := op_le (by rw [h]; simp)
  have hlim := (lim_2 o d s n h).1 hr
  have hrt := fun W => rightI_any ⟨o, d, s, n⟩ W h0
  unfold codeI at hrt
  rw [hr] at hrt
  simp only [if_true] at hrt
  unfold In.agg at hrt
  simp only at hrt
  have HRT := Lib.hid hrt
  have hmo := fun W => moreI_any ⟨o, d, s, n⟩ W h0
  have hme : moreI ⟨o, d, s, n⟩ = 1 := by simp [moreI, h]
  rw [hme] at hmo
  unfold In.agg at hmo
  simp only at hmo
  have HMO := Lib.hid hmo
  clear hrow hR h hr hrt hmo hme
  have zn : n = 0 := by omega
  subst zn
  have hor := or_first o d h0 ho (by omega) (by omega)
  go_enter Try.func20, Try.ntmps20
  go_wp2_with fail
  refine (HROW.out _).mono ?_
  rintro e w1 ⟨rfl, hb1⟩
  have hB := ((Blk.new w 36 #[.int .u8 o, .int .i64 d, .int .i64 s, .int .i64 0]).below hb1).alloc (.cells #[.bool true, .int .i64 (6), .bool true, .bool false, .bool false, .bool false, .bool false] 75)
  have hW := Blk.new w1 75 #[.bool true, .int .i64 (6), .bool true, .bool false, .bool false, .bool false, .bool false]
  have p0 := hB.cell 0
  have p1 := hB.cell 1
  have p2 := hB.cell 2
  have p3 := hB.cell 3
  simp at p0 p1 p2 p3
  have HBB := Lib.hid hB
  have HWW := Lib.hid hW
  have HB := Lib.hid (((Below.refl w.heap.size w).alloc (Nat.le_refl _) _).trans (hb1.mono (by rw [World.size_alloc]; omega)))
  clear hB hW hb1
  go_wp2_with fail
  refine (HRT.out _).mono ?_
  rintro e w2 ⟨rfl, hb2⟩
  have hB := HBB.out.below hb2
  have hW := HWW.out.below hb2
  have hq0 := hB.cell 0
  have hq1 := hB.cell 1
  have hq2 := hB.cell 2
  have hq3 := hB.cell 3
  have hs0 := hW.cell 0
  have hs1 := hW.cell 1
  have hs2 := hW.cell 2
  have hs3 := hW.cell 3
  have hs4 := hW.cell 4
  have hs5 := hW.cell 5
  have hs6 := hW.cell 6
  simp at hq0 hq1 hq2 hq3 hs0 hs1 hs2 hs3 hs4 hs5 hs6
  have HB2 := Lib.hid (ch1 HB.out hb2)
  have hB3 := hB.alloc (.cells #[.int .u8 (o * 8 + d)] 5)
  have hW3 := hW.alloc (.cells #[.int .u8 (o * 8 + d)] 5)
  have hr0 := hB3.cell 0
  have hr1 := hB3.cell 1
  have hr2 := hB3.cell 2
  have hr3 := hB3.cell 3
  have ht2 := hW3.cell 2
  have ht3 := hW3.cell 3
  have ht4 := hW3.cell 4
  have ht5 := hW3.cell 5
  have ht6 := hW3.cell 6
  simp at hr0 hr1 hr2 hr3 ht2 ht3 ht4 ht5 ht6
  have O3 := Lib.hid (World.ownsRow_lit (size := 1) w2 #[.int .u8 (o * 8 + d)] 1 (e := 5) HB2.out.size (by unfold maxLen; omega) rfl)
  have HB3 := Lib.hid (HB2.out.alloc HB2.out.size (.cells #[.int .u8 (o * 8 + d)] 5))
  have HBX := Lib.hid hB3
  clear hB hW hb2 p0 p1 p2 p3 hB3 hW3
  go_wp2_with (at_builtin; refine wpList_app1 tBytes rfl (.tmp 77) (.tmp 81) rfl w.heap.size _ 1 [.int .u8 (o * 8 + d)] rfl O3.out (.int .u8 (s)) (by rfl) _ rfl (by first | rfl | simp) (by omega) (by unfold maxLen; omega) HB3.out.size ?_; intro v4 w4 o4 _ hb4)
  go_ret2
  exact bytes_close o4 (by simp [octs]) (Nat.le_refl _) (HB3.out.trans hb4)
set_option maxRecDepth 100000 in
set_option maxHeartbeats 4000000 in
theorem put_ok_3 (o d s n a : Int) (w : World) (h0 : 0 ≤ o) (h : shO o = ⟨true, 6, false, false, true, false, false⟩) (hr : rightI ⟨o, d, s, n⟩ = true) (a0 : 0 ≤ a) (a1 : a ≤ 65535) : Calls Try.prog 20 #[.agg #[.int .u8 o, .int .i64 d, .int .i64 s, .int .i64 n], .int .i64 a] w (IsBytes ((o * 8 + d) :: [n]) w) := by
  have hrow := fun W => shape_any o W h0
  have hR : ∀ w e w', IsSh o w e w' → e = .returned (.agg #[.bool true, .int .i64 (6), .bool false, .bool false, .bool true, .bool false, .bool false]) ∧ Below w.heap.size w w' := fun w e w' hh => ⟨by rw [hh.1, h]; rfl, hh.2⟩
  have HROW := Lib.hid fun w => (hrow w).mono (hR w)
  have ho : o ≤ 30 := op_le (by rw [h]; simp)
  have hlim := (lim_3 o d s n h).1 hr
  have hrt := fun W => rightI_any ⟨o, d, s, n⟩ W h0
  unfold codeI at hrt
  rw [hr] at hrt
  simp only [if_true] at hrt
  unfold In.agg at hrt
  simp only at hrt
  have HRT := Lib.hid hrt
  have hmo := fun W => moreI_any ⟨o, d, s, n⟩ W h0
  have hme : moreI ⟨o, d, s, n⟩ = 1 := by simp [moreI, h]
  rw [hme] at hmo
  unfold In.agg at hmo
  simp only at hmo
  have HMO := Lib.hid hmo
  clear hrow hR h hr hrt hmo hme
  have zs : s = 0 := by omega
  subst zs
  have hor := or_first o d h0 ho (by omega) (by omega)
  go_enter Try.func20, Try.ntmps20
  go_wp2_with fail
  refine (HROW.out _).mono ?_
  rintro e w1 ⟨rfl, hb1⟩
  have hB := ((Blk.new w 36 #[.int .u8 o, .int .i64 d, .int .i64 0, .int .i64 n]).below hb1).alloc (.cells #[.bool true, .int .i64 (6), .bool false, .bool false, .bool true, .bool false, .bool false] 75)
  have hW := Blk.new w1 75 #[.bool true, .int .i64 (6), .bool false, .bool false, .bool true, .bool false, .bool false]
  have p0 := hB.cell 0
  have p1 := hB.cell 1
  have p2 := hB.cell 2
  have p3 := hB.cell 3
  simp at p0 p1 p2 p3
  have HBB := Lib.hid hB
  have HWW := Lib.hid hW
  have HB := Lib.hid (((Below.refl w.heap.size w).alloc (Nat.le_refl _) _).trans (hb1.mono (by rw [World.size_alloc]; omega)))
  clear hB hW hb1
  go_wp2_with fail
  refine (HRT.out _).mono ?_
  rintro e w2 ⟨rfl, hb2⟩
  have hB := HBB.out.below hb2
  have hW := HWW.out.below hb2
  have hq0 := hB.cell 0
  have hq1 := hB.cell 1
  have hq2 := hB.cell 2
  have hq3 := hB.cell 3
  have hs0 := hW.cell 0
  have hs1 := hW.cell 1
  have hs2 := hW.cell 2
  have hs3 := hW.cell 3
  have hs4 := hW.cell 4
  have hs5 := hW.cell 5
  have hs6 := hW.cell 6
  simp at hq0 hq1 hq2 hq3 hs0 hs1 hs2 hs3 hs4 hs5 hs6
  have HB2 := Lib.hid (ch1 HB.out hb2)
  have hB3 := hB.alloc (.cells #[.int .u8 (o * 8 + d)] 5)
  have hW3 := hW.alloc (.cells #[.int .u8 (o * 8 + d)] 5)
  have hr0 := hB3.cell 0
  have hr1 := hB3.cell 1
  have hr2 := hB3.cell 2
  have hr3 := hB3.cell 3
  have ht2 := hW3.cell 2
  have ht3 := hW3.cell 3
  have ht4 := hW3.cell 4
  have ht5 := hW3.cell 5
  have ht6 := hW3.cell 6
  simp at hr0 hr1 hr2 hr3 ht2 ht3 ht4 ht5 ht6
  have O3 := Lib.hid (World.ownsRow_lit (size := 1) w2 #[.int .u8 (o * 8 + d)] 1 (e := 5) HB2.out.size (by unfold maxLen; omega) rfl)
  have HB3 := Lib.hid (HB2.out.alloc HB2.out.size (.cells #[.int .u8 (o * 8 + d)] 5))
  have HBX := Lib.hid hB3
  clear hB hW hb2 p0 p1 p2 p3 hB3 hW3
  go_wp2_with fail
  refine (HMO.out _).mono ?_
  rintro e w3 ⟨rfl, hb3⟩
  have hx3 := (HBX.out.below hb3).cell 3
  simp at hx3
  have O5 := Lib.hid (own_below O3.out hb3)
  have HB5 := Lib.hid (ch0 HB3.out hb3)
  clear hb3
  go_wp2_with (at_builtin; refine wpList_app1 tBytes rfl (.tmp 87) (.tmp 91) rfl w.heap.size _ 1 [.int .u8 (o * 8 + d)] rfl O5.out (.int .u8 (n)) (by rfl) _ rfl (by first | rfl | simp) (by omega) (by unfold maxLen; omega) HB5.out.size ?_; intro v4 w4 o4 _ hb4)
  go_ret2
  exact bytes_close o4 (by simp [octs]) (Nat.le_refl _) (HB5.out.trans hb4)
set_option maxRecDepth 100000 in
set_option maxHeartbeats 4000000 in
theorem put_ok_4 (o d s n a : Int) (w : World) (h0 : 0 ≤ o) (h : shO o = ⟨true, 6, false, false, false, false, false⟩) (hr : rightI ⟨o, d, s, n⟩ = true) (a0 : 0 ≤ a) (a1 : a ≤ 65535) : Calls Try.prog 20 #[.agg #[.int .u8 o, .int .i64 d, .int .i64 s, .int .i64 n], .int .i64 a] w (IsBytes ((o * 8 + d) :: []) w) := by
  have hrow := fun W => shape_any o W h0
  have hR : ∀ w e w', IsSh o w e w' → e = .returned (.agg #[.bool true, .int .i64 (6), .bool false, .bool false, .bool false, .bool false, .bool false]) ∧ Below w.heap.size w w' := fun w e w' hh => ⟨by rw [hh.1, h]; rfl, hh.2⟩
  have HROW := Lib.hid fun w => (hrow w).mono (hR w)
  have ho : o ≤ 30 := op_le (by rw [h]; simp)
  have hlim := (lim_4 o d s n h).1 hr
  have hrt := fun W => rightI_any ⟨o, d, s, n⟩ W h0
  unfold codeI at hrt
  rw [hr] at hrt
  simp only [if_true] at hrt
  unfold In.agg at hrt
  simp only at hrt
  have HRT := Lib.hid hrt
  have hmo := fun W => moreI_any ⟨o, d, s, n⟩ W h0
  have hme : moreI ⟨o, d, s, n⟩ = 0 := by simp [moreI, h]
  rw [hme] at hmo
  unfold In.agg at hmo
  simp only at hmo
  have HMO := Lib.hid hmo
  clear hrow hR h hr hrt hmo hme
  have zs : s = 0 := by omega
  have zn : n = 0 := by omega
  subst zs
  subst zn
  have hor := or_first o d h0 ho (by omega) (by omega)
  go_enter Try.func20, Try.ntmps20
  go_wp2_with fail
  refine (HROW.out _).mono ?_
  rintro e w1 ⟨rfl, hb1⟩
  have hB := ((Blk.new w 36 #[.int .u8 o, .int .i64 d, .int .i64 0, .int .i64 0]).below hb1).alloc (.cells #[.bool true, .int .i64 (6), .bool false, .bool false, .bool false, .bool false, .bool false] 75)
  have hW := Blk.new w1 75 #[.bool true, .int .i64 (6), .bool false, .bool false, .bool false, .bool false, .bool false]
  have p0 := hB.cell 0
  have p1 := hB.cell 1
  have p2 := hB.cell 2
  have p3 := hB.cell 3
  simp at p0 p1 p2 p3
  have HBB := Lib.hid hB
  have HWW := Lib.hid hW
  have HB := Lib.hid (((Below.refl w.heap.size w).alloc (Nat.le_refl _) _).trans (hb1.mono (by rw [World.size_alloc]; omega)))
  clear hB hW hb1
  go_wp2_with fail
  refine (HRT.out _).mono ?_
  rintro e w2 ⟨rfl, hb2⟩
  have hB := HBB.out.below hb2
  have hW := HWW.out.below hb2
  have hq0 := hB.cell 0
  have hq1 := hB.cell 1
  have hq2 := hB.cell 2
  have hq3 := hB.cell 3
  have hs0 := hW.cell 0
  have hs1 := hW.cell 1
  have hs2 := hW.cell 2
  have hs3 := hW.cell 3
  have hs4 := hW.cell 4
  have hs5 := hW.cell 5
  have hs6 := hW.cell 6
  simp at hq0 hq1 hq2 hq3 hs0 hs1 hs2 hs3 hs4 hs5 hs6
  have HB2 := Lib.hid (ch1 HB.out hb2)
  have hB3 := hB.alloc (.cells #[.int .u8 (o * 8 + d)] 5)
  have hW3 := hW.alloc (.cells #[.int .u8 (o * 8 + d)] 5)
  have hr0 := hB3.cell 0
  have hr1 := hB3.cell 1
  have hr2 := hB3.cell 2
  have hr3 := hB3.cell 3
  have ht2 := hW3.cell 2
  have ht3 := hW3.cell 3
  have ht4 := hW3.cell 4
  have ht5 := hW3.cell 5
  have ht6 := hW3.cell 6
  simp at hr0 hr1 hr2 hr3 ht2 ht3 ht4 ht5 ht6
  have O3 := Lib.hid (World.ownsRow_lit (size := 1) w2 #[.int .u8 (o * 8 + d)] 1 (e := 5) HB2.out.size (by unfold maxLen; omega) rfl)
  have HB3 := Lib.hid (HB2.out.alloc HB2.out.size (.cells #[.int .u8 (o * 8 + d)] 5))
  have HBX := Lib.hid hB3
  clear hB hW hb2 p0 p1 p2 p3 hB3 hW3
  go_wp2_with fail
  refine (HMO.out _).mono ?_
  rintro e w3 ⟨rfl, hb3⟩
  have hx3 := (HBX.out.below hb3).cell 3
  simp at hx3
  have O5 := Lib.hid (own_below O3.out hb3)
  have HB5 := Lib.hid (ch0 HB3.out hb3)
  clear hb3
  go_wp2_with fail
  go_ret2
  exact bytes_close O5.out (by simp [octs]) (Nat.le_refl _) HB5.out
set_option maxRecDepth 100000 in
set_option maxHeartbeats 4000000 in
theorem put_ok_5s7 (o d n a : Int) (w : World) (h0 : 0 ≤ o) (h : shO o = ⟨true, -1, false, true, false, false, false⟩) (hr : rightI ⟨o, d, 7, n⟩ = true) (a0 : 0 ≤ a) (a1 : a ≤ 65535) : Calls Try.prog 20 #[.agg #[.int .u8 o, .int .i64 d, .int .i64 7, .int .i64 n], .int .i64 a] w (IsBytes ((o * 8 + 7) :: [n]) w) := by
  have hrow := fun W => shape_any o W h0
  have hR : ∀ w e w', IsSh o w e w' → e = .returned (.agg #[.bool true, .int .i64 (-1), .bool false, .bool true, .bool false, .bool false, .bool false]) ∧ Below w.heap.size w w' := fun w e w' hh => ⟨by rw [hh.1, h]; rfl, hh.2⟩
  have HROW := Lib.hid fun w => (hrow w).mono (hR w)
  have ho : o ≤ 30 := op_le (by rw [h]; simp)
  have hlim := (lim_5 o d 7 n h).1 hr
  have hrt := fun W => rightI_any ⟨o, d, 7, n⟩ W h0
  unfold codeI at hrt
  rw [hr] at hrt
  simp only [if_true] at hrt
  unfold In.agg at hrt
  simp only at hrt
  have HRT := Lib.hid hrt
  have hmo := fun W => moreI_any ⟨o, d, 7, n⟩ W h0
  have hme : moreI ⟨o, d, 7, n⟩ = 1 := by simp [moreI, h]
  rw [hme] at hmo
  unfold In.agg at hmo
  simp only at hmo
  have HMO := Lib.hid hmo
  clear hrow hR h hr hrt hmo hme
  have zd : d = 0 := by omega
  subst zd
  have hor := or_first o 7 h0 ho (by omega) (by omega)
  go_enter Try.func20, Try.ntmps20
  go_wp2_with fail
  refine (HROW.out _).mono ?_
  rintro e w1 ⟨rfl, hb1⟩
  have hB := ((Blk.new w 36 #[.int .u8 o, .int .i64 0, .int .i64 7, .int .i64 n]).below hb1).alloc (.cells #[.bool true, .int .i64 (-1), .bool false, .bool true, .bool false, .bool false, .bool false] 75)
  have hW := Blk.new w1 75 #[.bool true, .int .i64 (-1), .bool false, .bool true, .bool false, .bool false, .bool false]
  have p0 := hB.cell 0
  have p1 := hB.cell 1
  have p2 := hB.cell 2
  have p3 := hB.cell 3
  simp at p0 p1 p2 p3
  have HBB := Lib.hid hB
  have HWW := Lib.hid hW
  have HB := Lib.hid (((Below.refl w.heap.size w).alloc (Nat.le_refl _) _).trans (hb1.mono (by rw [World.size_alloc]; omega)))
  clear hB hW hb1
  go_wp2_with fail
  refine (HRT.out _).mono ?_
  rintro e w2 ⟨rfl, hb2⟩
  have hB := HBB.out.below hb2
  have hW := HWW.out.below hb2
  have hq0 := hB.cell 0
  have hq1 := hB.cell 1
  have hq2 := hB.cell 2
  have hq3 := hB.cell 3
  have hs0 := hW.cell 0
  have hs1 := hW.cell 1
  have hs2 := hW.cell 2
  have hs3 := hW.cell 3
  have hs4 := hW.cell 4
  have hs5 := hW.cell 5
  have hs6 := hW.cell 6
  simp at hq0 hq1 hq2 hq3 hs0 hs1 hs2 hs3 hs4 hs5 hs6
  have HB2 := Lib.hid (ch1 HB.out hb2)
  have hB3 := hB.alloc (.cells #[.int .u8 (o * 8 + 7)] 5)
  have hW3 := hW.alloc (.cells #[.int .u8 (o * 8 + 7)] 5)
  have hr0 := hB3.cell 0
  have hr1 := hB3.cell 1
  have hr2 := hB3.cell 2
  have hr3 := hB3.cell 3
  have ht2 := hW3.cell 2
  have ht3 := hW3.cell 3
  have ht4 := hW3.cell 4
  have ht5 := hW3.cell 5
  have ht6 := hW3.cell 6
  simp at hr0 hr1 hr2 hr3 ht2 ht3 ht4 ht5 ht6
  have O3 := Lib.hid (World.ownsRow_lit (size := 1) w2 #[.int .u8 (o * 8 + 7)] 1 (e := 5) HB2.out.size (by unfold maxLen; omega) rfl)
  have HB3 := Lib.hid (HB2.out.alloc HB2.out.size (.cells #[.int .u8 (o * 8 + 7)] 5))
  have HBX := Lib.hid hB3
  clear hB hW hb2 p0 p1 p2 p3 hB3 hW3
  go_wp2_with fail
  refine (HMO.out _).mono ?_
  rintro e w3 ⟨rfl, hb3⟩
  have hx3 := (HBX.out.below hb3).cell 3
  simp at hx3
  have O5 := Lib.hid (own_below O3.out hb3)
  have HB5 := Lib.hid (ch0 HB3.out hb3)
  clear hb3
  go_wp2_with (at_builtin; refine wpList_app1 tBytes rfl (.tmp 87) (.tmp 91) rfl w.heap.size _ 1 [.int .u8 (o * 8 + 7)] rfl O5.out (.int .u8 (n)) (by rfl) _ rfl (by first | rfl | simp) (by omega) (by unfold maxLen; omega) HB5.out.size ?_; intro v4 w4 o4 _ hb4)
  go_ret2
  exact bytes_close o4 (by simp [octs]) (Nat.le_refl _) (HB5.out.trans hb4)
end Go.Proofs.Ytaiekpdoljleeaa
