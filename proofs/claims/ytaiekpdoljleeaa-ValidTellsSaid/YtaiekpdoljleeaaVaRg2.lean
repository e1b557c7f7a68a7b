/- The reference of chapter 15: Get, case by case: walks. Conditions: a place within, at most 65536 bytes. -/
import Derived.Test.YtaiekpdoljleeaaVaRf
import Derived.Test.YtaiekpdoljleeaaCoGp
import Derived.Test.YtaiekpdoljleeaaCoG0
namespace Go.Proofs.Ytaiekpdoljleeaa
open Go.RowKit Go.WideShapes
set_option linter.unusedVariables false
set_option linter.unusedSimpArgs false
set_option maxRecDepth 100000 in
set_option maxHeartbeats 8000000 in
theorem getR_4low (bs : List Int) (A : Option Addr) (n c a : Nat) (w : World) (b o low : Int) (hn : n = bs.length) (ho : Oct bs) (hr : Rd w A (octs bs)) (hlt : a < n) (hn2 : n ≤ 65536) (hb : bs.getD a 0 = b) (hbo : b / 8 = o) (hbl : b % 8 = low) (h : shO o = ⟨true, 6, false, false, false, false, false⟩) (hc : cls o = 4) (k1 : 6 < low) : Calls Try.prog 54 #[.slice A n c, .int .i64 a] w (IsGot (getN bs a) w) := by
  have hgn := getN_4low bs n a b o low hn ho hlt hb hbo hbl h k1
  have HGN := Lib.hid hgn
  have hbb := ho.getD a
  rw [hb] at hbb
  have b0 := hbb.1
  have b1 := hbb.2
  have l0 : 0 ≤ low := by omega
  have l1 : low ≤ 7 := by omega
  have o0 : 0 ≤ o := by omega
  have o1 : o ≤ 31 := by omega
  obtain ⟨blk, off, rfl, hbk, hcell⟩ := hr (by rw [octs_length]; omega)
  have hcl : ∀ k W, k < n → Below w.heap.size w W → W.cell? ⟨blk, off + k, none⟩ = some (.int .u8 (bs.getD k 0)) := fun k W hk hW => (hW.cell (p := ⟨blk, off + k, none⟩) hbk).trans (hcell k _ (octs_at (by omega)))
  have hclass := fun W => class15 o W o0
  rw [hc] at hclass
  have HCL := Lib.hid hclass
  have BA : Below w.heap.size w (w.alloc (.cells #[.int .u8 0, .int .i64 0, .int .i64 0, .int .i64 0] 36)) := (Below.refl _ _).alloc (Nat.le_refl _) _
  have BQ : Below w.heap.size w ((w.alloc (.cells #[.int .u8 0, .int .i64 0, .int .i64 0, .int .i64 0] 36)).alloc (.cells #[.int .u8 o, .int .i64 0, .int .i64 0, .int .i64 0] 36)) := BA.alloc BA.size _
  have c0 := hcl a _ hlt BA
  rw [hb] at c0
  have c1 := hcl a _ hlt BQ
  rw [hb] at c1
  have g0 : decide ((a : Int) < 0) = false := by simp
  have g1 : decide ((n : Int) ≤ (a : Int)) = false := by simp; omega
  have g1n : decide (n ≤ a) = false := by simp; omega
  have g2 : decide ((65536 : Int) < (n : Int)) = false := by simp; omega
  have g3 : (a : Int) < (n : Int) := by omega
  have hwl : IntKind.i64.wrap low = low := IntWalk.i64_in _ (by omega)
  have nb2 : ¬ w.heap.size + 1 = blk := by omega
  have nb3 : ¬ blk = w.heap.size + 1 := by omega
  obtain rfl : low = 7 := by omega
  have HCC := Lib.hid hcl
  have HBB := Lib.hid BA
  try clear hr
  clear hgn hn ho hb hbb hcell hcl hclass h hc BA BQ hlt
  go_enter Try.func54, Try.ntmps54
  go_wp2_with (go_at_call 64; refine (HCL.out _).mono ?_; rintro e w1 ⟨rfl, rfl⟩)
  exact bodyPost_ret (v := .tuple #[.agg #[.int .u8 0, .int .i64 0, .int .i64 0, .int .i64 0], .int .i64 0, .int .i64 110]) (by simp [results, Try.results54, go_sem]) rfl ⟨by rw [HGN.out]; rfl, by repeat (first | exact Below.refl _ _ | (refine Below.setCell ?_ (by simp) _) | (refine Below.alloc ?_ (by simp; try omega) _))⟩
set_option maxRecDepth 100000 in
set_option maxHeartbeats 8000000 in
theorem getR_4ok (bs : List Int) (A : Option Addr) (n c a : Nat) (w : World) (b o low : Int) (hn : n = bs.length) (ho : Oct bs) (hr : Rd w A (octs bs)) (hlt : a < n) (hn2 : n ≤ 65536) (hb : bs.getD a 0 = b) (hbo : b / 8 = o) (hbl : b % 8 = low) (h : shO o = ⟨true, 6, false, false, false, false, false⟩) (hc : cls o = 4) (k1 : low ≤ 6) : Calls Try.prog 54 #[.slice A n c, .int .i64 a] w (IsGot (getN bs a) w) := by
  have hgn := getN_4ok bs n a b o low hn ho hlt hb hbo hbl h k1
  have HGN := Lib.hid hgn
  have hbb := ho.getD a
  rw [hb] at hbb
  have b0 := hbb.1
  have b1 := hbb.2
  have l0 : 0 ≤ low := by omega
  have l1 : low ≤ 7 := by omega
  have o0 : 0 ≤ o := by omega
  have o1 : o ≤ 31 := by omega
  obtain ⟨blk, off, rfl, hbk, hcell⟩ := hr (by rw [octs_length]; omega)
  have hcl : ∀ k W, k < n → Below w.heap.size w W → W.cell? ⟨blk, off + k, none⟩ = some (.int .u8 (bs.getD k 0)) := fun k W hk hW => (hW.cell (p := ⟨blk, off + k, none⟩) hbk).trans (hcell k _ (octs_at (by omega)))
  have hclass := fun W => class15 o W o0
  rw [hc] at hclass
  have HCL := Lib.hid hclass
  have BA : Below w.heap.size w (w.alloc (.cells #[.int .u8 0, .int .i64 0, .int .i64 0, .int .i64 0] 36)) := (Below.refl _ _).alloc (Nat.le_refl _) _
  have BQ : Below w.heap.size w ((w.alloc (.cells #[.int .u8 0, .int .i64 0, .int .i64 0, .int .i64 0] 36)).alloc (.cells #[.int .u8 o, .int .i64 0, .int .i64 0, .int .i64 0] 36)) := BA.alloc BA.size _
  have c0 := hcl a _ hlt BA
  rw [hb] at c0
  have c1 := hcl a _ hlt BQ
  rw [hb] at c1
  have g0 : decide ((a : Int) < 0) = false := by simp
  have g1 : decide ((n : Int) ≤ (a : Int)) = false := by simp; omega
  have g1n : decide (n ≤ a) = false := by simp; omega
  have g2 : decide ((65536 : Int) < (n : Int)) = false := by simp; omega
  have g3 : (a : Int) < (n : Int) := by omega
  have hwl : IntKind.i64.wrap low = low := IntWalk.i64_in _ (by omega)
  have nb2 : ¬ w.heap.size + 1 = blk := by omega
  have nb3 : ¬ blk = w.heap.size + 1 := by omega
  have q1 : (low == 7) = false := by simp; omega
  have hrt : codeI ⟨o, low, 0, 0⟩ = 0 := by
    unfold codeI
    rw [if_pos]
    exact (lim_4 _ _ _ _ h).2 (by omega)
  have HRT := Lib.hid hrt
  have hrc := fun W => right15 ⟨o, low, 0, 0⟩ W o0
  have HRC := Lib.hid hrc
  have hz4 := (Blk.new w 36 #[.int .u8 0, .int .i64 0, .int .i64 0, .int .i64 0]).alloc (.cells #[.int .u8 o, .int .i64 low, .int .i64 0, .int .i64 (0)] 36)
  have hq4 := Blk.new (w.alloc (.cells #[.int .u8 0, .int .i64 0, .int .i64 0, .int .i64 0] 36)) 36 #[.int .u8 o, .int .i64 low, .int .i64 0, .int .i64 (0)]
  rw [World.size_alloc] at hq4
  have HZ := Lib.hid hz4
  have HQ := Lib.hid hq4
  have HBI := Lib.hid (BA.alloc BA.size (.cells #[.int .u8 o, .int .i64 low, .int .i64 0, .int .i64 (0)] 36))
  clear hrt hrc hz4 hq4
  have HCC := Lib.hid hcl
  have HBB := Lib.hid BA
  try clear hr
  clear hgn hn ho hb hbb hcell hcl hclass h hc BA BQ hlt
  go_enter Try.func54, Try.ntmps54
  go_wp2_with (go_at_call 64; refine (HCL.out _).mono ?_; rintro e w1 ⟨rfl, rfl⟩)
  refine (HRC.out _).mono ?_
  skip
  rintro e w2 ⟨rfl, hb2⟩
  rw [HRT.out]
  have HZ2 := Lib.hid (HZ.out.below hb2)
  have HQ2 := Lib.hid (HQ.out.below hb2)
  have HB2 := Lib.hid (ch0 HBI.out hb2)
  clear hb2
  have z0 := HZ2.out.cell 0
  have f0 := HZ2.out.frozen 0
  have q0 := HQ2.out.cell 0
  have z1 := HZ2.out.cell 1
  have f1 := HZ2.out.frozen 1
  have q1 := HQ2.out.cell 1
  have z2 := HZ2.out.cell 2
  have f2 := HZ2.out.frozen 2
  have q2 := HQ2.out.cell 2
  have z3 := HZ2.out.cell 3
  have f3 := HZ2.out.frozen 3
  have q3 := HQ2.out.cell 3
  simp at z0 z1 z2 z3 q0 q1 q2 q3
  go_wp2_with fail
  obtain ⟨hz5, hb5⟩ := st4 (.int .u8 o) (.int .i64 low) (.int .i64 0) (.int .i64 (0)) HZ2.out HB2.out (Nat.le_refl _)
  have rr0 := hz5.cell 0
  have rr1 := hz5.cell 1
  have rr2 := hz5.cell 2
  have rr3 := hz5.cell 3
  simp at rr0 rr1 rr2 rr3
  have hret : Ending.returned (.tuple #[.agg #[.int .u8 o, .int .i64 low, .int .i64 0, .int .i64 (0)], .int .i64 ((a : Int) + 1), .int .i64 0]) = .returned (.tuple #[(getN bs a).1.agg, .int .i64 (getN bs a).2.1, .int .i64 (getN bs a).2.2]) := by rw [HGN.out]; rfl
  exact bodyPost_ret (v := .tuple #[.agg #[.int .u8 o, .int .i64 low, .int .i64 0, .int .i64 (0)], .int .i64 ((a : Int) + 1), .int .i64 0]) (by simp [results, Try.results54, go_sem, rr0, rr1, rr2, rr3]) rfl ⟨hret, hb5⟩
set_option maxRecDepth 100000 in
set_option maxHeartbeats 8000000 in
theorem getR_5ok (bs : List Int) (A : Option Addr) (n c a : Nat) (w : World) (b o low : Int) (hn : n = bs.length) (ho : Oct bs) (hr : Rd w A (octs bs)) (hlt : a < n) (hn2 : n ≤ 65536) (hb : bs.getD a 0 = b) (hbo : b / 8 = o) (hbl : b % 8 = low) (h : shO o = ⟨true, -1, false, true, false, false, false⟩) (hc : cls o = 5) (k1 : low ≠ 7) : Calls Try.prog 54 #[.slice A n c, .int .i64 a] w (IsGot (getN bs a) w) := by
  have hgn := getN_5ok bs n a b o low hn ho hlt hb hbo hbl h k1
  have HGN := Lib.hid hgn
  have hbb := ho.getD a
  rw [hb] at hbb
  have b0 := hbb.1
  have b1 := hbb.2
  have l0 : 0 ≤ low := by omega
  have l1 : low ≤ 7 := by omega
  have o0 : 0 ≤ o := by omega
  have o1 : o ≤ 31 := by omega
  obtain ⟨blk, off, rfl, hbk, hcell⟩ := hr (by rw [octs_length]; omega)
  have hcl : ∀ k W, k < n → Below w.heap.size w W → W.cell? ⟨blk, off + k, none⟩ = some (.int .u8 (bs.getD k 0)) := fun k W hk hW => (hW.cell (p := ⟨blk, off + k, none⟩) hbk).trans (hcell k _ (octs_at (by omega)))
  have hclass := fun W => class15 o W o0
  rw [hc] at hclass
  have HCL := Lib.hid hclass
  have BA : Below w.heap.size w (w.alloc (.cells #[.int .u8 0, .int .i64 0, .int .i64 0, .int .i64 0] 36)) := (Below.refl _ _).alloc (Nat.le_refl _) _
  have BQ : Below w.heap.size w ((w.alloc (.cells #[.int .u8 0, .int .i64 0, .int .i64 0, .int .i64 0] 36)).alloc (.cells #[.int .u8 o, .int .i64 0, .int .i64 0, .int .i64 0] 36)) := BA.alloc BA.size _
  have c0 := hcl a _ hlt BA
  rw [hb] at c0
  have c1 := hcl a _ hlt BQ
  rw [hb] at c1
  have g0 : decide ((a : Int) < 0) = false := by simp
  have g1 : decide ((n : Int) ≤ (a : Int)) = false := by simp; omega
  have g1n : decide (n ≤ a) = false := by simp; omega
  have g2 : decide ((65536 : Int) < (n : Int)) = false := by simp; omega
  have g3 : (a : Int) < (n : Int) := by omega
  have hwl : IntKind.i64.wrap low = low := IntWalk.i64_in _ (by omega)
  have nb2 : ¬ w.heap.size + 1 = blk := by omega
  have nb3 : ¬ blk = w.heap.size + 1 := by omega
  have q1 : (low != 7) = true := by simp; omega
  have hrt : codeI ⟨o, 0, low, 0⟩ = 0 := by
    unfold codeI
    rw [if_pos]
    exact (lim_5 _ _ _ _ h).2 (by omega)
  have HRT := Lib.hid hrt
  have hrc := fun W => right15 ⟨o, 0, low, 0⟩ W o0
  have HRC := Lib.hid hrc
  have hz4 := (Blk.new w 36 #[.int .u8 0, .int .i64 0, .int .i64 0, .int .i64 0]).alloc (.cells #[.int .u8 o, .int .i64 0, .int .i64 low, .int .i64 (0)] 36)
  have hq4 := Blk.new (w.alloc (.cells #[.int .u8 0, .int .i64 0, .int .i64 0, .int .i64 0] 36)) 36 #[.int .u8 o, .int .i64 0, .int .i64 low, .int .i64 (0)]
  rw [World.size_alloc] at hq4
  have HZ := Lib.hid hz4
  have HQ := Lib.hid hq4
  have HBI := Lib.hid (BA.alloc BA.size (.cells #[.int .u8 o, .int .i64 0, .int .i64 low, .int .i64 (0)] 36))
  clear hrt hrc hz4 hq4
  have HCC := Lib.hid hcl
  have HBB := Lib.hid BA
  try clear hr
  clear hgn hn ho hb hbb hcell hcl hclass h hc BA BQ hlt
  go_enter Try.func54, Try.ntmps54
  go_wp2_with (go_at_call 64; refine (HCL.out _).mono ?_; rintro e w1 ⟨rfl, rfl⟩)
  refine (HRC.out _).mono ?_
  skip
  rintro e w2 ⟨rfl, hb2⟩
  rw [HRT.out]
  have HZ2 := Lib.hid (HZ.out.below hb2)
  have HQ2 := Lib.hid (HQ.out.below hb2)
  have HB2 := Lib.hid (ch0 HBI.out hb2)
  clear hb2
  have z0 := HZ2.out.cell 0
  have f0 := HZ2.out.frozen 0
  have q0 := HQ2.out.cell 0
  have z1 := HZ2.out.cell 1
  have f1 := HZ2.out.frozen 1
  have q1 := HQ2.out.cell 1
  have z2 := HZ2.out.cell 2
  have f2 := HZ2.out.frozen 2
  have q2 := HQ2.out.cell 2
  have z3 := HZ2.out.cell 3
  have f3 := HZ2.out.frozen 3
  have q3 := HQ2.out.cell 3
  simp at z0 z1 z2 z3 q0 q1 q2 q3
  go_wp2_with fail
  obtain ⟨hz5, hb5⟩ := st4 (.int .u8 o) (.int .i64 0) (.int .i64 low) (.int .i64 (0)) HZ2.out HB2.out (Nat.le_refl _)
  have rr0 := hz5.cell 0
  have rr1 := hz5.cell 1
  have rr2 := hz5.cell 2
  have rr3 := hz5.cell 3
  simp at rr0 rr1 rr2 rr3
  have hret : Ending.returned (.tuple #[.agg #[.int .u8 o, .int .i64 0, .int .i64 low, .int .i64 (0)], .int .i64 ((a : Int) + 1), .int .i64 0]) = .returned (.tuple #[(getN bs a).1.agg, .int .i64 (getN bs a).2.1, .int .i64 (getN bs a).2.2]) := by rw [HGN.out]; rfl
  exact bodyPost_ret (v := .tuple #[.agg #[.int .u8 o, .int .i64 0, .int .i64 low, .int .i64 (0)], .int .i64 ((a : Int) + 1), .int .i64 0]) (by simp [results, Try.results54, go_sem, rr0, rr1, rr2, rr3]) rfl ⟨hret, hb5⟩
set_option maxRecDepth 100000 in
set_option maxHeartbeats 8000000 in
theorem getR_5short (bs : List Int) (A : Option Addr) (n c a : Nat) (w : World) (b o low : Int) (hn : n = bs.length) (ho : Oct bs) (hr : Rd w A (octs bs)) (hlt : a < n) (hn2 : n ≤ 65536) (hb : bs.getD a 0 = b) (hbo : b / 8 = o) (hbl : b % 8 = low) (h : shO o = ⟨true, -1, false, true, false, false, false⟩) (hc : cls o = 5) (k1 : low = 7) (k2 : n < a + 2) : Calls Try.prog 54 #[.slice A n c, .int .i64 a] w (IsGot (getN bs a) w) := by
  have hgn := getN_5short bs n a b o low hn ho hlt hb hbo hbl h k1 k2
  have HGN := Lib.hid hgn
  have hbb := ho.getD a
  rw [hb] at hbb
  have b0 := hbb.1
  have b1 := hbb.2
  have l0 : 0 ≤ low := by omega
  have l1 : low ≤ 7 := by omega
  have o0 : 0 ≤ o := by omega
  have o1 : o ≤ 31 := by omega
  obtain ⟨blk, off, rfl, hbk, hcell⟩ := hr (by rw [octs_length]; omega)
  have hcl : ∀ k W, k < n → Below w.heap.size w W → W.cell? ⟨blk, off + k, none⟩ = some (.int .u8 (bs.getD k 0)) := fun k W hk hW => (hW.cell (p := ⟨blk, off + k, none⟩) hbk).trans (hcell k _ (octs_at (by omega)))
  have hclass := fun W => class15 o W o0
  rw [hc] at hclass
  have HCL := Lib.hid hclass
  have BA : Below w.heap.size w (w.alloc (.cells #[.int .u8 0, .int .i64 0, .int .i64 0, .int .i64 0] 36)) := (Below.refl _ _).alloc (Nat.le_refl _) _
  have BQ : Below w.heap.size w ((w.alloc (.cells #[.int .u8 0, .int .i64 0, .int .i64 0, .int .i64 0] 36)).alloc (.cells #[.int .u8 o, .int .i64 0, .int .i64 0, .int .i64 0] 36)) := BA.alloc BA.size _
  have c0 := hcl a _ hlt BA
  rw [hb] at c0
  have c1 := hcl a _ hlt BQ
  rw [hb] at c1
  have g0 : decide ((a : Int) < 0) = false := by simp
  have g1 : decide ((n : Int) ≤ (a : Int)) = false := by simp; omega
  have g1n : decide (n ≤ a) = false := by simp; omega
  have g2 : decide ((65536 : Int) < (n : Int)) = false := by simp; omega
  have g3 : (a : Int) < (n : Int) := by omega
  have hwl : IntKind.i64.wrap low = low := IntWalk.i64_in _ (by omega)
  have nb2 : ¬ w.heap.size + 1 = blk := by omega
  have nb3 : ¬ blk = w.heap.size + 1 := by omega
  obtain rfl : low = 7 := by omega
  have s1 : decide ((n : Int) ≤ (a : Int) + 1) = true := by simp; omega
  have HCC := Lib.hid hcl
  have HBB := Lib.hid BA
  try clear hr
  clear hgn hn ho hb hbb hcell hcl hclass h hc BA BQ hlt
  go_enter Try.func54, Try.ntmps54
  go_wp2_with (go_at_call 64; refine (HCL.out _).mono ?_; rintro e w1 ⟨rfl, rfl⟩)
  exact bodyPost_ret (v := .tuple #[.agg #[.int .u8 0, .int .i64 0, .int .i64 0, .int .i64 0], .int .i64 0, .int .i64 12]) (by simp [results, Try.results54, go_sem]) rfl ⟨by rw [HGN.out]; rfl, by repeat (first | exact Below.refl _ _ | (refine Below.setCell ?_ (by simp) _) | (refine Below.alloc ?_ (by simp; try omega) _))⟩
set_option maxRecDepth 100000 in
set_option maxHeartbeats 8000000 in
theorem getR_5seven (bs : List Int) (A : Option Addr) (n c a : Nat) (w : World) (b o low : Int) (hn : n = bs.length) (ho : Oct bs) (hr : Rd w A (octs bs)) (hlt : a < n) (hn2 : n ≤ 65536) (hb : bs.getD a 0 = b) (hbo : b / 8 = o) (hbl : b % 8 = low) (h : shO o = ⟨true, -1, false, true, false, false, false⟩) (hc : cls o = 5) (k1 : low = 7) (k2 : a + 2 ≤ n) : Calls Try.prog 54 #[.slice A n c, .int .i64 a] w (IsGot (getN bs a) w) := by
  have hgn := getN_5seven bs n a b o low hn ho hlt hb hbo hbl h k1 k2
  have HGN := Lib.hid hgn
  have hbb := ho.getD a
  rw [hb] at hbb
  have b0 := hbb.1
  have b1 := hbb.2
  have l0 : 0 ≤ low := by omega
  have l1 : low ≤ 7 := by omega
  have o0 : 0 ≤ o := by omega
  have o1 : o ≤ 31 := by omega
  obtain ⟨blk, off, rfl, hbk, hcell⟩ := hr (by rw [octs_length]; omega)
  have hcl : ∀ k W, k < n → Below w.heap.size w W → W.cell? ⟨blk, off + k, none⟩ = some (.int .u8 (bs.getD k 0)) := fun k W hk hW => (hW.cell (p := ⟨blk, off + k, none⟩) hbk).trans (hcell k _ (octs_at (by omega)))
  have hclass := fun W => class15 o W o0
  rw [hc] at hclass
  have HCL := Lib.hid hclass
  have BA : Below w.heap.size w (w.alloc (.cells #[.int .u8 0, .int .i64 0, .int .i64 0, .int .i64 0] 36)) := (Below.refl _ _).alloc (Nat.le_refl _) _
  have BQ : Below w.heap.size w ((w.alloc (.cells #[.int .u8 0, .int .i64 0, .int .i64 0, .int .i64 0] 36)).alloc (.cells #[.int .u8 o, .int .i64 0, .int .i64 0, .int .i64 0] 36)) := BA.alloc BA.size _
  have c0 := hcl a _ hlt BA
  rw [hb] at c0
  have c1 := hcl a _ hlt BQ
  rw [hb] at c1
  have g0 : decide ((a : Int) < 0) = false := by simp
  have g1 : decide ((n : Int) ≤ (a : Int)) = false := by simp; omega
  have g1n : decide (n ≤ a) = false := by simp; omega
  have g2 : decide ((65536 : Int) < (n : Int)) = false := by simp; omega
  have g3 : (a : Int) < (n : Int) := by omega
  have hwl : IntKind.i64.wrap low = low := IntWalk.i64_in _ (by omega)
  have nb2 : ¬ w.heap.size + 1 = blk := by omega
  have nb3 : ¬ blk = w.heap.size + 1 := by omega
  obtain rfl : low = 7 := by omega
  have s1 : decide ((n : Int) ≤ (a : Int) + 1) = false := by simp; omega
  have BP : Below w.heap.size w ((w.alloc (.cells #[.int .u8 0, .int .i64 0, .int .i64 0, .int .i64 0] 36)).alloc (.cells #[.int .u8 o, .int .i64 0, .int .i64 7, .int .i64 0] 36)) := BA.alloc BA.size _
  have e1 := hcl (a + 1) _ (by omega) BP
  obtain ⟨x1, hx1⟩ : ∃ x, bs.getD (a + 1) 0 = x := ⟨_, rfl⟩
  have hbx1 := ho.getD (a + 1)
  rw [hx1] at e1 hbx1
  have x10 := hbx1.1
  have x11 := hbx1.2
  have hwx1 : IntKind.i64.wrap x1 = x1 := IntWalk.i64_in _ (by omega)
  have g4 : (a : Int) + 1 < (n : Int) := by omega
  have hrt : codeI ⟨o, 0, 7, x1⟩ = 0 := by
    unfold codeI
    rw [if_pos]
    exact (lim_5 _ _ _ _ h).2 (by omega)
  have HRT := Lib.hid hrt
  have hrc := fun W => right15 ⟨o, 0, 7, x1⟩ W o0
  have HRC := Lib.hid hrc
  have hz4 := (Blk.new w 36 #[.int .u8 0, .int .i64 0, .int .i64 0, .int .i64 0]).alloc (.cells #[.int .u8 o, .int .i64 0, .int .i64 7, .int .i64 (x1)] 36)
  have hq4 := Blk.new (w.alloc (.cells #[.int .u8 0, .int .i64 0, .int .i64 0, .int .i64 0] 36)) 36 #[.int .u8 o, .int .i64 0, .int .i64 7, .int .i64 (x1)]
  rw [World.size_alloc] at hq4
  have HZ := Lib.hid hz4
  have HQ := Lib.hid hq4
  have HBI := Lib.hid (BA.alloc BA.size (.cells #[.int .u8 o, .int .i64 0, .int .i64 7, .int .i64 (x1)] 36))
  clear hrt hrc hz4 hq4
  have HCC := Lib.hid hcl
  have HBB := Lib.hid BA
  try clear hr
  clear hgn hn ho hb hbb hcell hcl hclass h hc BA BQ hlt BP hbx1
  go_enter Try.func54, Try.ntmps54
  go_wp2_with (go_at_call 64; refine (HCL.out _).mono ?_; rintro e w1 ⟨rfl, rfl⟩)
  refine (HRC.out _).mono ?_
  skip
  rintro e w2 ⟨rfl, hb2⟩
  rw [HRT.out]
  have HZ2 := Lib.hid (HZ.out.below hb2)
  have HQ2 := Lib.hid (HQ.out.below hb2)
  have HB2 := Lib.hid (ch0 HBI.out hb2)
  clear hb2
  have z0 := HZ2.out.cell 0
  have f0 := HZ2.out.frozen 0
  have q0 := HQ2.out.cell 0
  have z1 := HZ2.out.cell 1
  have f1 := HZ2.out.frozen 1
  have q1 := HQ2.out.cell 1
  have z2 := HZ2.out.cell 2
  have f2 := HZ2.out.frozen 2
  have q2 := HQ2.out.cell 2
  have z3 := HZ2.out.cell 3
  have f3 := HZ2.out.frozen 3
  have q3 := HQ2.out.cell 3
  simp at z0 z1 z2 z3 q0 q1 q2 q3
  go_wp2_with fail
  obtain ⟨hz5, hb5⟩ := st4 (.int .u8 o) (.int .i64 0) (.int .i64 7) (.int .i64 (x1)) HZ2.out HB2.out (Nat.le_refl _)
  have rr0 := hz5.cell 0
  have rr1 := hz5.cell 1
  have rr2 := hz5.cell 2
  have rr3 := hz5.cell 3
  simp at rr0 rr1 rr2 rr3
  have hret : Ending.returned (.tuple #[.agg #[.int .u8 o, .int .i64 0, .int .i64 7, .int .i64 (x1)], .int .i64 ((a : Int) + 1 + 1), .int .i64 0]) = .returned (.tuple #[(getN bs a).1.agg, .int .i64 (getN bs a).2.1, .int .i64 (getN bs a).2.2]) := by rw [HGN.out, hx1]; rw [show (a : Int) + 1 + 1 = a + 2 by omega]; rfl
  exact bodyPost_ret (v := .tuple #[.agg #[.int .u8 o, .int .i64 0, .int .i64 7, .int .i64 (x1)], .int .i64 ((a : Int) + 1 + 1), .int .i64 0]) (by simp [results, Try.results54, go_sem, rr0, rr1, rr2, rr3]) rfl ⟨hret, hb5⟩
set_option maxRecDepth 100000 in
set_option maxHeartbeats 8000000 in
theorem getR_6low (bs : List Int) (A : Option Addr) (n c a : Nat) (w : World) (b o low : Int) (hn : n = bs.length) (ho : Oct bs) (hr : Rd w A (octs bs)) (hlt : a < n) (hn2 : n ≤ 65536) (hb : bs.getD a 0 = b) (hbo : b / 8 = o) (hbl : b % 8 = low) (h : shO o = ⟨true, 3, false, false, true, false, false⟩) (hc : cls o = 6) (k1 : 3 < low) : Calls Try.prog 54 #[.slice A n c, .int .i64 a] w (IsGot (getN bs a) w) := by
  have hgn := getN_6low bs n a b o low hn ho hlt hb hbo hbl h k1
  have HGN := Lib.hid hgn
  have hbb := ho.getD a
  rw [hb] at hbb
  have b0 := hbb.1
  have b1 := hbb.2
  have l0 : 0 ≤ low := by omega
  have l1 : low ≤ 7 := by omega
  have o0 : 0 ≤ o := by omega
  have o1 : o ≤ 31 := by omega
  obtain ⟨blk, off, rfl, hbk, hcell⟩ := hr (by rw [octs_length]; omega)
  have hcl : ∀ k W, k < n → Below w.heap.size w W → W.cell? ⟨blk, off + k, none⟩ = some (.int .u8 (bs.getD k 0)) := fun k W hk hW => (hW.cell (p := ⟨blk, off + k, none⟩) hbk).trans (hcell k _ (octs_at (by omega)))
  have hclass := fun W => class15 o W o0
  rw [hc] at hclass
  have HCL := Lib.hid hclass
  have BA : Below w.heap.size w (w.alloc (.cells #[.int .u8 0, .int .i64 0, .int .i64 0, .int .i64 0] 36)) := (Below.refl _ _).alloc (Nat.le_refl _) _
  have BQ : Below w.heap.size w ((w.alloc (.cells #[.int .u8 0, .int .i64 0, .int .i64 0, .int .i64 0] 36)).alloc (.cells #[.int .u8 o, .int .i64 0, .int .i64 0, .int .i64 0] 36)) := BA.alloc BA.size _
  have c0 := hcl a _ hlt BA
  rw [hb] at c0
  have c1 := hcl a _ hlt BQ
  rw [hb] at c1
  have g0 : decide ((a : Int) < 0) = false := by simp
  have g1 : decide ((n : Int) ≤ (a : Int)) = false := by simp; omega
  have g1n : decide (n ≤ a) = false := by simp; omega
  have g2 : decide ((65536 : Int) < (n : Int)) = false := by simp; omega
  have g3 : (a : Int) < (n : Int) := by omega
  have hwl : IntKind.i64.wrap low = low := IntWalk.i64_in _ (by omega)
  have nb2 : ¬ w.heap.size + 1 = blk := by omega
  have nb3 : ¬ blk = w.heap.size + 1 := by omega
  have q1 : decide (3 < low) = true := by simp; omega
  have HCC := Lib.hid hcl
  have HBB := Lib.hid BA
  try clear hr
  clear hgn hn ho hb hbb hcell hcl hclass h hc BA BQ hlt
  go_enter Try.func54, Try.ntmps54
  go_wp2_with (go_at_call 64; refine (HCL.out _).mono ?_; rintro e w1 ⟨rfl, rfl⟩)
  exact bodyPost_ret (v := .tuple #[.agg #[.int .u8 0, .int .i64 0, .int .i64 0, .int .i64 0], .int .i64 0, .int .i64 110]) (by simp [results, Try.results54, go_sem]) rfl ⟨by rw [HGN.out]; rfl, by repeat (first | exact Below.refl _ _ | (refine Below.setCell ?_ (by simp) _) | (refine Below.alloc ?_ (by simp; try omega) _))⟩
set_option maxRecDepth 100000 in
set_option maxHeartbeats 8000000 in
theorem getR_6short (bs : List Int) (A : Option Addr) (n c a : Nat) (w : World) (b o low : Int) (hn : n = bs.length) (ho : Oct bs) (hr : Rd w A (octs bs)) (hlt : a < n) (hn2 : n ≤ 65536) (hb : bs.getD a 0 = b) (hbo : b / 8 = o) (hbl : b % 8 = low) (h : shO o = ⟨true, 3, false, false, true, false, false⟩) (hc : cls o = 6) (k1 : low ≤ 3) (k2 : n < a + 2) : Calls Try.prog 54 #[.slice A n c, .int .i64 a] w (IsGot (getN bs a) w) := by
  have hgn := getN_6short bs n a b o low hn ho hlt hb hbo hbl h k1 k2
  have HGN := Lib.hid hgn
  have hbb := ho.getD a
  rw [hb] at hbb
  have b0 := hbb.1
  have b1 := hbb.2
  have l0 : 0 ≤ low := by omega
  have l1 : low ≤ 7 := by omega
  have o0 : 0 ≤ o := by omega
  have o1 : o ≤ 31 := by omega
  obtain ⟨blk, off, rfl, hbk, hcell⟩ := hr (by rw [octs_length]; omega)
  have hcl : ∀ k W, k < n → Below w.heap.size w W → W.cell? ⟨blk, off + k, none⟩ = some (.int .u8 (bs.getD k 0)) := fun k W hk hW => (hW.cell (p := ⟨blk, off + k, none⟩) hbk).trans (hcell k _ (octs_at (by omega)))
  have hclass := fun W => class15 o W o0
  rw [hc] at hclass
  have HCL := Lib.hid hclass
  have BA : Below w.heap.size w (w.alloc (.cells #[.int .u8 0, .int .i64 0, .int .i64 0, .int .i64 0] 36)) := (Below.refl _ _).alloc (Nat.le_refl _) _
  have BQ : Below w.heap.size w ((w.alloc (.cells #[.int .u8 0, .int .i64 0, .int .i64 0, .int .i64 0] 36)).alloc (.cells #[.int .u8 o, .int .i64 0, .int .i64 0, .int .i64 0] 36)) := BA.alloc BA.size _
  have c0 := hcl a _ hlt BA
  rw [hb] at c0
  have c1 := hcl a _ hlt BQ
  rw [hb] at c1
  have g0 : decide ((a : Int) < 0) = false := by simp
  have g1 : decide ((n : Int) ≤ (a : Int)) = false := by simp; omega
  have g1n : decide (n ≤ a) = false := by simp; omega
  have g2 : decide ((65536 : Int) < (n : Int)) = false := by simp; omega
  have g3 : (a : Int) < (n : Int) := by omega
  have hwl : IntKind.i64.wrap low = low := IntWalk.i64_in _ (by omega)
  have nb2 : ¬ w.heap.size + 1 = blk := by omega
  have nb3 : ¬ blk = w.heap.size + 1 := by omega
  have q1 : decide (3 < low) = false := by simp; omega
  have s1 : decide ((n : Int) ≤ (a : Int) + 1) = true := by simp; omega
  have HCC := Lib.hid hcl
  have HBB := Lib.hid BA
  try clear hr
  clear hgn hn ho hb hbb hcell hcl hclass h hc BA BQ hlt
  go_enter Try.func54, Try.ntmps54
  go_wp2_with (go_at_call 64; refine (HCL.out _).mono ?_; rintro e w1 ⟨rfl, rfl⟩)
  exact bodyPost_ret (v := .tuple #[.agg #[.int .u8 0, .int .i64 0, .int .i64 0, .int .i64 0], .int .i64 0, .int .i64 12]) (by simp [results, Try.results54, go_sem]) rfl ⟨by rw [HGN.out]; rfl, by repeat (first | exact Below.refl _ _ | (refine Below.setCell ?_ (by simp) _) | (refine Below.alloc ?_ (by simp; try omega) _))⟩
set_option maxRecDepth 100000 in
set_option maxHeartbeats 8000000 in
theorem getR_6ok (bs : List Int) (A : Option Addr) (n c a : Nat) (w : World) (b o low : Int) (hn : n = bs.length) (ho : Oct bs) (hr : Rd w A (octs bs)) (hlt : a < n) (hn2 : n ≤ 65536) (hb : bs.getD a 0 = b) (hbo : b / 8 = o) (hbl : b % 8 = low) (h : shO o = ⟨true, 3, false, false, true, false, false⟩) (hc : cls o = 6) (k1 : low ≤ 3) (k2 : a + 2 ≤ n) : Calls Try.prog 54 #[.slice A n c, .int .i64 a] w (IsGot (getN bs a) w) := by
  have hgn := getN_6ok bs n a b o low hn ho hlt hb hbo hbl h k1 k2
  have HGN := Lib.hid hgn
  have hbb := ho.getD a
  rw [hb] at hbb
  have b0 := hbb.1
  have b1 := hbb.2
  have l0 : 0 ≤ low := by omega
  have l1 : low ≤ 7 := by omega
  have o0 : 0 ≤ o := by omega
  have o1 : o ≤ 31 := by omega
  obtain ⟨blk, off, rfl, hbk, hcell⟩ := hr (by rw [octs_length]; omega)
  have hcl : ∀ k W, k < n → Below w.heap.size w W → W.cell? ⟨blk, off + k, none⟩ = some (.int .u8 (bs.getD k 0)) := fun k W hk hW => (hW.cell (p := ⟨blk, off + k, none⟩) hbk).trans (hcell k _ (octs_at (by omega)))
  have hclass := fun W => class15 o W o0
  rw [hc] at hclass
  have HCL := Lib.hid hclass
  have BA : Below w.heap.size w (w.alloc (.cells #[.int .u8 0, .int .i64 0, .int .i64 0, .int .i64 0] 36)) := (Below.refl _ _).alloc (Nat.le_refl _) _
  have BQ : Below w.heap.size w ((w.alloc (.cells #[.int .u8 0, .int .i64 0, .int .i64 0, .int .i64 0] 36)).alloc (.cells #[.int .u8 o, .int .i64 0, .int .i64 0, .int .i64 0] 36)) := BA.alloc BA.size _
  have c0 := hcl a _ hlt BA
  rw [hb] at c0
  have c1 := hcl a _ hlt BQ
  rw [hb] at c1
  have g0 : decide ((a : Int) < 0) = false := by simp
  have g1 : decide ((n : Int) ≤ (a : Int)) = false := by simp; omega
  have g1n : decide (n ≤ a) = false := by simp; omega
  have g2 : decide ((65536 : Int) < (n : Int)) = false := by simp; omega
  have g3 : (a : Int) < (n : Int) := by omega
  have hwl : IntKind.i64.wrap low = low := IntWalk.i64_in _ (by omega)
  have nb2 : ¬ w.heap.size + 1 = blk := by omega
  have nb3 : ¬ blk = w.heap.size + 1 := by omega
  have q1 : decide (3 < low) = false := by simp; omega
  have s1 : decide ((n : Int) ≤ (a : Int) + 1) = false := by simp; omega
  have BP : Below w.heap.size w ((w.alloc (.cells #[.int .u8 0, .int .i64 0, .int .i64 0, .int .i64 0] 36)).alloc (.cells #[.int .u8 o, .int .i64 low, .int .i64 0, .int .i64 0] 36)) := BA.alloc BA.size _
  have e1 := hcl (a + 1) _ (by omega) BP
  obtain ⟨x1, hx1⟩ : ∃ x, bs.getD (a + 1) 0 = x := ⟨_, rfl⟩
  have hbx1 := ho.getD (a + 1)
  rw [hx1] at e1 hbx1
  have x10 := hbx1.1
  have x11 := hbx1.2
  have hwx1 : IntKind.i64.wrap x1 = x1 := IntWalk.i64_in _ (by omega)
  have g4 : (a : Int) + 1 < (n : Int) := by omega
  have hrt : codeI ⟨o, low, 0, x1⟩ = 0 := by
    unfold codeI
    rw [if_pos]
    exact (lim_6 _ _ _ _ h).2 (by omega)
  have HRT := Lib.hid hrt
  have hrc := fun W => right15 ⟨o, low, 0, x1⟩ W o0
  have HRC := Lib.hid hrc
  have hz4 := (Blk.new w 36 #[.int .u8 0, .int .i64 0, .int .i64 0, .int .i64 0]).alloc (.cells #[.int .u8 o, .int .i64 low, .int .i64 0, .int .i64 (x1)] 36)
  have hq4 := Blk.new (w.alloc (.cells #[.int .u8 0, .int .i64 0, .int .i64 0, .int .i64 0] 36)) 36 #[.int .u8 o, .int .i64 low, .int .i64 0, .int .i64 (x1)]
  rw [World.size_alloc] at hq4
  have HZ := Lib.hid hz4
  have HQ := Lib.hid hq4
  have HBI := Lib.hid (BA.alloc BA.size (.cells #[.int .u8 o, .int .i64 low, .int .i64 0, .int .i64 (x1)] 36))
  clear hrt hrc hz4 hq4
  have HCC := Lib.hid hcl
  have HBB := Lib.hid BA
  try clear hr
  clear hgn hn ho hb hbb hcell hcl hclass h hc BA BQ hlt BP hbx1
  go_enter Try.func54, Try.ntmps54
  go_wp2_with (go_at_call 64; refine (HCL.out _).mono ?_; rintro e w1 ⟨rfl, rfl⟩)
  refine (HRC.out _).mono ?_
  skip
  rintro e w2 ⟨rfl, hb2⟩
  rw [HRT.out]
  have HZ2 := Lib.hid (HZ.out.below hb2)
  have HQ2 := Lib.hid (HQ.out.below hb2)
  have HB2 := Lib.hid (ch0 HBI.out hb2)
  clear hb2
  have z0 := HZ2.out.cell 0
  have f0 := HZ2.out.frozen 0
  have q0 := HQ2.out.cell 0
  have z1 := HZ2.out.cell 1
  have f1 := HZ2.out.frozen 1
  have q1 := HQ2.out.cell 1
  have z2 := HZ2.out.cell 2
  have f2 := HZ2.out.frozen 2
  have q2 := HQ2.out.cell 2
  have z3 := HZ2.out.cell 3
  have f3 := HZ2.out.frozen 3
  have q3 := HQ2.out.cell 3
  simp at z0 z1 z2 z3 q0 q1 q2 q3
  go_wp2_with fail
  obtain ⟨hz5, hb5⟩ := st4 (.int .u8 o) (.int .i64 low) (.int .i64 0) (.int .i64 (x1)) HZ2.out HB2.out (Nat.le_refl _)
  have rr0 := hz5.cell 0
  have rr1 := hz5.cell 1
  have rr2 := hz5.cell 2
  have rr3 := hz5.cell 3
  simp at rr0 rr1 rr2 rr3
  have hret : Ending.returned (.tuple #[.agg #[.int .u8 o, .int .i64 low, .int .i64 0, .int .i64 (x1)], .int .i64 ((a : Int) + 1 + 1), .int .i64 0]) = .returned (.tuple #[(getN bs a).1.agg, .int .i64 (getN bs a).2.1, .int .i64 (getN bs a).2.2]) := by rw [HGN.out, hx1]; rw [show (a : Int) + 1 + 1 = a + 2 by omega]; rfl
  exact bodyPost_ret (v := .tuple #[.agg #[.int .u8 o, .int .i64 low, .int .i64 0, .int .i64 (x1)], .int .i64 ((a : Int) + 1 + 1), .int .i64 0]) (by simp [results, Try.results54, go_sem, rr0, rr1, rr2, rr3]) rfl ⟨hret, hb5⟩
end Go.Proofs.Ytaiekpdoljleeaa
