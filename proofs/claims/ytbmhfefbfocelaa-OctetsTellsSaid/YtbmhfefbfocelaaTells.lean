/- OctetsTells' walk: any bytes within the form's reach, any text, place and number: true; nothing that was there is written. -/
import Derived.Test.YtbmhfefbfocelaaLent
namespace Go.Proofs.Ytbmhfefbfocelaa
open Go.RowKit Go.WideShapes
set_option linter.unusedVariables false
theorem be_cut (n : Nat) (v : Int) (m : Int) (hm : m = 256 ^ n) : beI (v % m) n = beI v n := by subst hm; exact beI_mod n v
set_option maxRecDepth 100000 in
set_option maxHeartbeats 16000000 in
theorem tells_any (bs : List Int) (s : ByteArray) (A : Option Addr) (L c : Nat) (a v : Int) (w : World) (hL : L = bs.length) (ho : Oct bs) (hr : Rd w A (octs bs)) (h2 : L ≤ c) (hm : c ≤ maxLen) (hb : L ≤ 140737488351232) (hs : s.size ≤ maxLen)
    (a0 : -9223372036854775808 ≤ a) (a1 : a ≤ 9223372036854775807) (v0 : 0 ≤ v) (v1 : v ≤ 18446744073709551615) :
    Calls Try.prog 8 #[.slice A L c, .string s, .int .i64 a, .int .u64 v] w fun e w' => e = .returned (.bool true) ∧ Below w.heap.size w w' := by
  have HL := Lib.hid hL
  have HM := Lib.hid hm
  have HR := Lib.hid hr
  have HO := Lib.hid ho
  have HS := Lib.hid hs
  clear hL hm hr ho hs
  have b1 := numAt_bd HO.out a 1
  have b2 := numAt_bd HO.out a 2
  have b4 := numAt_bd HO.out a 4
  have b8 := numAt_bd HO.out a 8
  go_enter Try.func8, Try.ntmps8
  go_wp2_with fail
  have hlb := lentBytes_any bs A c w HR.out (by rw [← HL.out]; exact hb)
  rw [← HL.out] at hlb
  refine hlb.mono ?_
  clear hlb
  rintro e w1 ⟨⟨A1, c1, rfl, hle⟩, hb1⟩
  rw [← HL.out]
  have hc1 : L ≤ c1 := by have := hle.cap; have := HL.out; omega
  have LE := Lib.hid hle
  have R1 := Lib.hid (HR.out.below hb1 rfl)
  have K1 := Lib.hid hb1
  clear hle hb1
  obtain ⟨x1, hx1⟩ : ∃ x, numAt bs a 1 = x := ⟨_, rfl⟩
  obtain ⟨x2, hx2⟩ : ∃ x, numAt bs a 2 = x := ⟨_, rfl⟩
  obtain ⟨x4, hx4⟩ : ∃ x, numAt bs a 4 = x := ⟨_, rfl⟩
  obtain ⟨x8, hx8⟩ : ∃ x, numAt bs a 8 = x := ⟨_, rfl⟩
  obtain ⟨p1, hp1⟩ : ∃ x, there bs a 1 = x := ⟨_, rfl⟩
  obtain ⟨p2, hp2⟩ : ∃ x, there bs a 2 = x := ⟨_, rfl⟩
  obtain ⟨p4, hp4⟩ : ∃ x, there bs a 4 = x := ⟨_, rfl⟩
  obtain ⟨p8, hp8⟩ : ∃ x, there bs a 8 = x := ⟨_, rfl⟩
  rw [hx1] at b1
  rw [hx2] at b2
  rw [hx4] at b4
  rw [hx8] at b8
  have d1 : 0 ≤ x1 ∧ x1 ≤ 255 := ⟨b1.1, by have := b1.2; omega⟩
  have d2 : 0 ≤ x2 ∧ x2 ≤ 65535 := ⟨b2.1, by have := b2.2; omega⟩
  have d4 : 0 ≤ x4 ∧ x4 ≤ 4294967295 := ⟨b4.1, by have := b4.2; omega⟩
  clear b1 b2 b4 b8
  have X1 := Lib.hid hx1
  have X2 := Lib.hid hx2
  have X4 := Lib.hid hx4
  have X8 := Lib.hid hx8
  have P1 := Lib.hid hp1
  have P2 := Lib.hid hp2
  have P4 := Lib.hid hp4
  have P8 := Lib.hid hp8
  clear hx1 hx2 hx4 hx8 hp1 hp2 hp4 hp8
  go_wp2_with fail
  refine (u8_num bs A1 L c1 a _ HL.out HO.out LE.out.rd hc1 LE.out.capm hb a0 a1).mono ?_
  rw [X1.out, P1.out]
  rintro e w2 ⟨rfl, rfl⟩
  go_wp2_with fail
  refine (u16_num bs A1 L c1 a _ HL.out HO.out LE.out.rd hc1 LE.out.capm hb a0 a1).mono ?_
  rw [X2.out, P2.out]
  rintro e w2 ⟨rfl, rfl⟩
  go_wp2_with fail
  refine (u32_num bs A1 L c1 a _ HL.out HO.out LE.out.rd hc1 LE.out.capm hb a0 a1).mono ?_
  rw [X4.out, P4.out]
  rintro e w2 ⟨rfl, rfl⟩
  go_wp2_with fail
  refine (u64_num bs A1 L c1 a _ HL.out HO.out LE.out.rd hc1 LE.out.capm hb a0 a1).mono ?_
  rw [X8.out, P8.out]
  rintro e w2 ⟨rfl, rfl⟩
  have n0 : ∀ (a b c d : Value) w, (Instr.index 59 (.agg #[a, b, c, d]) (.int .i64 0)).run Try.prog w = .ok a w := fun _ _ _ _ _ => by kernel_rfl
  have n1 : ∀ (a b c d : Value) w, (Instr.index 59 (.agg #[a, b, c, d]) (.int .i64 1)).run Try.prog w = .ok b w := fun _ _ _ _ _ => by kernel_rfl
  have n2 : ∀ (a b c d : Value) w, (Instr.index 59 (.agg #[a, b, c, d]) (.int .i64 2)).run Try.prog w = .ok c w := fun _ _ _ _ _ => by kernel_rfl
  have n3 : ∀ (a b c d : Value) w, (Instr.index 59 (.agg #[a, b, c, d]) (.int .i64 3)).run Try.prog w = .ok d w := fun _ _ _ _ _ => by kernel_rfl
  have q0 : ∀ (a b c d : Value) w, (Instr.index 35 (.agg #[a, b, c, d]) (.int .i64 0)).run Try.prog w = .ok a w := fun _ _ _ _ _ => by kernel_rfl
  have q1 : ∀ (a b c d : Value) w, (Instr.index 35 (.agg #[a, b, c, d]) (.int .i64 1)).run Try.prog w = .ok b w := fun _ _ _ _ _ => by kernel_rfl
  have q2 : ∀ (a b c d : Value) w, (Instr.index 35 (.agg #[a, b, c, d]) (.int .i64 2)).run Try.prog w = .ok c w := fun _ _ _ _ _ => by kernel_rfl
  have q3 : ∀ (a b c d : Value) w, (Instr.index 35 (.agg #[a, b, c, d]) (.int .i64 3)).run Try.prog w = .ok d w := fun _ _ _ _ _ => by kernel_rfl
  go_wp2_with fail
  refine wp_loop_rounds 5 ?_
  rw [rounds_succ]
  go_wp2_with fail
  refine (number_any bs A L c 1 _ a _ rfl HL.out HO.out R1.out h2 hb (by omega) a0 a1).mono ?_
  rw [X1.out, P1.out]
  rintro e w2 ⟨rfl, rfl⟩
  go_wp2_with fail
  rw [rounds_succ]
  go_wp2_with fail
  refine (number_any bs A L c 2 _ a _ rfl HL.out HO.out R1.out h2 hb (by omega) a0 a1).mono ?_
  rw [X2.out, P2.out]
  rintro e w2 ⟨rfl, rfl⟩
  go_wp2_with fail
  rw [rounds_succ]
  go_wp2_with fail
  refine (number_any bs A L c 4 _ a _ rfl HL.out HO.out R1.out h2 hb (by omega) a0 a1).mono ?_
  rw [X4.out, P4.out]
  rintro e w2 ⟨rfl, rfl⟩
  go_wp2_with fail
  rw [rounds_succ]
  go_wp2_with fail
  refine (number_any bs A L c 8 _ a _ rfl HL.out HO.out R1.out h2 hb (by omega) a0 a1).mono ?_
  rw [X8.out, P8.out]
  rintro e w2 ⟨rfl, rfl⟩
  go_wp2_with fail
  rw [rounds_succ]
  go_wp2_with fail
  clear n0 n1 n2 n3 q0 q1 q2 q3
  refine (add8 bs (v % 256) A1 L c1 _ HL.out LE.out.rd hc1 (by omega) (by omega) (by omega)).mono ?_
  rw [be_cut 1 v 256 rfl]
  rintro e w2 ⟨⟨A2, c2, rfl, _, l2, o2⟩, hb2⟩
  have S2 := Lib.hid (Rd.of_own o2)
  have K2 := Lib.hid (ch0 K1.out hb2)
  have LE2 := Lib.hid (LE.out.below hb2)
  have L2 := Lib.hid l2
  have R2 := Lib.hid (R1.out.below hb2 rfl)
  clear hb2 l2 o2
  go_wp2_with fail
  refine (add16 bs (v % 65536) A1 L c1 _ HL.out LE2.out.rd hc1 (by omega) (by omega) (by omega)).mono ?_
  rw [be_cut 2 v 65536 rfl]
  rintro e w3 ⟨⟨A3, c3, rfl, _, l3, o3⟩, hb3⟩
  have S3 := Lib.hid (Rd.of_own o3)
  have T2 := Lib.hid (S2.out.below hb3 rfl)
  have K3 := Lib.hid (ch0 K2.out hb3)
  have LE3 := Lib.hid (LE2.out.below hb3)
  have L3 := Lib.hid l3
  have R3 := Lib.hid (R2.out.below hb3 rfl)
  clear hb3 l3 o3
  go_wp2_with fail
  refine (add32 bs (v % 4294967296) A1 L c1 _ HL.out LE3.out.rd hc1 (by omega) (by omega) (by omega)).mono ?_
  rw [be_cut 4 v 4294967296 rfl]
  rintro e w4 ⟨⟨A4, c4, rfl, _, l4, o4⟩, hb4⟩
  have S4 := Lib.hid (Rd.of_own o4)
  have U2 := Lib.hid (T2.out.below hb4 rfl)
  have U3 := Lib.hid (S3.out.below hb4 rfl)
  have K4 := Lib.hid (ch0 K3.out hb4)
  have LE4 := Lib.hid (LE3.out.below hb4)
  have L4 := Lib.hid l4
  have R4 := Lib.hid (R3.out.below hb4 rfl)
  clear hb4 l4 o4
  go_wp2_with fail
  refine (add64 bs v A1 L c1 _ HL.out LE4.out.rd hc1 (by omega) (by omega) (by omega)).mono ?_
  rintro e w5 ⟨⟨A5, c5, rfl, _, l5, o5⟩, hb5⟩
  have V5 := Lib.hid (Rd.of_own o5)
  have V2 := Lib.hid (U2.out.below hb5 rfl)
  have V3 := Lib.hid (U3.out.below hb5 rfl)
  have V4 := Lib.hid (S4.out.below hb5 rfl)
  have K5 := Lib.hid (ch0 K4.out hb5)
  have LE5 := Lib.hid (LE4.out.below hb5)
  have L5 := Lib.hid l5
  have R5 := Lib.hid (R4.out.below hb5 rfl)
  clear hb5 l5 o5 R1 R2 R3 R4 S2 S3 S4 T2 U2 U3 K1 K2 K3 K4 LE LE2 LE3 LE4
  have n0 : ∀ (a b c d : Value) w, (Instr.index 61 (.agg #[a, b, c, d]) (.int .i64 0)).run Try.prog w = .ok a w := fun _ _ _ _ _ => by kernel_rfl
  have n1 : ∀ (a b c d : Value) w, (Instr.index 61 (.agg #[a, b, c, d]) (.int .i64 1)).run Try.prog w = .ok b w := fun _ _ _ _ _ => by kernel_rfl
  have n2 : ∀ (a b c d : Value) w, (Instr.index 61 (.agg #[a, b, c, d]) (.int .i64 2)).run Try.prog w = .ok c w := fun _ _ _ _ _ => by kernel_rfl
  have n3 : ∀ (a b c d : Value) w, (Instr.index 61 (.agg #[a, b, c, d]) (.int .i64 3)).run Try.prog w = .ok d w := fun _ _ _ _ _ => by kernel_rfl
  go_wp2_with fail
  go_loopw [111] (fun i wr => ∃ k : Nat, k ≤ 4 ∧ i = .int .i64 k ∧ Below w5.heap.size w5 wr) (fun i _ => 4 - (intOf i).toNat)
  case atStart => exact ⟨0, by omega, rfl, Below.refl _ _⟩
  case round =>
    obtain ⟨k, hk, rfl, hbr⟩ := hrel
    have KR := Lib.hid (ch0 K5.out hbr)
    have RR := Lib.hid (R5.out.below hbr rfl)
    have LR := Lib.hid (LE5.out.below hbr)
    rcases (show k = 0 ∨ k = 1 ∨ k = 2 ∨ k = 3 ∨ k = 4 from by omega) with rfl | rfl | rfl | rfl | rfl
    · obtain ⟨Z, hz⟩ : ∃ Z, strOfNums (bs ++ beI v 1) = Z := ⟨_, rfl⟩
      have W2 := V2.out.below hbr rfl
      have cv := str_run wr.drew A2 (L + 1) c2 _ L2.out.symm (Rd.drew W2)
      rw [hz] at cv
      have HZ := Lib.hid hz
      have HW := Lib.hid W2
      have HB := Lib.hid hbr
      clear hz W2 hbr
      go_wp2_with fail
      go_region_with (first
        | (go_at_call 28; ((with_reducible refine (refAdd bs v A L c 1 (L + 1) (IntKind.i64.wrap 1) _ (by decide) rfl HL.out (Rd.drew RR.out) h2 (by omega) (by omega) v0 v1).mono ?_)); rintro e w6 ⟨⟨A6, c6, rfl, _, l6, o6⟩, hb6⟩; have cv1 := str_run w6 A6 (L + 1) c6 _ l6.symm (Rd.of_own o6); rw [HZ.out] at cv1; have cv2 := str_run w6 A2 (L + 1) c2 _ L2.out.symm ((Rd.drew HW.out).below hb6 rfl); rw [HZ.out] at cv2))
      all_goals
        clear cv cv1
        try clear cv2
        go_wp2_with fail
        go_roundw
        case rel => exact ⟨1, by omega, by rfl, ch0 HB.out (of_drew hb6)⟩
        case measure => simp [intOf]
    · obtain ⟨Z, hz⟩ : ∃ Z, strOfNums (bs ++ beI v 2) = Z := ⟨_, rfl⟩
      have W2 := V3.out.below hbr rfl
      have cv := str_run wr.drew A3 (L + 2) c3 _ L3.out.symm (Rd.drew W2)
      rw [hz] at cv
      have HZ := Lib.hid hz
      have HW := Lib.hid W2
      have HB := Lib.hid hbr
      clear hz W2 hbr
      go_wp2_with fail
      go_region_with (first
        | (go_at_call 28; ((with_reducible refine (refAdd bs v A L c 2 (L + 2) (IntKind.i64.wrap 2) _ (by decide) rfl HL.out (Rd.drew RR.out) h2 (by omega) (by omega) v0 v1).mono ?_)); rintro e w6 ⟨⟨A6, c6, rfl, _, l6, o6⟩, hb6⟩; have cv1 := str_run w6 A6 (L + 2) c6 _ l6.symm (Rd.of_own o6); rw [HZ.out] at cv1; have cv2 := str_run w6 A3 (L + 2) c3 _ L3.out.symm ((Rd.drew HW.out).below hb6 rfl); rw [HZ.out] at cv2))
      all_goals
        clear cv cv1
        try clear cv2
        go_wp2_with fail
        go_roundw
        case rel => exact ⟨2, by omega, by rfl, ch0 HB.out (of_drew hb6)⟩
        case measure => simp [intOf]
    · obtain ⟨Z, hz⟩ : ∃ Z, strOfNums (bs ++ beI v 4) = Z := ⟨_, rfl⟩
      have W2 := V4.out.below hbr rfl
      have cv := str_run wr.drew A4 (L + 4) c4 _ L4.out.symm (Rd.drew W2)
      rw [hz] at cv
      have HZ := Lib.hid hz
      have HW := Lib.hid W2
      have HB := Lib.hid hbr
      clear hz W2 hbr
      go_wp2_with fail
      go_region_with (first
        | (go_at_call 28; ((with_reducible refine (refAdd bs v A L c 4 (L + 4) (IntKind.i64.wrap 4) _ (by decide) rfl HL.out (Rd.drew RR.out) h2 (by omega) (by omega) v0 v1).mono ?_)); rintro e w6 ⟨⟨A6, c6, rfl, _, l6, o6⟩, hb6⟩; have cv1 := str_run w6 A6 (L + 4) c6 _ l6.symm (Rd.of_own o6); rw [HZ.out] at cv1; have cv2 := str_run w6 A4 (L + 4) c4 _ L4.out.symm ((Rd.drew HW.out).below hb6 rfl); rw [HZ.out] at cv2))
      all_goals
        clear cv cv1
        try clear cv2
        go_wp2_with fail
        go_roundw
        case rel => exact ⟨3, by omega, by rfl, ch0 HB.out (of_drew hb6)⟩
        case measure => simp [intOf]
    · obtain ⟨Z, hz⟩ : ∃ Z, strOfNums (bs ++ beI v 8) = Z := ⟨_, rfl⟩
      have W2 := V5.out.below hbr rfl
      have cv := str_run wr.drew A5 (L + 8) c5 _ L5.out.symm (Rd.drew W2)
      rw [hz] at cv
      have HZ := Lib.hid hz
      have HW := Lib.hid W2
      have HB := Lib.hid hbr
      clear hz W2 hbr
      go_wp2_with fail
      go_region_with (first
        | (go_at_call 28; ((with_reducible refine (refAdd bs v A L c 8 (L + 8) (IntKind.i64.wrap 8) _ (by decide) rfl HL.out (Rd.drew RR.out) h2 (by omega) (by omega) v0 v1).mono ?_)); rintro e w6 ⟨⟨A6, c6, rfl, _, l6, o6⟩, hb6⟩; have cv1 := str_run w6 A6 (L + 8) c6 _ l6.symm (Rd.of_own o6); rw [HZ.out] at cv1; have cv2 := str_run w6 A5 (L + 8) c5 _ L5.out.symm ((Rd.drew HW.out).below hb6 rfl); rw [HZ.out] at cv2))
      all_goals
        clear cv cv1
        try clear cv2
        go_wp2_with fail
        go_roundw
        case rel => exact ⟨4, by omega, by rfl, ch0 HB.out (of_drew hb6)⟩
        case measure => simp [intOf]
    · clear n0 n1 n2 n3
      go_wp2_with fail
      refine (addText_any bs s A1 L c1 _ HL.out LR.out.rd hc1 hb HS.out).mono ?_
      rintro e w7 ⟨⟨A7, c7, rfl, r7⟩, hb7⟩
      have K7 := Lib.hid (ch0 KR.out hb7)
      have R7 := Lib.hid (RR.out.below hb7 rfl)
      have LE7 := Lib.hid (LR.out.below hb7)
      have T7 := Lib.hid r7
      have B7 := Lib.hid hb7
      clear hb7 r7
      go_wp2_with fail
      refine (refAddText_any bs s A L c _ HL.out R7.out h2 hb HS.out).mono ?_
      rintro e w8 ⟨⟨A8, c8, rfl, r8⟩, hb8⟩
      have K8 := Lib.hid (ch0 K7.out hb8)
      have R8 := Lib.hid (R7.out.below hb8 rfl)
      have LE8 := Lib.hid (LE7.out.below hb8)
      have cv1 := str_run w8 A7 _ c7 _ rfl (T7.out.below hb8 rfl)
      have cv2 := str_run w8 A8 _ c8 _ rfl r8
      clear hb8 r8
      go_wp2_with fail
      refine (text_any bs A1 L c1 a _ HL.out HO.out LE8.out.rd hc1 LE8.out.capm hb a0 a1).mono ?_
      rintro e w9 ⟨rfl, rfl⟩
      go_wp2_with fail
      refine (refText_any bs A L c a _ HL.out HO.out R8.out h2 HM.out hb a0 a1).mono ?_
      rintro e w9 ⟨rfl, rfl⟩
      generalize textAt bs a = ta at *
      generalize textEnd bs a = te at *
      generalize textThere bs a = tt at *
      generalize strOfNums (addedI bs s) = za at *
      generalize addedE s = ze at *
      go_wp2_with fail
      have hk := kept_any w.heap.size bs A1 A c1 c w8 LE8.out R8.out (by rw [← HL.out]; exact hb) LE8.out.capm
      rw [← HL.out] at hk
      refine hk.mono ?_
      clear hk
      rintro e w10 ⟨rfl, hb10⟩
      go_wp2_with (go_at_call 10; refine (awake_any _).mono ?_; rintro e w11 ⟨rfl, hb11⟩)
      go_ret
      exact ⟨rfl, ch0 (ch0 K8.out hb10) hb11⟩
theorem tells_law (bs : List Int) (A : Option Addr) (c : Nat) (s : ByteArray) (a v : Int) (w : World) (ho : Oct bs) (hr : Rd w A (octs bs)) (h2 : bs.length ≤ c) (hm : c ≤ maxLen) (hb : bs.length ≤ 140737488351232) (hs : s.size ≤ maxLen)
    (ha : (Lit.int .i64 a).wf = true) (hv : (Lit.int .u64 v).wf = true) :
    Calls Try.prog 8 #[.slice A bs.length c, .string s, .int .i64 a, .int .u64 v] w fun e w' => e = .returned (.bool true) ∧ Below w.heap.size w w' :=
  tells_any bs s A _ c a v w rfl ho hr h2 hm hb hs (wf_i64 ha).1 (wf_i64 ha).2 (wf_u64 hv).1 (wf_u64 hv).2
end Go.Proofs.Ytbmhfefbfocelaa
