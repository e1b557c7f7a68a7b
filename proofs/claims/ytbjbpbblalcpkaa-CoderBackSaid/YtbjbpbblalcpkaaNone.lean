/- CoderNone's walk: any number: true; nothing that was there is written. No condition. -/
import Derived.Test.YtbjbpbblalcpkaaDear
namespace Go.Proofs.Ytbjbpbblalcpkaa
open Go.RowKit Go.WideShapes
set_option linter.unusedVariables false
theorem end_nil (w : World) : Calls Try.prog 13 #[.pointer none] w (Same (.slice none 0 0) w) := by
  go_enter Try.func13, Try.ntmps13
  go_wp2
  go_ret
  exact ⟨rfl, rfl⟩
theorem end_unmade (g : Nat) (v0 v1 v3 : Value) (w : World) (hb : Blk w g 58 #[v0, v1, .bool false, v3]) : Calls Try.prog 13 #[.pointer (some ⟨g, 0, none⟩)] w (Same (.slice none 0 0) w) := by
  have c2 := hb.cell 2
  simp at c2
  clear hb
  go_enter Try.func13, Try.ntmps13
  go_wp2
  go_ret
  exact ⟨rfl, rfl⟩
theorem and_one (n : Int) : bits .and .i64 n 1 = 0 ∨ bits .and .i64 n 1 = 1 := by
  have h : bits .and .i64 n 1 = IntKind.i64.wrap ((BitVec.ofInt 64 n &&& BitVec.ofInt 64 1).toNat : Int) := rfl
  rw [h, BitVec.toNat_and]
  have e : (BitVec.ofInt 64 1).toNat = 1 := by decide
  rw [e, Nat.and_one_is_mod, IntKind.wrap_i64]
  omega
structure NoneRel (B g : Nat) (w0 : World) (i : Value) (w : World) : Prop where
  ex : ∃ (k : Nat) (o : List Int) (v : Value), k ≤ 32768 ∧ i = .int .i64 k ∧ Enc B w g 0 4294967295 o v ∧ o.length = 2 * k
  low : Below B w0 w
theorem four_length (x : Int) : (four x).length = 4 := rfl
structure ReadsN (n : Nat) (w0 : World) (e : Ending) (w : World) : Prop where
  ex : ∃ A c, e = .returned (.slice A n c)
  low : Below w0.heap.size w0 w
set_option maxRecDepth 100000 in
set_option maxHeartbeats 8000000 in
theorem none_any (x : Int) (w : World) : Calls Try.prog 7 #[.int .i64 x] w fun e w' => e = .returned (.bool true) ∧ Below w.heap.size w w' := by
  have hz := Lib.hid (Blk.new w 58 #[.int .u32 0, .int .u32 0, .bool false, .slice none 0 0])
  have hy := Lib.hid (Blk.new (w.alloc (.cells #[.int .u32 0, .int .u32 0, .bool false, .slice none 0 0] 58)) 60 #[.int .u32 0, .int .u32 0, .bool false, .slice none 0 0, .int .i64 0, .int .u32 0])
  have K0 := Lib.hid ((((Below.refl w.heap.size w).alloc (Nat.le_refl _) (.cells #[.int .u32 0, .int .u32 0, .bool false, .slice none 0 0] 58))).alloc (by simp) (.cells #[.int .u32 0, .int .u32 0, .bool false, .slice none 0 0, .int .i64 0, .int .u32 0] 60))
  have HZ := Lib.hid (hz.out.alloc (.cells #[.int .u32 0, .int .u32 0, .bool false, .slice none 0 0, .int .i64 0, .int .u32 0] 60))
  rw [World.size_alloc] at hy
  clear hz
  go_enter Try.func7, Try.ntmps7
  go_wp2_with fail
  refine (get_nil 5 _).mono ?_
  rintro e w1 ⟨rfl, hb1⟩
  have HZ1 := Lib.hid (HZ.out.below hb1)
  have HY1 := Lib.hid (hy.out.below hb1)
  have K1 := Lib.hid (ch0 K0.out hb1)
  clear hb1 HZ hy K0
  go_wp2_with fail
  refine (get_unmade _ _ _ 5 _ _ _ _ HY1.out).mono ?_
  rintro e w2 ⟨rfl, hb2⟩
  have HZ2 := Lib.hid (HZ1.out.below hb2)
  have HY2 := Lib.hid (HY1.out.below hb2)
  have K2 := Lib.hid (ch0 K1.out hb2)
  clear hb2 HZ1 HY1 K1
  go_wp2_with fail
  refine (put_nil 1 5 _).mono ?_
  rintro e w3 ⟨rfl, hb3⟩
  have HZ3 := Lib.hid (HZ2.out.below hb3)
  have HY3 := Lib.hid (HY2.out.below hb3)
  have K3 := Lib.hid (ch0 K2.out hb3)
  clear hb3 HZ2 HY2 K2
  go_wp2_with fail
  refine (put_unmade _ _ _ 1 5 _ _ HZ3.out).mono ?_
  rintro e w4 ⟨rfl, hb4⟩
  have HZ4 := Lib.hid (HZ3.out.below hb4)
  have HY4 := Lib.hid (HY3.out.below hb4)
  have K4 := Lib.hid (ch0 K3.out hb4)
  clear hb4 HZ3 HY3 K3
  go_wp2_with fail
  refine (len_nil _).mono ?_
  rintro e w5 ⟨rfl, rfl⟩
  go_wp2_with fail
  refine (len_of _ 0 _ _ _ _ _ _ HZ4.out).mono ?_
  rintro e w5 ⟨rfl, rfl⟩
  go_wp2_with fail
  refine (read_nil _).mono ?_
  rintro e w5 ⟨rfl, rfl⟩
  go_wp2_with fail
  refine (read_of _ _ _ _ _ _ 0 _ HY4.out).mono ?_
  rintro e w5 ⟨rfl, rfl⟩
  go_wp2_with fail
  refine (end_nil _).mono ?_
  rintro e w5 ⟨rfl, rfl⟩
  go_wp2_with fail
  refine (end_unmade _ _ _ _ _ HZ4.out).mono ?_
  rintro e w5 ⟨rfl, rfl⟩
  go_wp2_with fail
  refine (newEnc_any _).mono ?_
  rintro e w5 ⟨⟨g, rfl, ee⟩, hb5⟩
  have EE := Lib.hid (ee.less K4.out.size)
  have K5 := Lib.hid (ch0 K4.out hb5)
  clear ee hb5 HZ4 HY4 K4
  go_wp2_with fail
  go_loopw [12] (fun i wr => NoneRel w.heap.size g w i wr) (fun i _ => 32768 - (intOf i).toNat)
  case atStart => exact ⟨⟨0, [], _, by omega, rfl, EE.out, rfl⟩, K5.out⟩
  case round =>
    obtain ⟨⟨k, o, v, hk, rfl, he, hl⟩, hb⟩ := hrel
    have HE := Lib.hid he
    have KB := Lib.hid hb
    have HL := Lib.hid hl
    by_cases hlt : k < 32768
    · have gk : decide ((k : Int) < 32768) = true := by simp; omega
      have QL : Hid (o.length < 65536) := by show o.length < 65536; omega
      have HLT := Lib.hid hlt
      have HK := Lib.hid hk
      clear he hb hl hlt hk
      go_wp2_with fail
      refine (put_ok _ g 1 0 4294967295 1 o v _ HE.out nrm0 QL.out KB.out.size (.inr rfl) (by omega) (by omega)).mono ?_
      rw [step_c]
      rintro e w6 ⟨rfl, ⟨v', he6, _⟩, f6⟩
      have HE6 := Lib.hid he6
      have K6 := Lib.hid (KB.out.trans (f6.to_below (B := w.heap.size) KB.out.size fun k hk => HE.out.low k hk))
      clear he6 f6
      go_wp2
      have hw : wrap64 ((k : Int) + 1) = (k : Int) + 1 := by have := HLT.out; unfold wrap64; omega
      rw [hw]
      clear hw
      go_roundw
      case rel => exact ⟨⟨k + 1, _, _, HLT.out, by go_num, HE6.out, by rw [List.length_append, HL.out]; rfl⟩, K6.out⟩
      case measure => have := HLT.out; simp [intOf]; omega
    · have hkn : k = 32768 := by omega
      subst hkn
      have g1 : ((o.length : Int) == 65536) = true := by rw [hl]; rfl
      have ha := and_one x
      obtain ⟨bb, hbb⟩ : ∃ b, bits .and .i64 x 1 = b := ⟨_, rfl⟩
      have HA : Hid (bb = 0 ∨ bb = 1) := by rw [← hbb]; exact ha
      have hpl : Calls Try.prog 10 #[.pointer (some ⟨g, 0, none⟩), .int .i64 bb, .int .i64 1] wr (PutNo 3 wr) := put_long _ g bb 0 4294967295 1 o v wr he (by omega) (by omega) HA.out (by omega) (by omega)
      have HPL := Lib.hid hpl
      clear he hb hl ha hlt hk hpl
      have gk : decide (((32768 : Nat) : Int) < 32768) = false := by decide
      go_wp2_with fail
      refine (len_any _ g _ _ _ _ _ HE.out).mono ?_
      rintro e w7 ⟨rfl, rfl⟩
      go_wp2_with fail
      refine HPL.out.mono ?_
      rintro e w8 ⟨rfl, hb8⟩
      have K8 := Lib.hid (ch0 KB.out hb8)
      have HE8 := Lib.hid (HE.out.below hb8)
      clear hb8 HPL HE KB
      go_wp2_with fail
      refine (end_any _ g _ _ _ _ _ HE8.out ⟨by omega, by omega, by omega⟩ (by have := HL.out; omega)).mono ?_
      rintro e w9 ⟨⟨A9, c9, rfl, _, _⟩, hb9⟩
      obtain ⟨M, hM⟩ : ∃ M, (o ++ four 0).length = M := ⟨_, rfl⟩
      have g2 : ((M : Int) == 65540) = true := by rw [← hM, List.length_append, HL.out]; rfl
      rw [hM]
      clear hM
      have K9 := Lib.hid (ch0 K8.out hb9)
      clear hb9
      go_wp2_with (go_at_call 16; refine (awake_any _).mono ?_; rintro e w10 ⟨rfl, hb10⟩)
      go_ret
      exact ⟨rfl, ch0 K9.out hb10⟩
theorem none_law (x : Int) (w : World) (hx : (Lit.int .i64 x).wf = true) : Calls Try.prog 7 #[.int .i64 x] w fun e w' => e = .returned (.bool true) ∧ Below w.heap.size w w' := none_any x w
end Go.Proofs.Ytbjbpbblalcpkaa
