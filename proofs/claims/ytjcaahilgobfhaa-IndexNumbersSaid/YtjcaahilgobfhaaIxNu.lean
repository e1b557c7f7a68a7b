/- IndexNumbers' walk. -/
import Derived.Test.YtjcaahilgobfhaaIxNp
namespace Go.Proofs.Ytjcaahilgobfhaa
open Go.RowKit Go.WideShapes Go.Maps
set_option linter.unusedVariables false
set_option linter.unusedSimpArgs false
theorem bad_blk (w : World) : Blk (w.alloc (.cells #[.int .u8 0, .int .u8 0, .int .u8 0, .int .u8 0, .int .u8 0, .int .u8 0, .int .u8 0, .int .u8 0, .int .u8 0, .int .u8 0, .int .u8 0, .int .u8 0, .int .u8 0, .int .u8 0, .int .u8 0, .int .u8 0, .int .u8 0, .int .u8 0, .int .u8 0, .int .u8 0, .int .i64 4097, .int .i64 1, .int .i64 0, .int .u8 0, .int .u8 0, .int .u8 0, .int .u8 0, .int .u8 0, .int .u8 0, .int .u8 0, .int .u8 0, .int .u8 0, .int .u8 0, .int .u8 0, .int .u8 0, .int .u8 0, .int .u8 0, .int .u8 0, .int .u8 0, .int .u8 0, .int .u8 0, .int .u8 0, .int .u8 0, .int .i64 1, .int .i64 0, .int .i64 0, .int .u8 0, .int .u8 0, .int .u8 0, .int .u8 0, .int .u8 0, .int .u8 0, .int .u8 0, .int .u8 0, .int .u8 0, .int .u8 0, .int .u8 0, .int .u8 0, .int .u8 0, .int .u8 0, .int .u8 0, .int .u8 0, .int .u8 0, .int .u8 0, .int .u8 0, .int .u8 0, .int .i64 1, .int .i64 1048577, .int .i64 0, .int .u8 0, .int .u8 0, .int .u8 0, .int .u8 0, .int .u8 0, .int .u8 0, .int .u8 0, .int .u8 0, .int .u8 0, .int .u8 0, .int .u8 0, .int .u8 0, .int .u8 0, .int .u8 0, .int .u8 0, .int .u8 0, .int .u8 0, .int .u8 0, .int .u8 0, .int .u8 0, .int .i64 1, .int .i64 1, .int .i64 (-1), .int .u8 0, .int .u8 0, .int .u8 0, .int .u8 0, .int .u8 0, .int .u8 0, .int .u8 0, .int .u8 0, .int .u8 0, .int .u8 0, .int .u8 0, .int .u8 0, .int .u8 0, .int .u8 0, .int .u8 0, .int .u8 0, .int .u8 0, .int .u8 0, .int .u8 0, .int .u8 0, .int .i64 2, .int .i64 1, .int .i64 65535, .int .u8 0, .int .u8 0, .int .u8 0, .int .u8 0, .int .u8 0, .int .u8 0, .int .u8 0, .int .u8 0, .int .u8 0, .int .u8 0, .int .u8 0, .int .u8 0, .int .u8 0, .int .u8 0, .int .u8 0, .int .u8 0, .int .u8 0, .int .u8 0, .int .u8 0, .int .u8 0, .int .i64 1, .int .i64 1, .int .i64 4611686018427387904] 39)) w.heap.size 39 badC := by
  have h := Blk.new w 39 badC
  exact h
theorem num_dec (k N : Nat) (x : Int) (hk : k < N) (hx : x = (k : Int) + 1) : N - (intOf (.int .i64 x)).toNat < N - (intOf (.int .i64 (k : Int))).toNat := by
  subst hx
  simp only [intOf]
  omega
set_option maxHeartbeats 4000000 in
set_option maxRecDepth 100000 in
theorem numI_law (w : World) : Calls Try.prog 6 #[] w (Quiet (.bool true) w) := by
  have hp := fun (k : Nat) (W : World) (hk : k < 8192) => piece_any k W (by omega)
  have had := num_add
  have hfu := num_full
  have hth := num_there
  have hcu := num_cut
  have hcz := num_cut0
  have hle := num_len
  have haw := awake_any
  have hbd := num_bad
  have HP := Lib.hid hp
  have HAD := Lib.hid had
  have HFU := Lib.hid hfu
  have HTH := Lib.hid hth
  have HCU := Lib.hid hcu
  have HCZ := Lib.hid hcz
  have HLE := Lib.hid hle
  have HAW := Lib.hid haw
  have HBD := Lib.hid hbd
  clear hp had hfu hth hcu hcz hle haw hbd
  obtain ⟨N, hN⟩ : ∃ N : Nat, N = 8192 := ⟨_, rfl⟩
  have HN := Lib.hid hN
  clear hN
  go_enter Try.func6, Try.ntmps6
  go_wp2_with fail
  refine (newIx_any w).mono ?_
  rintro e w1 ⟨⟨g, mb, rfl, hi, hg⟩, hb1⟩
  have HI1 := Lib.hid (show Idx w.heap.size w1 g mb 0 (pcs 0) _ from hi)
  have HB1 := Lib.hid hb1
  clear hi hb1 hg
  go_wp2_with fail
  go_loopw [2] (fun i wr => ∃ k : Nat, k ≤ N ∧ i = .int .i64 k ∧ ∃ v', Idx w.heap.size wr g mb k (pcs k) v' ∧ Below w.heap.size w wr) (fun i _ => N - (intOf i).toNat)
  case atStart => exact ⟨0, by omega, rfl, _, HI1.out, HB1.out⟩
  case round =>
    obtain ⟨k, hk, rfl, v', hi, hb⟩ := hrel
    have HI := Lib.hid hi
    have HB := Lib.hid hb
    clear hi hb
    by_cases hlt : k < 8192
    · have hc : decide ((k : Int) < 8192) = true := by simp; omega
      have HK := Lib.hid hlt
      clear hlt hk
      go_wp2_with fail
      refine (HP.out k wr HK.out).mono ?_
      rintro e w2 ⟨rfl, hb2⟩
      have HI2 := Lib.hid (HI.out.below hb2)
      have HB2 := Lib.hid (HB.out.trans (hb2.mono HB.out.size))
      clear hb2
      go_wp2_with fail
      refine (HAD.out _ g mb k HK.out w2 _ HI2.out).mono ?_
      rintro e w3 ⟨rfl, ⟨v3, hi3⟩, hb3⟩
      have HI3 := Lib.hid hi3
      have HB3 := Lib.hid (HB2.out.trans hb3)
      clear hi3 hb3
      have hw : wrap64 ((k : Int) + 1) = (k : Int) + 1 := by unfold wrap64; have := HK.out; omega
      go_wp2_with fail
      go_roundw
      case rel => exact ⟨k + 1, by have := HK.out; have := HN.out; omega, congrArg (Value.int .i64) (by rw [hw]; omega), _, HI3.out, HB3.out⟩
      case measure => exact num_dec k N _ (by have := HK.out; have := HN.out; omega) hw
    · have hc : decide ((k : Int) < 8192) = false := by simp; omega
      have hk8 : k = 8192 := by have := HN.out; omega
      have HK := Lib.hid hk8
      clear hlt hk hk8
      obtain ⟨P8, p8, a8⟩ := HFU.out w.heap.size g mb k HK.out
      have P8H := Lib.hid p8
      have A8H := Lib.hid a8
      clear p8 a8
      obtain ⟨P77, p7, a7⟩ := HTH.out w.heap.size g mb k HK.out
      have P7H := Lib.hid p7
      have A7H := Lib.hid a7
      clear p7 a7
      have ch0 := HCU.out w.heap.size g mb k HK.out
      have CU := Lib.hid ch0
      clear ch0
      go_wp2_with fail
      refine (P8H.out wr).mono ?_
      rintro e w2 ⟨rfl, hb2⟩
      have HI2 := Lib.hid (HI.out.below hb2)
      have HB2 := Lib.hid (HB.out.trans (hb2.mono HB.out.size))
      clear hb2
      go_wp2_with fail
      refine (A8H.out w2 _ HI2.out).mono ?_
      rintro e w3 ⟨rfl, hb3⟩
      have HI3 := Lib.hid (HI2.out.below hb3)
      have HB3 := Lib.hid (HB2.out.trans (hb3.mono HB2.out.size))
      clear hb3
      go_wp2_with fail
      refine (P7H.out w3).mono ?_
      rintro e w4 ⟨rfl, hb4⟩
      have HI4 := Lib.hid (HI3.out.below hb4)
      have HB4 := Lib.hid (HB3.out.trans (hb4.mono HB3.out.size))
      clear hb4
      go_wp2_with fail
      refine (A7H.out w4 _ HI4.out).mono ?_
      rintro e w5 ⟨rfl, hb5⟩
      have HI5 := Lib.hid (HI4.out.below hb5)
      have HB5 := Lib.hid (HB4.out.trans (hb5.mono HB4.out.size))
      clear hb5
      go_wp2_with fail
      have hz := bad_blk w5
      have hbz := (Below.refl w5.heap.size w5).alloc (Nat.le_refl _) (.cells badC 39)
      have HIZ := Lib.hid (HI5.out.below hbz)
      have HBZ := Lib.hid (HB5.out.trans (hbz.mono HB5.out.size))
      have HGZ := Lib.hid hz
      have hge : w.heap.size ≤ w5.heap.size := HB5.out.size
      have HGE := Lib.hid hge
      clear hz hbz hge
      go_loopw [64] (fun i wr => ∃ q : Nat, q ≤ 6 ∧ i = .int .i64 q ∧ Idx w.heap.size wr g mb k (pcs k) v' ∧ Below w.heap.size w wr ∧ Blk wr w5.heap.size 39 badC) (fun i _ => 6 - (intOf i).toNat)
      case atStart => exact ⟨0, by omega, rfl, HIZ.out, HBZ.out, HGZ.out⟩
      case round =>
        obtain ⟨q, hq, rfl, hi, hb, hgs⟩ := hrel
        by_cases hlt : q < 6
        · obtain ⟨cs, hcs, hone, hrg, had⟩ := HBD.out q hlt
          have hc2 : decide ((q : Int) < 6) = true := by simp; omega
          have hr := hrg wr _ hgs
          rw [Nat.mul_comm] at hr
          have hl : (Try.prog.info? 39).map (·.size) = some cs.toList.length := by rw [Array.length_toList, hcs]; exact size39
          have hs : (Try.prog.info? 39).map (·.size) = some cs.size := by rw [hcs]; exact size39
          have hbn := (Below.refl wr.heap.size wr).alloc (Nat.le_refl _) (.cells cs 39)
          have HQ := Lib.hid hlt
          have HR := Lib.hid hr
          have HL := Lib.hid hl
          have HS := Lib.hid hs
          have HCS := Lib.hid hcs.symm
          have HON := Lib.hid hone
          have HADD := Lib.hid had
          have HIN := Lib.hid (hi.below hbn)
          have HBN := Lib.hid (hb.trans (hbn.mono hb.size))
          have HGN := Lib.hid (hgs.below hbn)
          have hqI : (q : Int) < 6 := by omega
          clear hr hl hs hcs hone had hrg hi hb hgs hbn hq
          go_wp2_with (first | (refine wpList_load_mid rfl 39 (.tmp 67) rfl w5.heap.size (q * 23) rfl cs.toList _ HR.out Try.underlying39 rfl HL.out ?_) | (refine wpList_store_row rfl 39 (.tmp 13) (.tmp 68) rfl wr.heap.size cs rfl rfl 39 _ (heap_alloc_new _ _) HS.out HCS.out HON.out ?_; rw [World.setRow_alloc_new]) | (refine wpList_load_row rfl 39 (.tmp 13) rfl wr.heap.size rfl 39 cs _ _ (heap_alloc_new _ _) Try.underlying39 rfl HS.out ?_))
          refine (HADD.out _ g mb _ _ _ _ HIN.out).mono ?_
          rintro e w6 ⟨rfl, hb6⟩
          have HI6 := Lib.hid (HIN.out.below hb6)
          have HB6 := Lib.hid (HBN.out.trans (hb6.mono HBN.out.size))
          have HG6 := Lib.hid (HGN.out.below hb6)
          clear hb6
          go_wp2_with fail
          go_roundw
          case rel => exact ⟨q + 1, by have := HQ.out; omega, by go_num, HI6.out, HB6.out, HG6.out⟩
          case measure => simp [intOf]; have := HQ.out; omega
        · have hc2 : decide ((q : Int) < 6) = false := by simp; omega
          have HI6 := Lib.hid hi
          have HB6 := Lib.hid hb
          clear hi hb hgs hlt hq
          have ⟨u1, u2⟩ := CU.out wr _ HI6.out
          have U1 := Lib.hid u1
          have U2 := Lib.hid u2
          have hcz := HCZ.out _ g mb k HK.out wr _ HI6.out
          have HCZ2 := Lib.hid hcz
          clear u1 u2 hcz
          have hle := HLE.out w.heap.size g mb k
          have HLE2 := Lib.hid hle
          clear hle
          go_wp2_with fail
          refine (U1.out).mono ?_
          rintro e wa ⟨rfl, rfl⟩
          go_wp2_with fail
          refine (U2.out).mono ?_
          rintro e wb ⟨rfl, rfl⟩
          go_wp2_with fail
          refine (HCZ2.out).mono ?_
          rintro e w7 ⟨rfl, ⟨v7, hi7⟩, hb7⟩
          have HI7 := Lib.hid hi7
          have HB7 := Lib.hid (HB6.out.trans hb7)
          clear hi7 hb7
          go_wp2_with fail
          refine (HLE2.out w7 _ HI7.out).mono ?_
          rintro e w8 ⟨rfl, rfl⟩
          go_wp2_with fail
          refine (HAW.out w7).mono ?_
          rintro e w9 ⟨rfl, hb9⟩
          have HB9 := Lib.hid (HB7.out.trans (hb9.mono HB7.out.size))
          clear hb9
          go_wp2_with fail
          go_ret
          exact ⟨rfl, HB9.out⟩
end Go.Proofs.Ytjcaahilgobfhaa
