/- CutStays' walk: any bytes, any bytes behind them: true, and nothing that was there is written. No condition. -/
import Derived.Test.YtjcaahilgobfhaaStaysPlain
namespace Go.Proofs.Ytjcaahilgobfhaa
open Go.RowKit Go.WideShapes
set_option linter.unusedVariables false
theorem ints_at {l : List Nat} {k : Nat} (h : k < l.length) : (ints l)[k]? = some (.int .i64 ((l.getD k 0 : Nat) : Int)) := by
  unfold ints
  rw [List.getElem?_map, List.getD_eq_getElem?_getD, List.getElem?_eq_getElem h]
  rfl
theorem copyBytes_any (bs : List Int) (A : Option Addr) (c : Nat) (w : World) (hr : Rd w A (octs bs)) (hl : bs.length ≤ 1000000) :
    Calls Try.prog 18 #[.slice A bs.length c] w (OwnsB w.heap.size bs w) := by
  have HR := Lib.hid hr
  clear hr
  go_enter Try.func18, Try.ntmps18
  go_wp2_with fail
  refine (own_any bs A c w HR.out hl).mono ?_
  rintro e w1 ⟨⟨A1, c1, rfl, hc1, hown1⟩, hb1⟩
  go_wp2
  go_ret
  exact ⟨⟨A1, c1, rfl, hc1, hown1⟩, hb1⟩
set_option maxRecDepth 100000 in
set_option maxHeartbeats 16000000 in
theorem cutStays_any (bs ms : List Int) (A B : Option Addr) (c d : Nat) (w : World) (ho : Oct bs) (hr : Rd w A (octs bs)) (hm : bs.length ≤ c) (hcm : c ≤ maxLen)
    (ho' : Oct ms) (hr' : Rd w B (octs ms)) :
    Calls Try.prog 5 #[.slice A bs.length c, .slice B ms.length d] w fun e w' => e = .returned (.bool true) ∧ Below w.heap.size w w' := by
  have HR := Lib.hid hr
  have HO := Lib.hid ho
  have HR' := Lib.hid hr'
  have HO' := Lib.hid ho'
  have HM := Lib.hid hcm
  unfold maxLen at hcm
  clear hr ho hr' ho'
  by_cases hbig : 20000 < bs.length
  · go_enter Try.func5, Try.ntmps5
    go_wp2_with (go_at_call 15; refine (cutAwake_any _).mono ?_; rintro e w1 ⟨rfl, hb1⟩)
    go_ret
    exact ⟨rfl, hb1⟩
  by_cases hbig' : 20000 < ms.length
  · go_enter Try.func5, Try.ntmps5
    go_wp2_with (go_at_call 15; refine (cutAwake_any _).mono ?_; rintro e w1 ⟨rfl, hb1⟩)
    go_ret
    exact ⟨rfl, hb1⟩
  obtain ⟨l, hl⟩ := cut_ex bs
  have hll := cut_len hl
  have HL := Lib.hid hl
  clear hl
  go_enter Try.func5, Try.ntmps5
  go_wp2_with fail
  refine (cuts_to bs A _ c w l HL.out rfl HO.out HR.out (by omega) (by omega) HM.out).mono ?_
  rintro e w1 ⟨⟨A2, c2, rfl, hr2⟩, hb1⟩
  have H2 := Lib.hid hr2
  clear hr2
  go_wp2_with fail
  go_loop [6, 7] (fun f i => ∃ k : Nat, k ≤ l.length ∧ i = .int .i64 k ∧ f = .int .i64 (fr 0 l k : Nat)) (fun _ i => l.length - (intOf i).toNat)
  case atStart => exact ⟨0, by omega, rfl, rfl⟩
  case round =>
    obtain ⟨k, hk, rfl, rfl⟩ := hrel
    by_cases hlt : k < l.length
    · obtain ⟨n, hx, hn0, hn1, hn2, _, hx2⟩ := cut_step HL.out k hlt
      obtain ⟨b2, o2, rfl, hlt2, hc2⟩ := H2.out.at (ints_at hlt)
      have hfr : fr 0 l (k + 1) = l.getD k 0 := by simp [fr]
      have HF := Lib.hid hfr
      clear hfr
      generalize l.getD k 0 = x at *
      generalize fr 0 l k = y at *
      have g1 : (y : Int) + 1 ≤ x := by omega
      have g2 : (x : Int) ≤ y + 4096 := by omega
      rcases (show (64 : Int) ≤ (x : Int) - y ∨ ((x : Int) - y < 64 ∧ ¬ (k : Int) + 1 < l.length) from by
        by_cases h : n < 64
        · right; have := hn2 h; omega
        · left; omega) with h64 | ⟨h64, hend⟩
      all_goals
        clear hx hn2
        go_wp2
        go_round
        case rel => exact ⟨k + 1, by omega, by go_num, by rw [HF.out]⟩
        case measure => simp [intOf]; omega
    · obtain rfl : k = l.length := by omega
      have hlast := cut_last HL.out (by omega)
      have hq : (((fr 0 l l.length : Nat) : Int) != (bs.length : Int)) = false := by rw [hlast]; simp
      clear hlast
      have hown0 : Rd w1 A (octs bs) := HR.out.below hb1 rfl
      go_wp2_with fail
      refine (copyBytes_any bs A c w1 hown0 (by omega)).mono ?_
      rintro e w2 ⟨⟨A3, c3, rfl, hc3, hown2⟩, hb2⟩
      have k2 := ch0 hb1 hb2
      have hrm : Rd w2 B (octs ms) := HR'.out.below k2 rfl
      go_wp2_with (at_builtin; refine wpList_app tBytes rfl (.tmp 63) (.tmp 64) rfl w1.heap.size _ bs.length (octs bs) rfl hown2 B _ d (octs ms) rfl (by simp [octs]) hrm (octs_one ms) (by omega) (by unfold maxLen; omega) hb2.size ?_; intro v3 w3 hown3 _ hb3)
      obtain ⟨A4, c4, hv4, hc4⟩ := own_slice hown3
      rw [hv4] at hown3 ⊢
      have k3 : Below w.heap.size w w3 := k2.trans (hb3.mono hb1.size)
      obtain ⟨all, hall⟩ := cut_ex (bs ++ ms)
      have hca := cut_len hall
      have HA := Lib.hid hall
      clear hall
      have hcm4 : c4 ≤ maxLen := by
        rcases hown3.2 with ⟨h0, hn⟩ | ⟨g, cap, cur, hv, _, _, _, hm, _⟩
        · injection h0 with _ _ hc; omega
        · injection hv with _ _ hc; omega
      have hr4 : Rd w3 A4 (octs (bs ++ ms)) := by
        have := Rd.of_own hown3
        rwa [show octs bs ++ octs ms = octs (bs ++ ms) by simp [octs]] at this
      have hla : bs.length + ms.length = (bs ++ ms).length := by simp
      have HLA := Lib.hid hla
      clear hla hown3 hown2 hrm hown0
      go_wp2_with fail
      refine (cuts_to (bs ++ ms) A4 _ c4 _ all HA.out HLA.out (HO.out.append HO'.out) hr4 (by omega) hc4 hcm4).mono ?_
      rintro e w4 ⟨⟨A5, c5, rfl, hr5⟩, hb4⟩
      have k4 := ch0 k3 hb4
      have H5 := Lib.hid hr5
      have j4 : Below w1.heap.size w1 w4 := ch0 (hb2.trans hb3) hb4
      have hr2' : Rd w4 A2 (ints l) := H2.out.below j4 rfl
      have H2' := Lib.hid hr2'
      clear hr2' hr5 hr4 hv4
      go_wp2_with fail
      go_loopw [10] (fun i wr => ∃ k : Nat, k ≤ l.length ∧ i = .int .i64 k ∧ Below w4.heap.size w4 wr) (fun i _ => l.length - (intOf i).toNat)
      case atStart => exact ⟨0, by omega, rfl, Below.refl _ _⟩
      case round =>
        obtain ⟨k, hk, rfl, hb5⟩ := hrel
        by_cases hlt : k + 1 < l.length
        · obtain ⟨ha1, ha2⟩ := cut_stable HL.out HA.out k hlt
          obtain ⟨b2, o2, rfl, hlt2, hc2⟩ := (H2'.out.below hb5 rfl).at (ints_at (k := k) (by omega))
          obtain ⟨b5, o5, rfl, hlt5, hc5⟩ := (H5.out.below hb5 rfl).at (ints_at ha1)
          rw [ha2] at hc5
          clear ha2
          have hd : decide ((all.length : Int) ≤ k) = false := by simp; omega
          have hka : (k : Int) < all.length := by omega
          have hkl : (k : Int) < l.length := by omega
          have hk2 : (k : Int) + 1 < l.length := by omega
          generalize l.getD k 0 = x at *
          have hxx : ((x : Int) != x) = false := by simp
          go_wp2_with fail
          go_quiet (fail)
          go_wp2
          go_roundw
          case rel => exact ⟨k + 1, by omega, by go_num, below_drewN hb5 _⟩
          case measure => simp [intOf]; omega
        · have hn2 : ¬ (k : Int) + 1 < l.length := by omega
          go_wp2_with fail
          have k5 := ch0 k4 hb5
          have m5 : Below w1.heap.size w1 wr := ch0 j4 hb5
          obtain ⟨w5, ew⟩ : ∃ w5 : World, w5 = wr := ⟨_, rfl⟩
          subst ew
          clear hb5 hlt hn2
          go_loopw [11] (fun i wr => ∃ k : Nat, k ≤ l.length ∧ i = .int .i64 k ∧ Below w.heap.size w wr ∧ Below w1.heap.size w1 wr) (fun i _ => l.length - (intOf i).toNat)
          case atStart => exact ⟨0, by omega, rfl, k5, m5⟩
          case round =>
            obtain ⟨i, hi, rfl, hb6, hm6⟩ := hrel
            obtain ⟨w6, ew⟩ : ∃ w6 : World, w6 = wr := ⟨_, rfl⟩
            subst ew
            by_cases hlt : i < l.length ∧ i < 8
            · obtain ⟨hi1, hi2⟩ := hlt
              have hpl : l.getD i 0 ≤ bs.length := by obtain ⟨_, _, _, _, _, _, h⟩ := cut_step HL.out i hi1; exact h
              obtain ⟨al, hal⟩ := cut_ex (bs.drop (l.getD i 0))
              have hac := cut_len hal
              rw [List.length_drop] at hac
              obtain ⟨ha1, ha2⟩ := cut_alone HL.out i hi1 hal
              obtain ⟨b2, o2, rfl, hlt2, hc2⟩ := (H2.out.below hm6 rfl).at (ints_at hi1)
              have HAL := Lib.hid hal
              have HA2 := Lib.hid ha2
              have hrc : Rd w6 A (octs bs) := HR.out.below hb6 rfl
              have hlen : bs.length - l.getD i 0 = (bs.drop (l.getD i 0)).length := by simp
              have HLEN := Lib.hid hlen
              have hq1 : ((al.length : Int) != (l.length : Int) - i - 1) = false := by simp; omega
              have HA1 := Lib.hid ha1
              clear hal ha2 hlen ha1
              generalize hp : l.getD i 0 = p at *
              have HP := Lib.hid hp
              clear hp
              have hrd : Rd w6 (if c = p then A else A.map fun x => x.add p) (octs (bs.drop p)) := by
                have h0 := hrc.drop p
                unfold octs at h0 ⊢
                rw [← List.map_drop] at h0
                split
                · rw [List.drop_eq_nil_of_le (by omega)]; exact Rd.nil _ _
                · exact h0
              by_cases hpc : c = p
              · subst hpc
                simp only [if_true] at hrd
                go_wp2_with fail
                refine (cuts_to (bs.drop c) A 0 0 w6 al HAL.out (by rw [← HLEN.out]; omega) (HO.out.drop c) hrd (by omega) (by omega) (by unfold maxLen; omega)).mono ?_
                rintro e w7 ⟨⟨A7, c7, rfl, hr7⟩, hb7⟩
                have k7 := ch0 hb6 hb7
                have m7 := ch0 hm6 hb7
                have H7 := Lib.hid hr7
                clear hr7 hrd
                go_wp2_with fail
                go_loopw [13] (fun i wr => ∃ k : Nat, k ≤ al.length ∧ i = .int .i64 k ∧ Below w7.heap.size w7 wr) (fun i _ => al.length - (intOf i).toNat)
                case atStart => exact ⟨0, by omega, rfl, Below.refl _ _⟩
                case round =>
                  obtain ⟨j, hj, rfl, hb8⟩ := hrel
                  have m8 := ch0 m7 hb8
                  by_cases hja : j < al.length
                  · have hix : i + 1 + j < l.length := by have := HA1.out; omega
                    have hsum := HA2.out j hja
                    have hyl : l.getD (i + 1 + j) 0 ≤ bs.length := by obtain ⟨_, _, _, _, _, _, h⟩ := cut_step HL.out _ hix; exact h
                    obtain ⟨b9, o9, e9, hlt9, hc9⟩ := (H2.out.below m8 rfl).at (ints_at hi1)
                    obtain ⟨b8, o8, e8, hlt8, hc8⟩ := (H2.out.below m8 rfl).at (ints_at hix)
                    obtain ⟨b7, o7, rfl, hlt7, hc7⟩ := (H7.out.below hb8 rfl).at (ints_at hja)
                    injection e9 with e9
                    injection e9 with q1 q2
                    subst q1 q2
                    injection e8 with e8
                    injection e8 with q1 q2
                    subst q1 q2
                    rw [HP.out] at hc9
                    generalize l.getD (i + 1 + j) 0 = y at *
                    generalize al.getD j 0 = x at *
                    have hq2 : (((x : Int) + c) != (y : Int)) = false := by rw [← hsum]; simp
                    have hxp : (x : Int) + c ≤ 20000 := by omega
                    have v1 : IntKind.i64.wrap ((x : Int) + c) = (x : Int) + c := IntWalk.i64_in _ (by omega)
                    have v2 : IntKind.i64.wrap ((i : Int) + 1) = (i : Int) + 1 := IntWalk.i64_in _ (by omega)
                    have v3 : IntKind.i64.wrap ((i : Int) + 1 + j) = (i : Int) + 1 + j := IntWalk.i64_in _ (by omega)
                    have t1 : ((i : Int) + 1 + j).toNat = i + 1 + j := by omega
                    have g1 : (i : Int) + 1 + j < l.length := by omega
                    have g2 : (0 : Int) ≤ (i : Int) + 1 + j := by omega
                    have g3 : (i : Int) < l.length := by omega
                    have g4 : (j : Int) < al.length := by omega
                    clear hsum hyl hix
                    go_wp2_with fail
                    go_quiet (fail)
                    clear v1 v2 v3 t1
                    go_wp2
                    go_roundw
                    case rel => exact ⟨j + 1, by omega, by go_num, below_drewN hb8 _⟩
                    case measure => simp [intOf]; omega
                  · go_wp2_with fail
                    go_roundw
                    case rel => exact ⟨i + 1, by omega, by go_num, ch0 k7 hb8, m8⟩
                    case measure => simp [intOf]; omega
              · rw [if_neg hpc] at hrd
                go_wp2_with fail
                refine (cuts_to (bs.drop p) _ _ _ w6 al HAL.out HLEN.out (HO.out.drop p) hrd (by omega) (by omega) (by unfold maxLen; omega)).mono ?_
                rintro e w7 ⟨⟨A7, c7, rfl, hr7⟩, hb7⟩
                have k7 := ch0 hb6 hb7
                have m7 := ch0 hm6 hb7
                have H7 := Lib.hid hr7
                clear hr7 hrd
                go_wp2_with fail
                go_loopw [13] (fun i wr => ∃ k : Nat, k ≤ al.length ∧ i = .int .i64 k ∧ Below w7.heap.size w7 wr) (fun i _ => al.length - (intOf i).toNat)
                case atStart => exact ⟨0, by omega, rfl, Below.refl _ _⟩
                case round =>
                  obtain ⟨j, hj, rfl, hb8⟩ := hrel
                  have m8 := ch0 m7 hb8
                  by_cases hja : j < al.length
                  · have hix : i + 1 + j < l.length := by have := HA1.out; omega
                    have hsum := HA2.out j hja
                    have hyl : l.getD (i + 1 + j) 0 ≤ bs.length := by obtain ⟨_, _, _, _, _, _, h⟩ := cut_step HL.out _ hix; exact h
                    obtain ⟨b9, o9, e9, hlt9, hc9⟩ := (H2.out.below m8 rfl).at (ints_at hi1)
                    obtain ⟨b8, o8, e8, hlt8, hc8⟩ := (H2.out.below m8 rfl).at (ints_at hix)
                    obtain ⟨b7, o7, rfl, hlt7, hc7⟩ := (H7.out.below hb8 rfl).at (ints_at hja)
                    injection e9 with e9
                    injection e9 with q1 q2
                    subst q1 q2
                    injection e8 with e8
                    injection e8 with q1 q2
                    subst q1 q2
                    rw [HP.out] at hc9
                    generalize l.getD (i + 1 + j) 0 = y at *
                    generalize al.getD j 0 = x at *
                    have hq2 : (((x : Int) + p) != (y : Int)) = false := by rw [← hsum]; simp
                    have hxp : (x : Int) + p ≤ 20000 := by omega
                    have v1 : IntKind.i64.wrap ((x : Int) + p) = (x : Int) + p := IntWalk.i64_in _ (by omega)
                    have v2 : IntKind.i64.wrap ((i : Int) + 1) = (i : Int) + 1 := IntWalk.i64_in _ (by omega)
                    have v3 : IntKind.i64.wrap ((i : Int) + 1 + j) = (i : Int) + 1 + j := IntWalk.i64_in _ (by omega)
                    have t1 : ((i : Int) + 1 + j).toNat = i + 1 + j := by omega
                    have g1 : (i : Int) + 1 + j < l.length := by omega
                    have g2 : (0 : Int) ≤ (i : Int) + 1 + j := by omega
                    have g3 : (i : Int) < l.length := by omega
                    have g4 : (j : Int) < al.length := by omega
                    clear hsum hyl hix
                    go_wp2_with fail
                    go_quiet (fail)
                    clear v1 v2 v3 t1
                    go_wp2
                    go_roundw
                    case rel => exact ⟨j + 1, by omega, by go_num, below_drewN hb8 _⟩
                    case measure => simp [intOf]; omega
                  · go_wp2_with fail
                    go_roundw
                    case rel => exact ⟨i + 1, by omega, by go_num, ch0 k7 hb8, m8⟩
                    case measure => simp [intOf]; omega
            · rcases (show (¬ i < l.length) ∨ (i < l.length ∧ 8 ≤ i) from by omega) with h1 | ⟨h1, h2⟩
              all_goals
                clear hlt
                go_wp2_with (go_at_call 15; refine (cutAwake_any _).mono ?_; rintro e w7 ⟨rfl, hb7⟩)
                go_ret
                exact ⟨rfl, ch0 hb6 hb7⟩
end Go.Proofs.Ytjcaahilgobfhaa
