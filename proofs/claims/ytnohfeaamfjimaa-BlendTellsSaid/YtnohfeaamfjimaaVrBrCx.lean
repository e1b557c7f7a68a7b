/- The reference's Contexts: walk. · The reference's Learn: walk. -/
import Derived.Test.YtnohfeaamfjimaaVrBrRs
import Derived.StillTailTactics
import Derived.IntWalk
namespace Go.Proofs.Ytnohfeaamfjimaa
open Go.RowKit Go.WideShapes
set_option linter.unusedVariables false
set_option linter.unusedSimpArgs false
/-- The units' calls of one loop, the first k done. -/
structure CR (B R cr : Nat) (us : List Un) (ls : List RL) (c : Int) (bits wh : Nat) (f : Nat → Un → Un) (w0 : World) (k : Nat) (w : World) : Prop where
  rb : RB w B R cr (mapK us f k) ls c bits wh
  frm : Frm (RBlks B R us ls) w0 w
theorem CR.step {B R cr bits wh k : Nat} {us : List Un} {ls : List RL} {c : Int} {f : Nat → Un → Un} {w0 w w2 : World} {u : Un} {l : RL} (h : CR B R cr us ls c bits wh f w0 k w) (hu : us[k]? = some u) (hl : ls[k]? = some l) (hrb : RB w2 B R cr ((mapK us f k).set k (f k u)) ls c bits wh) (hf : Frm (fun b => b = R ∨ l.has u b) w w2) : CR B R cr us ls c bits wh f w0 (k + 1) w2 :=
  ⟨by rw [mapK_step hu]; exact hrb, h.frm.trans hf (fun b _ hb => RB.blks' hu hl hb)⟩
theorem CR.below {B R cr bits wh k : Nat} {us : List Un} {ls : List RL} {c : Int} {f : Nat → Un → Un} {w0 w w2 : World} (h : CR B R cr us ls c bits wh f w0 k w) (hb : Below w.heap.size w w2) : CR B R cr us ls c bits wh f w0 k w2 := ⟨h.rb.below hb, h.frm.below hb⟩
theorem blksK {B R : Nat} {us : List Un} {ls : List RL} {f : Nat → Un → Un} (hs : ∀ i u, Shp u (f i u)) (k : Nat) {b : Nat} (hb : RBlks B R (mapK us f k) ls b) : RBlks B R us ls b := by
  rcases hb with hb | hb | ⟨j, v, m, hv, hm, hb⟩
  · exact .inl hb
  · exact .inr (.inl hb)
  · by_cases hj : j < k
    · rw [mapK_lt us f k j hj] at hv
      cases hu : us[j]? with
      | none => rw [hu] at hv; cases hv
      | some u =>
        rw [hu] at hv
        simp only [Option.map_some, Option.some.injEq] at hv
        subst hv
        exact .inr (.inr ⟨j, u, m, hu, hm, ((hs j u).has b).1 hb⟩)
    · rw [mapK_ge us f k j (by omega)] at hv
      exact .inr (.inr ⟨j, v, m, hv, hm, hb⟩)
theorem ctxU_hh (u : Un) (wh : Nat) (x : Int) : ctxU { u with h := x } wh x = ctxU u wh x := by
  unfold ctxU
  split <;> rfl
theorem ctxArgR (B nh ch : Nat) (Ah : Option Addr) (bits : Nat) (w : World) (hb : w.cell? ⟨B, 2, none⟩ = some (.int .i64 (bits : Int))) (h0 : ¬ bits = 0) : Calls Try.prog 18 #[.pointer (some ⟨B, 0, none⟩), .slice Ah nh ch] w (Sam (.int .i64 2) w) := by
  have g0 : ((bits : Int) != 0) = true := by simpa using h0
  clear h0
  go_enter Try.func18, Try.ntmps18
  go_wp2
  go_ret
  exact ⟨rfl, rfl⟩
structure CtxRE (B R cr : Nat) (us : List Un) (ls : List RL) (c : Int) (wh : Nat) (hs : List Int) (w0 : World) (e : Ending) (w : World) : Prop where
  ret : e = .returned (.int .i64 0)
  rb : RB w B R cr (ctxB us wh hs) ls c 0 wh
  frm : Frm (RBlks B R us ls) w0 w
set_option maxRecDepth 100000 in
set_option maxHeartbeats 4000000 in
theorem ctxRb {B R cr wh : Nat} {us : List Un} {ls : List RL} {c : Int} (hs : List Int) (Ah : Option Addr) (nh ch : Nat) (w : World) (h : RB w B R cr us ls c 0 wh) (ho : UsOk us wh) (h16 : us.length ≤ 16) (hwh : wh ≤ 1000000000) (hw : WOk hs) (hnl : hs.length = nh) (hnh : nh ≤ 9223372036854775807) (hrd : ∀ W, Frm (RBlks B R us ls) w W → Rd W Ah (wds hs)) :
    Calls Try.prog 18 #[.pointer (some ⟨B, 0, none⟩), .slice Ah nh ch] w (CtxRE B R cr us ls c wh hs w) := by
  have HLEN := Lib.hid h.len
  have b2 : w.cell? ⟨B, 2, none⟩ = some (.int .i64 0) := h.blk.cell 2
  have HO := Lib.hid ho
  have HCR := Lib.hid (show CR B R cr us ls c 0 wh (fun i u => ctxU u wh (hs.getD i 0)) w 0 w from ⟨h, Frm.refl _ _⟩)
  have HRD := Lib.hid hrd
  have HWK := Lib.hid hw
  have HNL := Lib.hid hnl
  obtain ⟨n, hn⟩ : ∃ n, us.length = n := ⟨_, rfl⟩
  have HN := Lib.hid hn
  rw [hn] at h16
  clear h ho hrd hw hnl hn
  go_enter Try.func18, Try.ntmps18
  go_wp2_with fail
  go_loopw [5] (fun v wr => ∃ k : Nat, k ≤ n ∧ v = .int .i64 k ∧ CR B R cr us ls c 0 wh (fun i u => ctxU u wh (hs.getD i 0)) w k wr) (fun v _ => n - (intOf v).toNat)
  case atStart => exact ⟨0, by omega, rfl, HCR.out⟩
  case round =>
    obtain ⟨k, hk, rfl, hcr⟩ := hrel
    clear HCR b2
    have HCK := Lib.hid hcr
    have hml := mapK_length us (fun i u => ctxU u wh (hs.getD i 0)) k
    rw [HN.out] at hml
    have b0 : wr.cell? ⟨B, 0, none⟩ = some (.slice (some ⟨R, 0, none⟩) n cr) := by
      have := hcr.rb.blk.cell 0
      rw [hml] at this
      exact this
    by_cases hlt : k < n
    · obtain ⟨u, hu⟩ : ∃ u, us[k]? = some u := ⟨us[k]'(by rw [HN.out]; exact hlt), List.getElem?_eq_getElem (by rw [HN.out]; exact hlt)⟩
      obtain ⟨l, hl⟩ : ∃ l, ls[k]? = some l := ⟨ls[k]'(by rw [← HLEN.out, HN.out]; exact hlt), List.getElem?_eq_getElem (by rw [← HLEN.out, HN.out]; exact hlt)⟩
      have hu' : (mapK us (fun i u => ctxU u wh (hs.getD i 0)) k)[k]? = some u := (mapK_ge us _ k k (Nat.le_refl _)).trans hu
      have hki : (k : Int) < n := by omega
      have a7 : wr.cell? ⟨R, k * 16 + 7, none⟩ = some (.int .u32 u.h) := hcr.rb.cell hu' hl (by omega) rfl
      have f7 := hcr.rb.row.frozen (k * 16 + 7)
      have hrb1 := hcr.rb.setH hu' hl 0
      have hfr1 : Frm (fun b => b = R ∨ l.has u b) wr (wr.setCell ⟨R, k * 16 + 7, none⟩ (.int .u32 0)) := (Frm.refl _ wr).setCell (p := ⟨R, k * 16 + 7, none⟩) (fun _ => .inl rfl) _
      have hiK := (List.getElem?_eq_some_iff.1 hu').1
      have hu1 : ((mapK us (fun i u => ctxU u wh (hs.getD i 0)) k).set k { u with h := 0 })[k]? = some { u with h := 0 } := List.getElem?_set_self hiK
      obtain ⟨w1, hw1⟩ : ∃ W, wr.setCell ⟨R, k * 16 + 7, none⟩ (.int .u32 0) = W := ⟨_, rfl⟩
      rw [hw1] at hrb1 hfr1
      have b01 : w1.cell? ⟨B, 0, none⟩ = some (.slice (some ⟨R, 0, none⟩) n cr) := by
        have := hrb1.blk.cell 0
        rw [List.length_set, hml] at this
        exact this
      have a71 : w1.cell? ⟨R, k * 16 + 7, none⟩ = some (.int .u32 0) := hrb1.cell hu1 hl (by omega) rfl
      have f71 := hrb1.row.frozen (k * 16 + 7)
      have a01 : w1.cell? ⟨R, k * 16, none⟩ = some (.int .u8 u.p.k) := hrb1.cell (j := 0) hu1 hl (by omega) rfl
      have hrd1 := HRD.out w1 (hcr.frm.trans hfr1 (fun b _ hb => RB.blks' hu hl hb))
      have hok := HO.out k u hu
      have HOKU := Lib.hid (show ∀ x : Int, 0 ≤ x → x ≤ 4294967295 → ({ u with h := x } : Un).Ok k wh from fun x x0 x1 => ⟨hok.k, ⟨x0, x1⟩, hok.s, hok.c1, hok.a, hok.b, hok.b7, hok.c5, hok.r, hok.l, hok.t2, hok.t9, hok.t4, hok.t6, hok.t7, hok.bs, hok.x3, hok.x8, hok.m⟩)
      obtain ⟨K, hK⟩ : ∃ K, u.p.k = K := ⟨_, rfl⟩
      rw [hK] at a01
      have HK := Lib.hid hK
      have HRB1 := Lib.hid hrb1
      have HFR1 := Lib.hid hfr1
      have HU := Lib.hid hu
      have HL := Lib.hid hl
      have HU1 := Lib.hid hu1
      have HIK := Lib.hid hiK
      have HML := Lib.hid hml
      clear hcr hu hl hu' hrb1 hfr1 hu1 hok hK hiK hml
      go_upto_region 8 with fail
      try rw [hw1]
      clear hw1 b0 a7 f7
      by_cases hkn : k < nh
      · have hkni : (k : Int) < nh := by omega
        obtain ⟨bp, op, rfl, hbl, hcell⟩ := hrd1.at (k := k) (u := .int .u32 (hs.getD k 0)) (by unfold wds; rw [List.getElem?_map, getD_some (by rw [HNL.out]; exact hkn)]; rfl)
        obtain ⟨x0, x1⟩ := HWK.out k
        obtain ⟨x, hx⟩ : ∃ x, hs.getD k 0 = x := ⟨_, rfl⟩
        rw [hx] at hcell x0 x1
        have HX := Lib.hid hx
        have hrb2 := HRB1.out.setH HU1.out HL.out x
        rw [List.set_set] at hrb2
        have hfr2 : Frm (fun b => b = R ∨ l.has u b) wr (w1.setCell ⟨R, k * 16 + 7, none⟩ (.int .u32 x)) := HFR1.out.setCell (p := ⟨R, k * 16 + 7, none⟩) (fun _ => .inl rfl) _
        obtain ⟨w2, hw2⟩ : ∃ W, w1.setCell ⟨R, k * 16 + 7, none⟩ (.int .u32 x) = W := ⟨_, rfl⟩
        rw [hw2] at hrb2 hfr2
        have HFR2 := Lib.hid hfr2
        have hu2 : ((mapK us (fun i u => ctxU u wh (hs.getD i 0)) k).set k { u with h := x })[k]? = some { u with h := x } := List.getElem?_set_self HIK.out
        have a02 : w2.cell? ⟨R, k * 16, none⟩ = some (.int .u8 K) := by rw [← HK.out]; exact hrb2.cell (j := 0) hu2 HL.out (by omega) rfl
        have HRB2 := Lib.hid hrb2
        have HU2 := Lib.hid hu2
        clear hrb2 hfr2 hu2 hx hrd1
        go_upto_region 10 with fail
        try rw [hw2]
        clear hw2 a71 f71 a01 b01 hcell
        by_cases hk4 : K = 4
        · have HCALL := Lib.hid (find_rb HRB2.out HU2.out HL.out (HOKU.out x x0 x1) (show u.p.k = 4 from HK.out.trans hk4) hwh)
          have hkb : (K == 4) = true := by simpa using hk4
          clear hk4
          go_wp2_with fail
          refine (HCALL.out).mono ?_
          rintro e w3 ⟨rfl, hrb3, hfr3⟩
          rw [List.set_set] at hrb3
          have HRB3 := Lib.hid hrb3
          have HFR3 := Lib.hid (HFR2.out.trans hfr3 (fun b _ hb => hb.imp id (fun hb => ((hshp u x).has b).1 hb)))
          clear hrb3 hfr3
          go_wp2
          go_roundw
          case rel => exact ⟨k + 1, by omega, by go_num, HCK.out.step HU.out HL.out (by
            show RB _ B R cr ((mapK us _ k).set k (ctxU u wh (hs.getD k 0))) ls c 0 wh
            rw [HX.out]
            rw [← ctxU_hh u wh x]
            exact HRB3.out) HFR3.out⟩
          case measure => simp [intOf]; omega
        · have hkb : (K == 4) = false := by simpa using hk4
          have HK4 := Lib.hid (show ¬ u.p.k = 4 from fun e => hk4 (HK.out.symm.trans e))
          clear hk4
          go_wp2
          go_roundw
          case rel => exact ⟨k + 1, by omega, by go_num, HCK.out.step HU.out HL.out (by
            show RB _ B R cr ((mapK us _ k).set k (ctxU u wh (hs.getD k 0))) ls c 0 wh
            rw [HX.out, show ctxU u wh x = { u with h := x } from if_neg HK4.out]
            exact HRB2.out) HFR2.out⟩
          case measure => simp [intOf]; omega
      · have hkni : ¬ (k : Int) < nh := by omega
        have HX := Lib.hid (show hs.getD k 0 = 0 by rw [List.getD_eq_getElem?_getD, List.getElem?_eq_none (by rw [HNL.out]; omega)]; rfl)
        clear hrd1
        go_upto_region 10 with fail
        clear a71 f71 b01
        by_cases hk4 : K = 4
        · have HCALL := Lib.hid (find_rb HRB1.out HU1.out HL.out (HOKU.out 0 (by omega) (by omega)) (show u.p.k = 4 from HK.out.trans hk4) hwh)
          have hkb : (K == 4) = true := by simpa using hk4
          clear hk4
          go_wp2_with fail
          refine (HCALL.out).mono ?_
          rintro e w3 ⟨rfl, hrb3, hfr3⟩
          rw [List.set_set] at hrb3
          have HRB3 := Lib.hid hrb3
          have HFR3 := Lib.hid (HFR1.out.trans hfr3 (fun b _ hb => hb.imp id (fun hb => ((hshp u 0).has b).1 hb)))
          clear hrb3 hfr3
          go_wp2
          go_roundw
          case rel => exact ⟨k + 1, by omega, by go_num, HCK.out.step HU.out HL.out (by
            show RB _ B R cr ((mapK us _ k).set k (ctxU u wh (hs.getD k 0))) ls c 0 wh
            rw [HX.out]
            rw [← ctxU_hh u wh 0]
            exact HRB3.out) HFR3.out⟩
          case measure => simp [intOf]; omega
        · have hkb : (K == 4) = false := by simpa using hk4
          have HK4 := Lib.hid (show ¬ u.p.k = 4 from fun e => hk4 (HK.out.symm.trans e))
          clear hk4
          go_wp2
          go_roundw
          case rel => exact ⟨k + 1, by omega, by go_num, HCK.out.step HU.out HL.out (by
            show RB _ B R cr ((mapK us _ k).set k (ctxU u wh (hs.getD k 0))) ls c 0 wh
            rw [HX.out, show ctxU u wh 0 = { u with h := 0 } from if_neg HK4.out]
            exact HRB1.out) HFR1.out⟩
          case measure => simp [intOf]; omega
    · obtain rfl : k = n := by omega
      clear hcr hml
      go_wp2
      go_ret
      have hr := HCK.out
      refine ⟨rfl, ?_, hr.frm⟩
      have := hr.rb
      rw [← HN.out] at this
      exact this
end Go.Proofs.Ytnohfeaamfjimaa
namespace Go.Proofs.Ytnohfeaamfjimaa
open Go.RowKit Go.WideShapes
set_option linter.unusedVariables false
set_option linter.unusedSimpArgs false
theorem learnArgR (bit : Int) (B : Nat) (w : World) (hb : ¬ (bit = 0 ∨ bit = 1)) : Calls Try.prog 20 #[.pointer (some ⟨B, 0, none⟩), .int .i64 bit] w (Sam (.int .i64 2) w) := by
  have h0 : ¬ bit = 0 := fun e => hb (.inl e)
  have h1 : ¬ bit = 1 := fun e => hb (.inr e)
  have g0 : (bit != 0) = true := by simpa using h0
  have g1 : (bit != 1) = true := by simpa using h1
  clear hb
  go_enter Try.func20, Try.ntmps20
  go_wp2
  go_ret
  exact ⟨rfl, rfl⟩
structure LrnRE (B R cr : Nat) (us : List Un) (ls : List RL) (c : Int) (bits wh : Nat) (bit : Int) (w0 : World) (e : Ending) (w : World) : Prop where
  ret : e = .returned (.int .i64 0)
  rb : (bits ≠ 7 ∧ RB w B R cr (learnB us c bits bit) ls (c * 2 + bit) (bits + 1) wh) ∨ (bits = 7 ∧ RB w B R cr (endB (learnB us c bits bit) (c * 2 + bit) wh) ls 1 0 (wh + 1))
  frm : Frm (RBlks B R us ls) w0 w
set_option maxRecDepth 100000 in
set_option maxHeartbeats 4000000 in
theorem learnRb {B R cr bits wh : Nat} {us : List Un} {ls : List RL} {c : Int} (bit : Int) (w : World) (h : RB w B R cr us ls c bits wh) (ho : UsOk us wh) (hc : 0 ≤ c ∧ c ≤ 255) (hb : bits < 8) (h16 : us.length ≤ 16) (hbit : bit = 0 ∨ bit = 1) (hwh : wh ≤ 1000000000) :
    Calls Try.prog 20 #[.pointer (some ⟨B, 0, none⟩), .int .i64 bit] w (LrnRE B R cr us ls c bits wh bit w) := by
  have HLS := Lib.hid (leansR w h ho hc hb h16)
  have hll := leansB_length us c bits
  have HLK := Lib.hid (leansB_lok ho c bits)
  have HO1 := Lib.hid (learnB_ok ho c bits hbit)
  have HLEN := Lib.hid h.len
  have HLT := Lib.hid h.lt
  have HRB := Lib.hid h
  have HO := Lib.hid ho
  have HBIT := Lib.hid hbit
  have HSZ := Lib.hid (show ∀ W, Below w.heap.size w W → RB W B R cr us ls c bits wh from fun W hW => h.below hW)
  obtain ⟨L, hL⟩ : ∃ L, leansB us c bits = L := ⟨_, rfl⟩
  have HLB := Lib.hid (show learnB us c bits bit = mapK us (fun i u => learnU u c L (L.getD i 0) bit) us.length from by rw [← hL]; rfl)
  rw [hL] at HLS hll HLK
  obtain ⟨n, hn⟩ : ∃ n, us.length = n := ⟨_, rfl⟩
  rw [hn] at HLS hll h16 HLB
  have HN := Lib.hid hn
  have HLL := Lib.hid hll
  obtain ⟨c0, c1⟩ := hc
  have HC := Lib.hid (show 0 ≤ c ∧ c ≤ 255 from ⟨c0, c1⟩)
  have bt0 : 0 ≤ bit := by omega
  have bt1 : bit ≤ 1 := by omega
  obtain ⟨cc, hcc⟩ : ∃ cc, c * 2 = cc := ⟨_, rfl⟩
  obtain ⟨c2, hc2⟩ : ∃ c2, cc + bit = c2 := ⟨_, rfl⟩
  have e1 : IntKind.i64.wrap (c * 2) = cc := by rw [← hcc]; exact IntWalk.i64_in _ (by omega)
  have e2 : IntKind.i64.wrap (cc + bit) = c2 := by rw [← hc2]; exact IntWalk.i64_in _ (by omega)
  have hc20 : 0 ≤ c2 ∧ c2 ≤ 1000 := by omega
  have HC2B := Lib.hid hc20
  have HC2 := Lib.hid (show c * 2 + bit = c2 from by rw [hcc, hc2])
  have E1 := Lib.hid e1
  have E2 := Lib.hid e2
  have HU2 := Lib.hid (show ∀ i u, Shp u (learnU u c L (L.getD i 0) bit) from fun i u => learnU_shp u c L _ bit)
  clear h ho hL hn hll hcc hc2 hc20 e1 e2 c0 c1
  rcases hbit with hbt | hbt
  · have g0 : (bit != 0) = false := by simpa using hbt
    have g1 : True := trivial
    clear hbt
    go_enter Try.func20, Try.ntmps20
    go_wp2_with fail
    refine (HLS.out).mono ?_
    rintro e w2 ⟨⟨A, cp, rfl, hcp, hown⟩, hb2⟩
    clear g0 g1
    have hge := row_block hown
    have hrd2 := own_rd hown
    have HRD2 := Lib.hid hrd2
    have HB2 := Lib.hid hb2
    have HNG := Lib.hid (show ∀ g2, A = some ⟨g2, 0, none⟩ → 0 < n → ∀ b, RBlks B R us ls b → ¬ g2 = b from fun g2 hg hn0 b hb e => by
      subst e
      have := HLT.out _ hb
      rcases hge _ hg with h | h
      · have h' : w.heap.size ≤ g2 := h
        omega
      · omega)
    have HCR := Lib.hid (show CR B R cr us ls c bits wh (fun i u => learnU u c L (L.getD i 0) bit) w2 0 w2 from ⟨HSZ.out w2 hb2, Frm.refl _ _⟩)
    clear hown hb2 hge hrd2 HLS HSZ
    go_wp2_with fail
    go_loopw [6] (fun v wr => ∃ k : Nat, k ≤ n ∧ v = .int .i64 k ∧ CR B R cr us ls c bits wh (fun i u => learnU u c L (L.getD i 0) bit) w2 k wr) (fun v _ => n - (intOf v).toNat)
    case atStart => exact ⟨0, by omega, rfl, HCR.out⟩
    case round =>
      obtain ⟨k, hk, rfl, hcr⟩ := hrel
      clear HCR
      have HCK := Lib.hid hcr
      have hml := mapK_length us (fun i u => learnU u c L (L.getD i 0) bit) k
      rw [HN.out] at hml
      have b0 : wr.cell? ⟨B, 0, none⟩ = some (.slice (some ⟨R, 0, none⟩) n cr) := by
        have := hcr.rb.blk.cell 0
        rw [hml] at this
        exact this
      by_cases hlt : k < n
      · obtain ⟨u, hu⟩ : ∃ u, us[k]? = some u := ⟨us[k]'(by rw [HN.out]; exact hlt), List.getElem?_eq_getElem (by rw [HN.out]; exact hlt)⟩
        obtain ⟨l, hl⟩ : ∃ l, ls[k]? = some l := ⟨ls[k]'(by rw [← HLEN.out, HN.out]; exact hlt), List.getElem?_eq_getElem (by rw [← HLEN.out, HN.out]; exact hlt)⟩
        have hu' : (mapK us (fun i u => learnU u c L (L.getD i 0) bit) k)[k]? = some u := (mapK_ge us _ k k (Nat.le_refl _)).trans hu
        have hki : (k : Int) < n := by omega
        obtain ⟨g2, hA, hcl2⟩ := HRD2.out k (by rw [HLL.out]; exact hlt)
        subst hA
        have hng := HNG.out g2 rfl (by omega)
        have hrdr : ∀ j, j < L.length → ∃ g, (some ⟨g2, 0, none⟩ : Option Addr) = some ⟨g, 0, none⟩ ∧ wr.drew.cell? ⟨g, j, none⟩ = some (.int .i64 (L.getD j 0)) := fun j hj => by
          obtain ⟨g, hg, hc⟩ := HRD2.out j hj
          injection hg with hg
          injection hg with hg
          subst hg
          exact ⟨_, rfl, (hcr.frm.cell (block_lt_of_cell hc) (fun hb => hng _ hb rfl)).trans hc⟩
        have l0 : wr.cell? ⟨g2, k, none⟩ = some (.int .i64 (L.getD k 0)) := (hcr.frm.cell (block_lt_of_cell hcl2) (fun hb => hng _ hb rfl)).trans hcl2
        have HC5 := Lib.hid (show CR B R cr us ls c bits wh (fun i u => learnU u c L (L.getD i 0) bit) w2 k wr.drew from hcr.below (below_drewN (Below.refl _ _) 1))
        have hcall := learn_rb (d := L.getD k 0) (cL := cp) HC5.out.rb hu' hl (HO.out k u hu) HC.out HBIT.out HLK.out (by rw [HLL.out]; omega) (by rw [HLL.out]; exact h16) hrdr (fun g hg b hb => by
          injection hg with hg
          injection hg with hg
          subst hg
          exact hng b (RB.blks' hu hl (.inr hb)))
        rw [HLL.out] at hcall
        have HNB := Lib.hid (show ¬ (B = R ∨ l.has u B) from fun h => h.elim hcr.rb.ne (fun h => (hcr.rb.far k u l hu' hl B h).1 rfl))
        have HNG2 := Lib.hid (show ¬ (g2 = R ∨ l.has u g2) from fun h => hng _ (RB.blks' hu hl h) rfl)
        have HU := Lib.hid hu
        have HL := Lib.hid hl
        obtain ⟨d, hd⟩ : ∃ d, L.getD k 0 = d := ⟨_, rfl⟩
        rw [hd] at l0 hcall
        have HD := Lib.hid hd
        have HCALL := Lib.hid hcall
        clear hcr hu hl hu' hcl2 hng hrdr hcall hd hml HCK
        go_upto_region 7 with fail
        refine wp_region_held_drew (S := (fun W : World => W.cell? ⟨B, 0, none⟩ = some (.slice (some ⟨R, 0, none⟩) n cr) ∧ W.cell? ⟨g2, k, none⟩ = some (.int .i64 d))) (by kernel_rfl) ⟨b0, l0⟩ (fun hHeld => ?_)
        obtain ⟨w5, hwn⟩ : ∃ xq, wr.drew = xq := ⟨_, rfl⟩
        rw [hwn] at hHeld HCALL HC5 ⊢
        clear hwn
        clear b0 l0
        refine tkz (i := 0) (d := 25) rfl rfl ?_
        simp only [Act.put, zzA, zzB, zzC]
        refine tkz (i := 1) (d := 26) rfl rfl ?_
        simp only [Act.put, zzA, zzB, zzC]
        refine tkz (i := 2) (d := 27) rfl rfl ?_
        simp only [Act.put, zzA, zzB, zzC]
        refine tkz (i := 3) (d := 28) rfl rfl ?_
        simp only [Act.put, zzA, zzB, zzC]
        refine tkz (i := 4) (d := 29) rfl rfl ?_
        simp only [Act.put, zzA, zzB, zzC]
        refine tkz (i := 5) (d := 30) rfl rfl ?_
        simp only [Act.put, zzA, zzB, zzC]
        refine tkz (i := 6) (d := 31) rfl rfl ?_
        simp only [Act.put, zzA, zzB, zzC]
        refine tkz (i := 7) (d := 32) rfl rfl ?_
        simp only [Act.put, zzA, zzB, zzC]
        refine tkz (i := 8) (d := 33) rfl rfl ?_
        simp only [Act.put, zzA, zzB, zzC]
        refine tkz (i := 9) (d := 34) rfl rfl ?_
        simp only [Act.put, zzA, zzB, zzC]
        refine tkz (i := 10) (d := 35) rfl rfl ?_
        simp only [Act.put, zzA, zzB, zzC]
        refine tkz (i := 11) (d := 36) rfl rfl ?_
        simp only [Act.put, zzA, zzB, zzC]
        refine tkz (i := 12) (d := 37) rfl rfl ?_
        simp only [Act.put, zzA, zzB, zzC]
        refine rdz (i := 13) rfl (fun K hK => ?_)
        go_simp
        refine (HCALL.out).mono ?_
        rintro e w6 ⟨rfl, hrb6, hfr6⟩
        have b06 := (hfr6.cell (block_lt_of_cell hHeld.1) HNB.out).trans hHeld.1
        have l06 := (hfr6.cell (block_lt_of_cell hHeld.2) HNG2.out).trans hHeld.2
        have HRB6 := Lib.hid hrb6
        have HFR6 := Lib.hid hfr6
        clear hrb6 hfr6
        go_wp2_with fail
        refine hK.out _ _ ⟨b06, l06⟩ (fun hHeld => ?_)
        clear hK K
        try simp only [Act.put, zzA, zzB, zzC]
        refine wpAnyH_done (by kernel_rfl) ?_ _
        clear b06 l06
        go_wp2
        go_roundw
        case rel => exact ⟨k + 1, by omega, by go_num, HC5.out.step HU.out HL.out (by
          show RB _ B R cr ((mapK us _ k).set k (learnU u c L (L.getD k 0) bit)) ls c bits wh
          rw [HD.out]
          exact HRB6.out) HFR6.out⟩
        case measure => simp [intOf]; omega
      · obtain rfl : k = n := by omega
        have hrb := hcr.rb
        have hfr := (Frm.of_below (S := RBlks B R us ls) HB2.out).trans hcr.frm (fun _ _ h => h)
        have HBK := Lib.hid (show ∀ b, RBlks B R (mapK us (fun i u => learnU u c L (L.getD i 0) bit) k) ls b → RBlks B R us ls b from fun b hb => blksK HU2.out k hb)
        have HLB2 := Lib.hid HLB.out
        have hok1 := HO1.out
        rw [HLB.out] at hok1
        obtain ⟨us1, hus1⟩ : ∃ us1, mapK us (fun i u => learnU u c L (L.getD i 0) bit) k = us1 := ⟨_, rfl⟩
        rw [hus1] at hrb hml HBK HLB2 hok1
        have HOK1 := Lib.hid hok1
        have HML := Lib.hid hml
        clear hcr hus1 HCK HLB HU2 hok1 HO1 hml
        have b1 : wr.cell? ⟨B, 1, none⟩ = some (.int .i64 c) := hrb.blk.cell 1
        have f1 := hrb.blk.frozen 1
        have hrb3 := hrb.setC c2
        have hfr3 := hfr.setCell (p := ⟨B, 1, none⟩) (fun _ => .inl rfl) (.int .i64 c2)
        obtain ⟨w3, hw3⟩ : ∃ W, wr.setCell ⟨B, 1, none⟩ (.int .i64 c2) = W := ⟨_, rfl⟩
        rw [hw3] at hrb3 hfr3
        have b2 : w3.cell? ⟨B, 2, none⟩ = some (.int .i64 (bits : Int)) := hrb3.blk.cell 2
        have f2 := hrb3.blk.frozen 2
        have HRB3 := Lib.hid hrb3
        have HFR3 := Lib.hid hfr3
        have e1 := E1.out
        have e2 := E2.out
        clear hrb hfr hrb3 hfr3
        go_upto_region 9 with fail
        try rw [hw3]
        clear hw3 b0 b1 f1 e1 e2
        obtain ⟨b8, hb8⟩ : ∃ b8, bits + 1 = b8 := ⟨_, rfl⟩
        have eb : IntKind.i64.wrap ((bits : Int) + 1) = (b8 : Int) := by rw [← hb8]; exact IntWalk.i64_in _ (by omega)
        have hrb4 := HRB3.out.setB b8 rfl
        have hfr4 := HFR3.out.setCell (p := ⟨B, 2, none⟩) (fun _ => .inl rfl) (.int .i64 (b8 : Int))
        obtain ⟨w4, hw4⟩ : ∃ W, w3.setCell ⟨B, 2, none⟩ (.int .i64 (b8 : Int)) = W := ⟨_, rfl⟩
        rw [hw4] at hrb4 hfr4
        have b24 : w4.cell? ⟨B, 2, none⟩ = some (.int .i64 (b8 : Int)) := hrb4.blk.cell 2
        have HRB4 := Lib.hid hrb4
        have HFR4 := Lib.hid hfr4
        have HB8 := Lib.hid hb8
        clear hrb4 hfr4 hb8
        go_upto_region 10 with fail
        try rw [hw4]
        clear hw4 b2 f2 eb
        by_cases h8 : b8 = 8
        · have h8b : ((b8 : Int) == 8) = true := by simp; omega
          have H8 := Lib.hid h8
          have HC4 := Lib.hid (show CR B R cr us1 ls c2 8 wh (fun _ u => endU u c2 wh) w4 0 w4 from ⟨h8 ▸ HRB4.out, Frm.refl _ _⟩)
          clear h8
          go_wp2_with fail
          go_loopw [7] (fun v wq => ∃ j : Nat, j ≤ k ∧ v = .int .i64 j ∧ CR B R cr us1 ls c2 8 wh (fun _ u => endU u c2 wh) w4 j wq) (fun v _ => k - (intOf v).toNat)
          case atStart => exact ⟨0, by omega, rfl, HC4.out⟩
          case round =>
            obtain ⟨j, hj, rfl, hcj⟩ := hrel
            clear HC4
            have HCJ := Lib.hid hcj
            have hmj := mapK_length us1 (fun _ u => endU u c2 wh) j
            rw [HML.out] at hmj
            have b0 : wr.cell? ⟨B, 0, none⟩ = some (.slice (some ⟨R, 0, none⟩) k cr) := by
              have := hcj.rb.blk.cell 0
              rw [hmj] at this
              exact this
            by_cases hjl : j < k
            · obtain ⟨u, hu⟩ : ∃ u, us1[j]? = some u := ⟨us1[j]'(by rw [HML.out]; exact hjl), List.getElem?_eq_getElem (by rw [HML.out]; exact hjl)⟩
              obtain ⟨l, hl⟩ : ∃ l, ls[j]? = some l := ⟨ls[j]'(by rw [← HLEN.out, HN.out]; exact hjl), List.getElem?_eq_getElem (by rw [← HLEN.out, HN.out]; exact hjl)⟩
              have hu' : (mapK us1 (fun _ u => endU u c2 wh) j)[j]? = some u := (mapK_ge us1 _ j j (Nat.le_refl _)).trans hu
              have hji : (j : Int) < k := by omega
              have HCALL := Lib.hid (whole_rb hcj.rb hu' hl (HOK1.out j u hu) HC2B.out hwh)
              have HU := Lib.hid hu
              have HL := Lib.hid hl
              clear hcj hu hl hu' hmj b24
              go_wp2_with fail
              refine (HCALL.out).mono ?_
              rintro e w6 ⟨rfl, hrb6, hfr6⟩
              have HRB6 := Lib.hid hrb6
              have HFR6 := Lib.hid hfr6
              clear hrb6 hfr6 b0
              go_wp2
              go_roundw
              case rel => exact ⟨j + 1, by omega, by go_num, HCJ.out.step HU.out HL.out HRB6.out HFR6.out⟩
              case measure => simp [intOf]; omega
            · obtain rfl : j = k := by omega
              have hrb := hcj.rb
              have hfr := HFR4.out.trans hcj.frm (fun b _ h => HBK.out b h)
              have HEB := Lib.hid (show endB us1 c2 wh = mapK us1 (fun _ u => endU u c2 wh) j from by unfold endB; rw [HML.out])
              have p1 : wr.cell? ⟨B, 1, none⟩ = some (.int .i64 c2) := hrb.blk.cell 1
              have q1 := hrb.blk.frozen 1
              have p2 : wr.cell? ⟨B, 2, none⟩ = some (.int .i64 ((8 : Nat) : Int)) := hrb.blk.cell 2
              have q2 := hrb.blk.frozen 2
              have hrb7 := (hrb.setC 1).setB 0 (v := 0) rfl
              have hfr7 := (hfr.setCell (p := ⟨B, 1, none⟩) (fun _ => .inl rfl) (.int .i64 1)).setCell (p := ⟨B, 2, none⟩) (fun _ => .inl rfl) (.int .i64 0)
              obtain ⟨w7, hw7⟩ : ∃ W, (wr.setCell ⟨B, 1, none⟩ (.int .i64 1)).setCell ⟨B, 2, none⟩ (.int .i64 0) = W := ⟨_, rfl⟩
              rw [hw7] at hrb7 hfr7
              have p3 : w7.cell? ⟨B, 3, none⟩ = some (.int .i64 (wh : Int)) := hrb7.blk.cell 3
              have q3 := hrb7.blk.frozen 3
              have HRB7 := Lib.hid hrb7
              have HFR7 := Lib.hid hfr7
              clear hcj hrb hfr hrb7 hfr7 hmj b24
              go_upto_region 16 with fail
              try rw [hw7]
              clear hw7 p1 q1 p2 q2 b0
              go_wp2
              go_ret
              refine ⟨rfl, .inr ⟨by have := HB8.out; have := H8.out; omega, ?_⟩, HFR7.out.setCell (p := ⟨B, 3, none⟩) (fun _ => .inl rfl) _⟩
              rw [HLB2.out, HC2.out, HEB.out]
              exact HRB7.out.setW (wh + 1) (by push_cast; rfl)
        · have h8b : ((b8 : Int) == 8) = false := by simp; omega
          have H8 := Lib.hid h8
          clear h8
          go_wp2
          go_ret
          refine ⟨rfl, .inl ⟨by have := HB8.out; have := H8.out; omega, ?_⟩, HFR4.out⟩
          rw [HLB2.out, HC2.out, HB8.out]
          exact HRB4.out
  · have g0 : (bit != 0) = true := by simp; omega
    have g1 : (bit != 1) = false := by simpa using hbt
    clear hbt
    go_enter Try.func20, Try.ntmps20
    go_wp2_with fail
    refine (HLS.out).mono ?_
    rintro e w2 ⟨⟨A, cp, rfl, hcp, hown⟩, hb2⟩
    clear g0 g1
    have hge := row_block hown
    have hrd2 := own_rd hown
    have HRD2 := Lib.hid hrd2
    have HB2 := Lib.hid hb2
    have HNG := Lib.hid (show ∀ g2, A = some ⟨g2, 0, none⟩ → 0 < n → ∀ b, RBlks B R us ls b → ¬ g2 = b from fun g2 hg hn0 b hb e => by
      subst e
      have := HLT.out _ hb
      rcases hge _ hg with h | h
      · have h' : w.heap.size ≤ g2 := h
        omega
      · omega)
    have HCR := Lib.hid (show CR B R cr us ls c bits wh (fun i u => learnU u c L (L.getD i 0) bit) w2 0 w2 from ⟨HSZ.out w2 hb2, Frm.refl _ _⟩)
    clear hown hb2 hge hrd2 HLS HSZ
    go_wp2_with fail
    go_loopw [6] (fun v wr => ∃ k : Nat, k ≤ n ∧ v = .int .i64 k ∧ CR B R cr us ls c bits wh (fun i u => learnU u c L (L.getD i 0) bit) w2 k wr) (fun v _ => n - (intOf v).toNat)
    case atStart => exact ⟨0, by omega, rfl, HCR.out⟩
    case round =>
      obtain ⟨k, hk, rfl, hcr⟩ := hrel
      clear HCR
      have HCK := Lib.hid hcr
      have hml := mapK_length us (fun i u => learnU u c L (L.getD i 0) bit) k
      rw [HN.out] at hml
      have b0 : wr.cell? ⟨B, 0, none⟩ = some (.slice (some ⟨R, 0, none⟩) n cr) := by
        have := hcr.rb.blk.cell 0
        rw [hml] at this
        exact this
      by_cases hlt : k < n
      · obtain ⟨u, hu⟩ : ∃ u, us[k]? = some u := ⟨us[k]'(by rw [HN.out]; exact hlt), List.getElem?_eq_getElem (by rw [HN.out]; exact hlt)⟩
        obtain ⟨l, hl⟩ : ∃ l, ls[k]? = some l := ⟨ls[k]'(by rw [← HLEN.out, HN.out]; exact hlt), List.getElem?_eq_getElem (by rw [← HLEN.out, HN.out]; exact hlt)⟩
        have hu' : (mapK us (fun i u => learnU u c L (L.getD i 0) bit) k)[k]? = some u := (mapK_ge us _ k k (Nat.le_refl _)).trans hu
        have hki : (k : Int) < n := by omega
        obtain ⟨g2, hA, hcl2⟩ := HRD2.out k (by rw [HLL.out]; exact hlt)
        subst hA
        have hng := HNG.out g2 rfl (by omega)
        have hrdr : ∀ j, j < L.length → ∃ g, (some ⟨g2, 0, none⟩ : Option Addr) = some ⟨g, 0, none⟩ ∧ wr.drew.cell? ⟨g, j, none⟩ = some (.int .i64 (L.getD j 0)) := fun j hj => by
          obtain ⟨g, hg, hc⟩ := HRD2.out j hj
          injection hg with hg
          injection hg with hg
          subst hg
          exact ⟨_, rfl, (hcr.frm.cell (block_lt_of_cell hc) (fun hb => hng _ hb rfl)).trans hc⟩
        have l0 : wr.cell? ⟨g2, k, none⟩ = some (.int .i64 (L.getD k 0)) := (hcr.frm.cell (block_lt_of_cell hcl2) (fun hb => hng _ hb rfl)).trans hcl2
        have HC5 := Lib.hid (show CR B R cr us ls c bits wh (fun i u => learnU u c L (L.getD i 0) bit) w2 k wr.drew from hcr.below (below_drewN (Below.refl _ _) 1))
        have hcall := learn_rb (d := L.getD k 0) (cL := cp) HC5.out.rb hu' hl (HO.out k u hu) HC.out HBIT.out HLK.out (by rw [HLL.out]; omega) (by rw [HLL.out]; exact h16) hrdr (fun g hg b hb => by
          injection hg with hg
          injection hg with hg
          subst hg
          exact hng b (RB.blks' hu hl (.inr hb)))
        rw [HLL.out] at hcall
        have HNB := Lib.hid (show ¬ (B = R ∨ l.has u B) from fun h => h.elim hcr.rb.ne (fun h => (hcr.rb.far k u l hu' hl B h).1 rfl))
        have HNG2 := Lib.hid (show ¬ (g2 = R ∨ l.has u g2) from fun h => hng _ (RB.blks' hu hl h) rfl)
        have HU := Lib.hid hu
        have HL := Lib.hid hl
        obtain ⟨d, hd⟩ : ∃ d, L.getD k 0 = d := ⟨_, rfl⟩
        rw [hd] at l0 hcall
        have HD := Lib.hid hd
        have HCALL := Lib.hid hcall
        clear hcr hu hl hu' hcl2 hng hrdr hcall hd hml HCK
        go_upto_region 7 with fail
        refine wp_region_held_drew (S := (fun W : World => W.cell? ⟨B, 0, none⟩ = some (.slice (some ⟨R, 0, none⟩) n cr) ∧ W.cell? ⟨g2, k, none⟩ = some (.int .i64 d))) (by kernel_rfl) ⟨b0, l0⟩ (fun hHeld => ?_)
        obtain ⟨w5, hwn⟩ : ∃ xq, wr.drew = xq := ⟨_, rfl⟩
        rw [hwn] at hHeld HCALL HC5 ⊢
        clear hwn
        clear b0 l0
        refine tkz (i := 0) (d := 25) rfl rfl ?_
        simp only [Act.put, zzA, zzB, zzC]
        refine tkz (i := 1) (d := 26) rfl rfl ?_
        simp only [Act.put, zzA, zzB, zzC]
        refine tkz (i := 2) (d := 27) rfl rfl ?_
        simp only [Act.put, zzA, zzB, zzC]
        refine tkz (i := 3) (d := 28) rfl rfl ?_
        simp only [Act.put, zzA, zzB, zzC]
        refine tkz (i := 4) (d := 29) rfl rfl ?_
        simp only [Act.put, zzA, zzB, zzC]
        refine tkz (i := 5) (d := 30) rfl rfl ?_
        simp only [Act.put, zzA, zzB, zzC]
        refine tkz (i := 6) (d := 31) rfl rfl ?_
        simp only [Act.put, zzA, zzB, zzC]
        refine tkz (i := 7) (d := 32) rfl rfl ?_
        simp only [Act.put, zzA, zzB, zzC]
        refine tkz (i := 8) (d := 33) rfl rfl ?_
        simp only [Act.put, zzA, zzB, zzC]
        refine tkz (i := 9) (d := 34) rfl rfl ?_
        simp only [Act.put, zzA, zzB, zzC]
        refine tkz (i := 10) (d := 35) rfl rfl ?_
        simp only [Act.put, zzA, zzB, zzC]
        refine tkz (i := 11) (d := 36) rfl rfl ?_
        simp only [Act.put, zzA, zzB, zzC]
        refine tkz (i := 12) (d := 37) rfl rfl ?_
        simp only [Act.put, zzA, zzB, zzC]
        refine rdz (i := 13) rfl (fun K hK => ?_)
        go_simp
        refine (HCALL.out).mono ?_
        rintro e w6 ⟨rfl, hrb6, hfr6⟩
        have b06 := (hfr6.cell (block_lt_of_cell hHeld.1) HNB.out).trans hHeld.1
        have l06 := (hfr6.cell (block_lt_of_cell hHeld.2) HNG2.out).trans hHeld.2
        have HRB6 := Lib.hid hrb6
        have HFR6 := Lib.hid hfr6
        clear hrb6 hfr6
        go_wp2_with fail
        refine hK.out _ _ ⟨b06, l06⟩ (fun hHeld => ?_)
        clear hK K
        try simp only [Act.put, zzA, zzB, zzC]
        refine wpAnyH_done (by kernel_rfl) ?_ _
        clear b06 l06
        go_wp2
        go_roundw
        case rel => exact ⟨k + 1, by omega, by go_num, HC5.out.step HU.out HL.out (by
          show RB _ B R cr ((mapK us _ k).set k (learnU u c L (L.getD k 0) bit)) ls c bits wh
          rw [HD.out]
          exact HRB6.out) HFR6.out⟩
        case measure => simp [intOf]; omega
      · obtain rfl : k = n := by omega
        have hrb := hcr.rb
        have hfr := (Frm.of_below (S := RBlks B R us ls) HB2.out).trans hcr.frm (fun _ _ h => h)
        have HBK := Lib.hid (show ∀ b, RBlks B R (mapK us (fun i u => learnU u c L (L.getD i 0) bit) k) ls b → RBlks B R us ls b from fun b hb => blksK HU2.out k hb)
        have HLB2 := Lib.hid HLB.out
        have hok1 := HO1.out
        rw [HLB.out] at hok1
        obtain ⟨us1, hus1⟩ : ∃ us1, mapK us (fun i u => learnU u c L (L.getD i 0) bit) k = us1 := ⟨_, rfl⟩
        rw [hus1] at hrb hml HBK HLB2 hok1
        have HOK1 := Lib.hid hok1
        have HML := Lib.hid hml
        clear hcr hus1 HCK HLB HU2 hok1 HO1 hml
        have b1 : wr.cell? ⟨B, 1, none⟩ = some (.int .i64 c) := hrb.blk.cell 1
        have f1 := hrb.blk.frozen 1
        have hrb3 := hrb.setC c2
        have hfr3 := hfr.setCell (p := ⟨B, 1, none⟩) (fun _ => .inl rfl) (.int .i64 c2)
        obtain ⟨w3, hw3⟩ : ∃ W, wr.setCell ⟨B, 1, none⟩ (.int .i64 c2) = W := ⟨_, rfl⟩
        rw [hw3] at hrb3 hfr3
        have b2 : w3.cell? ⟨B, 2, none⟩ = some (.int .i64 (bits : Int)) := hrb3.blk.cell 2
        have f2 := hrb3.blk.frozen 2
        have HRB3 := Lib.hid hrb3
        have HFR3 := Lib.hid hfr3
        have e1 := E1.out
        have e2 := E2.out
        clear hrb hfr hrb3 hfr3
        go_upto_region 9 with fail
        try rw [hw3]
        clear hw3 b0 b1 f1 e1 e2
        obtain ⟨b8, hb8⟩ : ∃ b8, bits + 1 = b8 := ⟨_, rfl⟩
        have eb : IntKind.i64.wrap ((bits : Int) + 1) = (b8 : Int) := by rw [← hb8]; exact IntWalk.i64_in _ (by omega)
        have hrb4 := HRB3.out.setB b8 rfl
        have hfr4 := HFR3.out.setCell (p := ⟨B, 2, none⟩) (fun _ => .inl rfl) (.int .i64 (b8 : Int))
        obtain ⟨w4, hw4⟩ : ∃ W, w3.setCell ⟨B, 2, none⟩ (.int .i64 (b8 : Int)) = W := ⟨_, rfl⟩
        rw [hw4] at hrb4 hfr4
        have b24 : w4.cell? ⟨B, 2, none⟩ = some (.int .i64 (b8 : Int)) := hrb4.blk.cell 2
        have HRB4 := Lib.hid hrb4
        have HFR4 := Lib.hid hfr4
        have HB8 := Lib.hid hb8
        clear hrb4 hfr4 hb8
        go_upto_region 10 with fail
        try rw [hw4]
        clear hw4 b2 f2 eb
        by_cases h8 : b8 = 8
        · have h8b : ((b8 : Int) == 8) = true := by simp; omega
          have H8 := Lib.hid h8
          have HC4 := Lib.hid (show CR B R cr us1 ls c2 8 wh (fun _ u => endU u c2 wh) w4 0 w4 from ⟨h8 ▸ HRB4.out, Frm.refl _ _⟩)
          clear h8
          go_wp2_with fail
          go_loopw [7] (fun v wq => ∃ j : Nat, j ≤ k ∧ v = .int .i64 j ∧ CR B R cr us1 ls c2 8 wh (fun _ u => endU u c2 wh) w4 j wq) (fun v _ => k - (intOf v).toNat)
          case atStart => exact ⟨0, by omega, rfl, HC4.out⟩
          case round =>
            obtain ⟨j, hj, rfl, hcj⟩ := hrel
            clear HC4
            have HCJ := Lib.hid hcj
            have hmj := mapK_length us1 (fun _ u => endU u c2 wh) j
            rw [HML.out] at hmj
            have b0 : wr.cell? ⟨B, 0, none⟩ = some (.slice (some ⟨R, 0, none⟩) k cr) := by
              have := hcj.rb.blk.cell 0
              rw [hmj] at this
              exact this
            by_cases hjl : j < k
            · obtain ⟨u, hu⟩ : ∃ u, us1[j]? = some u := ⟨us1[j]'(by rw [HML.out]; exact hjl), List.getElem?_eq_getElem (by rw [HML.out]; exact hjl)⟩
              obtain ⟨l, hl⟩ : ∃ l, ls[j]? = some l := ⟨ls[j]'(by rw [← HLEN.out, HN.out]; exact hjl), List.getElem?_eq_getElem (by rw [← HLEN.out, HN.out]; exact hjl)⟩
              have hu' : (mapK us1 (fun _ u => endU u c2 wh) j)[j]? = some u := (mapK_ge us1 _ j j (Nat.le_refl _)).trans hu
              have hji : (j : Int) < k := by omega
              have HCALL := Lib.hid (whole_rb hcj.rb hu' hl (HOK1.out j u hu) HC2B.out hwh)
              have HU := Lib.hid hu
              have HL := Lib.hid hl
              clear hcj hu hl hu' hmj b24
              go_wp2_with fail
              refine (HCALL.out).mono ?_
              rintro e w6 ⟨rfl, hrb6, hfr6⟩
              have HRB6 := Lib.hid hrb6
              have HFR6 := Lib.hid hfr6
              clear hrb6 hfr6 b0
              go_wp2
              go_roundw
              case rel => exact ⟨j + 1, by omega, by go_num, HCJ.out.step HU.out HL.out HRB6.out HFR6.out⟩
              case measure => simp [intOf]; omega
            · obtain rfl : j = k := by omega
              have hrb := hcj.rb
              have hfr := HFR4.out.trans hcj.frm (fun b _ h => HBK.out b h)
              have HEB := Lib.hid (show endB us1 c2 wh = mapK us1 (fun _ u => endU u c2 wh) j from by unfold endB; rw [HML.out])
              have p1 : wr.cell? ⟨B, 1, none⟩ = some (.int .i64 c2) := hrb.blk.cell 1
              have q1 := hrb.blk.frozen 1
              have p2 : wr.cell? ⟨B, 2, none⟩ = some (.int .i64 ((8 : Nat) : Int)) := hrb.blk.cell 2
              have q2 := hrb.blk.frozen 2
              have hrb7 := (hrb.setC 1).setB 0 (v := 0) rfl
              have hfr7 := (hfr.setCell (p := ⟨B, 1, none⟩) (fun _ => .inl rfl) (.int .i64 1)).setCell (p := ⟨B, 2, none⟩) (fun _ => .inl rfl) (.int .i64 0)
              obtain ⟨w7, hw7⟩ : ∃ W, (wr.setCell ⟨B, 1, none⟩ (.int .i64 1)).setCell ⟨B, 2, none⟩ (.int .i64 0) = W := ⟨_, rfl⟩
              rw [hw7] at hrb7 hfr7
              have p3 : w7.cell? ⟨B, 3, none⟩ = some (.int .i64 (wh : Int)) := hrb7.blk.cell 3
              have q3 := hrb7.blk.frozen 3
              have HRB7 := Lib.hid hrb7
              have HFR7 := Lib.hid hfr7
              clear hcj hrb hfr hrb7 hfr7 hmj b24
              go_upto_region 16 with fail
              try rw [hw7]
              clear hw7 p1 q1 p2 q2 b0
              go_wp2
              go_ret
              refine ⟨rfl, .inr ⟨by have := HB8.out; have := H8.out; omega, ?_⟩, HFR7.out.setCell (p := ⟨B, 3, none⟩) (fun _ => .inl rfl) _⟩
              rw [HLB2.out, HC2.out, HEB.out]
              exact HRB7.out.setW (wh + 1) (by push_cast; rfl)
        · have h8b : ((b8 : Int) == 8) = false := by simp; omega
          have H8 := Lib.hid h8
          clear h8
          go_wp2
          go_ret
          refine ⟨rfl, .inl ⟨by have := HB8.out; have := H8.out; omega, ?_⟩, HFR4.out⟩
          rw [HLB2.out, HC2.out, HB8.out]
          exact HRB4.out
end Go.Proofs.Ytnohfeaamfjimaa
