/- A list of statements done: the walk. Condition: at most 1000 rounds and bytes. -/
import Derived.Test.YtebmgladdgmmeaaVlGXa
import Derived.Test.YtebmgladdgmmeaaVlGRg
namespace Go.Proofs.Ytebmgladdgmmeaa
open Go.RowKit Go.WideShapes
open List (setIfInBounds_toArray set_cons_zero set_cons_succ)
set_option linter.unusedVariables false
set_option linter.unusedSimpArgs false
def LsN (N : Nat) : Prop := ∀ (f : Fo), f.tot ≤ N → ∀ (w : World) (B q u p9 : Nat) (most : Int) (σ : Rs) (vh vm vo : Value) (A : Option Addr) (c : Nat), RX w q u p9 most σ vh vm vo → σ.hal = false → most ≤ 1000 → B ≤ p9 → RdS B w A f → f.len ≤ c → f.len ≤ lenMost →
  Calls Try.prog 66 #[.pointer (some ⟨q, 0, none⟩), .slice A f.len c] w (RP most (.list f) σ q u p9 vo w)
theorem RL.refl {w : World} {B q u p9 : Nat} {most : Int} {σ : Rs} {vh vm vo : Value} (h : RX w q u p9 most σ vh vm vo) : RL B q u p9 most vo w σ vh vm vo w := ⟨h, Frm.refl _ _, fun _ h => .inl h, Below.refl _ _⟩
set_option maxRecDepth 100000 in
set_option maxHeartbeats 16000000 in
theorem listN : ∀ N, LsN N := by
  intro N
  induction N with
  | zero =>
    intro f hf w B q u p9 most σ vh vm vo A c hx hh hmo hB hr hc hl
    have hfl := f.len_tot
    obtain rfl : f = .nil := Fo.nil_of (by omega)
    have HX := Lib.hid hx
    clear hx hr hmo hB hfl hf
    go_enter Try.func66, Try.ntmps66
    go_wp2_with fail
    go_loopw [10] (fun i wr => wr = w ∧ i = .int .i64 0) (fun _ _ => 0)
    case atStart => exact ⟨rfl, rfl⟩
    case round =>
      obtain ⟨rfl, rfl⟩ := hrel
      go_wp2_with fail
      go_ret
      exact ⟨⟨0, σ, vh, vm, vo, rfl, Ev.nil, HX.out, fun _ h => .inl h⟩, Frm.refl _ _⟩
  | succ N ih =>
    have IH := Lib.hid ih
    clear ih
    intro f hf w B q u p9 most σ vh vm vo A c hx hh hmo hB hr hc hl
    have hg : ∃ g o, (0 < f.len → A = some ⟨g, o, none⟩) ∧ RdF B w f g o := by
      rcases Nat.eq_zero_or_pos f.len with h0 | h0
      · obtain rfl := Fo.nil_of h0
        exact ⟨0, 0, fun h => absurd h (by simp [Fo.len]), trivial⟩
      · obtain ⟨g, o, e, h⟩ := hr h0
        exact ⟨g, o, fun _ => e, h⟩
    obtain ⟨g, o, hA, hrd⟩ := hg
    have hBw : B ≤ w.heap.size := by have := hx.pb.lt; omega
    have hst : ∃ (k : Nat) (r : Fo) (σ' : Rs) (vh' vm' vo' : Value), k + r.len = f.len ∧ (Value.int .i64 0) = .int .i64 k ∧ RdF B w r g (o + k * 13) ∧ r.tot ≤ f.tot ∧ RL B q u p9 most vo w σ' vh' vm' vo' w ∧ σ'.hal = false ∧ (∀ c σ2, Ev most (.list r) σ' c σ2 → Ev most (.list f) σ c σ2) :=
      ⟨0, f, σ, vh, vm, vo, by omega, rfl, by simpa using hrd, Nat.le_refl _, RL.refl hx, hh, fun _ _ h => h⟩
    have HST := Lib.hid hst
    have HA := Lib.hid hA
    have HF := Lib.hid hf
    have HBB := Lib.hid hB
    have HMO := Lib.hid hmo
    have HBW := Lib.hid hBw
    have hlt := hx.lts
    have HLT := Lib.hid hlt
    have HL := Lib.hid hl
    clear hst hrd hr hA hf hx hh hB hmo hBw hlt
    obtain ⟨len, hlen⟩ : ∃ len, f.len = len := ⟨_, rfl⟩
    rw [hlen] at hc hl HST ⊢
    have HLN := Lib.hid hlen
    clear hlen
    unfold lenMost at hl
    go_enter Try.func66, Try.ntmps66
    go_wp2_with fail
    go_loopw [10] (fun i wr => ∃ (k : Nat) (r : Fo) (σ' : Rs) (vh' vm' vo' : Value), k + r.len = len ∧ i = .int .i64 k ∧ RdF B w r g (o + k * 13) ∧ r.tot ≤ f.tot ∧ RL B q u p9 most vo w σ' vh' vm' vo' wr ∧ σ'.hal = false ∧ (∀ c σ2, Ev most (.list r) σ' c σ2 → Ev most (.list f) σ c σ2)) (fun i _ => len - (intOf i).toNat)
    case atStart => exact HST.out
    case round =>
      obtain ⟨k, r, σ1, vh1, vm1, vo1, hk, rfl, hrd, htot, hrl, hh1, hto⟩ := hrel
      have RL1 := Lib.hid hrl
      have HTO := Lib.hid hto
      have HH1 := Lib.hid hh1
      clear HST
      rcases r with _ | ⟨h, b, e, r⟩
      · have hkl : k = len := by simpa [Fo.len] using hk
        subst hkl
        have g3 : decide (k < k) = false := by simp
        clear hrd htot hrl hh1 hto
        go_wp2_with fail
        go_ret
        exact ⟨⟨0, σ1, vh1, vm1, vo1, rfl, HTO.out _ _ Ev.nil, RL1.out.rx, RL1.out.rel⟩, RL1.out.frm⟩
      · obtain ⟨hdok, hgB, ⟨Ab, cb, Ae, ce, hcl, hbl, hel, hbr, her⟩, hrest⟩ := hrd
        simp only [Fo.len] at hk
        simp only [Fo.tot] at htot
        have hkl : k < len := by omega
        have hkI : (k : Int) < (len : Int) := by omega
        have hk0 : (0 : Int) ≤ (k : Int) := by omega
        have g3 : decide (k < len) = true := by simpa using hkl
        have hA := HA.out (by rw [HLN.out]; omega)
        subst hA
        have hcw := (Cells.of hcl).below hrl.low hgB
        obtain ⟨d0, d1, d2, d3, d4, d5, d6, d7, d8, d9, d10, d11, d12⟩ := hcw
        have ib := fun W σ3 vh3 vm3 vo3 (h1 : RX W q u p9 most σ3 vh3 vm3 vo3) (h2 : σ3.hal = false) (h3 : Below B w W) => IH.out b (by have := HF.out; omega) W B q u p9 most σ3 vh3 vm3 vo3 Ab cb h1 h2 HMO.out HBB.out ((show RdS B w Ab b from hbr).below h3) hbl.1 hbl.2.2
        have ie := fun W σ3 vh3 vm3 vo3 (h1 : RX W q u p9 most σ3 vh3 vm3 vo3) (h2 : σ3.hal = false) (h3 : Below B w W) => IH.out e (by have := HF.out; omega) W B q u p9 most σ3 vh3 vm3 vo3 Ae ce h1 h2 HMO.out HBB.out ((show RdS B w Ae e from her).below h3) hel.1 hel.2.2
        have lp := fun W σ3 vh3 vm3 vo3 (h1 : RX W q u p9 most σ3 vh3 vm3 vo3) (h2 : σ3.hal = false) (h3 : Below B w W) => loop83 (B := B) h b e Ab Ae cb ce hdok.ci.o0 h1 h2 HBB.out (fun W' σ4 vh4 vm4 vo4 k1 k2 k3 => ib W' σ4 vh4 vm4 vo4 k1 k2 (h3.trans k3))
        obtain ⟨bn, hbn⟩ : ∃ z, b.len = z := ⟨_, rfl⟩
        obtain ⟨en, hen⟩ : ∃ z, e.len = z := ⟨_, rfl⟩
        simp only [hbn, hen] at ib ie lp d10 d11
        have hW1 := (RL1.out.rx).below ((Below.refl wr.heap.size wr).alloc (Nat.le_refl _) (.cells #[.int .u8 h.k, .int .u8 h.i.o, .int .i64 h.i.d, .int .i64 h.i.s, .int .i64 h.i.n, .bool h.nt, .int .u8 h.ci.o, .int .i64 h.ci.d, .int .i64 h.ci.s, .int .i64 h.ci.n, .slice Ab bn cb, .slice Ae en ce, .int .i64 h.ln] 35))
        have hblk := Blk.new wr 35 #[.int .u8 h.k, .int .u8 h.i.o, .int .i64 h.i.d, .int .i64 h.i.s, .int .i64 h.i.n, .bool h.nt, .int .u8 h.ci.o, .int .i64 h.ci.d, .int .i64 h.ci.s, .int .i64 h.ci.n, .slice Ab bn cb, .slice Ae en ce, .int .i64 h.ln]
        have hrl1 : RL B q u p9 most vo w σ1 vh1 vm1 vo1 (wr.alloc (.cells #[.int .u8 h.k, .int .u8 h.i.o, .int .i64 h.i.d, .int .i64 h.i.s, .int .i64 h.i.n, .bool h.nt, .int .u8 h.ci.o, .int .i64 h.ci.d, .int .i64 h.ci.s, .int .i64 h.ci.n, .slice Ab bn cb, .slice Ae en ce, .int .i64 h.ln] 35)) := RL1.out.step HBB.out hW1 ((Frm.refl _ wr).alloc _) (fun _ h => .inl h)
        have hwr := RL1.out.rx.lts
        have hws := RL1.out.frm.size
        obtain ⟨n6, hn6⟩ : ∃ z, wr.heap.size = z := ⟨_, rfl⟩
        have HN6 := Lib.hid hn6
        have RLA := Lib.hid hrl1
        have HBA := Lib.hid hblk
        have HWR := Lib.hid hwr
        have HWS := Lib.hid hws
        have IB := Lib.hid ib
        have IE := Lib.hid ie
        have LP := Lib.hid lp
        have HRS := Lib.hid hrest
        have HDK := Lib.hid hdok
        have HK := Lib.hid hk
        have HTT := Lib.hid htot
        obtain ⟨W1, hW1e⟩ : ∃ z, wr.alloc (.cells #[.int .u8 h.k, .int .u8 h.i.o, .int .i64 h.i.d, .int .i64 h.i.s, .int .i64 h.i.n, .bool h.nt, .int .u8 h.ci.o, .int .i64 h.ci.d, .int .i64 h.ci.s, .int .i64 h.ci.n, .slice Ab bn cb, .slice Ae en ce, .int .i64 h.ln] 35) = z := ⟨_, rfl⟩
        rw [hW1e] at RLA HBA
        have e0 := HBA.out.cell 0
        have e1 := HBA.out.cell 1
        have e5 := HBA.out.cell 5
        have e6 := HBA.out.cell 6
        have e7 := HBA.out.cell 7
        have e8 := HBA.out.cell 8
        have e9 := HBA.out.cell 9
        simp at e0 e1 e5 e6 e7 e8 e9
        have HD2 := Lib.hid (And.intro (HBA.out.cell 2) (And.intro (HBA.out.cell 3) (HBA.out.cell 4)))
        clear hrl hto hh1 hdok hcl hbl hel hbr her hrest ib ie lp hW1 hblk hrl1 hwr hws hbn hen hk htot hn6 hkl
        by_cases k4 : h.k = 4
        · rw [k4] at d0 e0 hW1e
          have hs := RLA.out.rx.haltSet
          have hf := RLA.out.rx.box.frozen 265
          have hc5 := RLA.out.rx.halAt
          have hrl2 := RLA.out.step HBB.out hs.1 (hs.2.mono (fun k _ hk => .inl hk)) (fun _ h => .inl h)
          obtain ⟨W2, hW2⟩ : ∃ z, W1.setCell ⟨q, 265, none⟩ (.bool true) = z := ⟨_, rfl⟩
          rw [hW2] at hrl2
          have RL2 := Lib.hid hrl2
          have K4 := Lib.hid k4
          have hal := hrl2.rx.halAt
          have hnu := RLA.out.rx
          clear hs hrl2 k4 hnu
          go_wp2_with fail
          try rw [hW2]
          go_wp2_with fail
          go_ret
          exact ⟨⟨0, _, vh1, vm1, vo1, rfl, HTO.out _ _ (Ev.stop (Ev.halt K4.out) (.inr rfl)), RL2.out.rx, RL2.out.rel⟩, RL2.out.frm⟩
        by_cases k2 : h.k = 2
        · rw [k2] at d0 e0 hW1e
          have K2 := Lib.hid k2
          clear k2 k4
          go_wp2_with fail
          refine (holds82 h HDK.out.ci.o0 RLA.out.rx).mono ?_
          rintro e' w2 ⟨rfl, ⟨vhc, vmc, hxc⟩, hfc⟩
          have hfc' : Frm (Sx q u vo1) W1 w2 := hfc.mono (fun k _ hk => .inl hk)
          have hrlc := RLA.out.step HBB.out hxc hfc' (fun k hk => .inl hk)
          have hbkc := RLA.out.box HBA.out (by have := HWR.out; omega) (by have := HWR.out; omega) (by decide) hfc'
          have RLC := Lib.hid hrlc
          have HBC := Lib.hid hbkc
          have b10 := hbkc.cell 10
          have b11 := hbkc.cell 11
          simp at b10 b11
          clear hxc hfc hfc' hrlc hbkc
          obtain ⟨cv, hcv⟩ : ∃ z, condV h σ1 = z := ⟨_, rfl⟩
          rw [hcv]
          have HCV := Lib.hid hcv
          clear hcv
          cases cv
          · go_wp2_with fail
            refine (IE.out w2 _ _ _ _ RLC.out.rx (show (condS h σ1).hal = false from HH1.out) RLC.out.low).mono ?_
            rintro e' w3 ⟨⟨c2, σ2, vh2, vm2, vo2, rfl, hev, hx2, hv2⟩, hf2⟩
            have RL2 := Lib.hid (RLC.out.step HBB.out hx2 hf2 hv2)
            have HEV := Lib.hid (Ev.no (e := e) (b := b) K2.out HCV.out hev)
            clear hev hx2 hv2 hf2
            have hal := RL2.out.rx.halAt
            by_cases hc : c2 = 0
            rotate_left
            · have y0 : (c2 == 0) = false := by simpa using hc
              have y1 : (c2 != 0) = true := by simp [bne, y0]
              have HC := Lib.hid hc
              clear hc hal
              go_wp2_with fail
              go_ret
              exact ⟨⟨c2, σ2, vh2, vm2, vo2, rfl, HTO.out _ _ (Ev.stop HEV.out (.inl HC.out)), RL2.out.rx, RL2.out.rel⟩, RL2.out.frm⟩
            subst hc
            obtain ⟨hl2, hhl2⟩ : ∃ z, σ2.hal = z := ⟨_, rfl⟩
            rw [hhl2] at hal
            have HHL := Lib.hid hhl2
            clear hhl2
            cases hl2
            rotate_left
            · go_wp2_with fail
              go_ret
              exact ⟨⟨0, σ2, vh2, vm2, vo2, rfl, HTO.out _ _ (Ev.stop HEV.out (.inr HHL.out)), RL2.out.rx, RL2.out.rel⟩, RL2.out.frm⟩
            · go_wp2_with fail
              go_roundw
              case rel => exact ⟨k + 1, r, σ2, vh2, vm2, vo2, by have := HK.out; omega, by go_num, by have := HRS.out; rwa [show o + k * 13 + 13 = o + (k + 1) * 13 by omega] at this, by have := HTT.out; omega, RL2.out, HHL.out, fun c3 σ3 h3 => HTO.out _ _ (Ev.next HEV.out HHL.out h3)⟩
              case measure => simp [intOf]; omega
          · go_wp2_with fail
            refine (IB.out w2 _ _ _ _ RLC.out.rx (show (condS h σ1).hal = false from HH1.out) RLC.out.low).mono ?_
            rintro e' w3 ⟨⟨c2, σ2, vh2, vm2, vo2, rfl, hev, hx2, hv2⟩, hf2⟩
            have RL2 := Lib.hid (RLC.out.step HBB.out hx2 hf2 hv2)
            have HEV := Lib.hid (Ev.yes (e := e) (b := b) K2.out HCV.out hev)
            clear hev hx2 hv2 hf2
            have hal := RL2.out.rx.halAt
            by_cases hc : c2 = 0
            rotate_left
            · have y0 : (c2 == 0) = false := by simpa using hc
              have y1 : (c2 != 0) = true := by simp [bne, y0]
              have HC := Lib.hid hc
              clear hc hal
              go_wp2_with fail
              go_ret
              exact ⟨⟨c2, σ2, vh2, vm2, vo2, rfl, HTO.out _ _ (Ev.stop HEV.out (.inl HC.out)), RL2.out.rx, RL2.out.rel⟩, RL2.out.frm⟩
            subst hc
            obtain ⟨hl2, hhl2⟩ : ∃ z, σ2.hal = z := ⟨_, rfl⟩
            rw [hhl2] at hal
            have HHL := Lib.hid hhl2
            clear hhl2
            cases hl2
            rotate_left
            · go_wp2_with fail
              go_ret
              exact ⟨⟨0, σ2, vh2, vm2, vo2, rfl, HTO.out _ _ (Ev.stop HEV.out (.inr HHL.out)), RL2.out.rx, RL2.out.rel⟩, RL2.out.frm⟩
            · go_wp2_with fail
              go_roundw
              case rel => exact ⟨k + 1, r, σ2, vh2, vm2, vo2, by have := HK.out; omega, by go_num, by have := HRS.out; rwa [show o + k * 13 + 13 = o + (k + 1) * 13 by omega] at this, by have := HTT.out; omega, RL2.out, HHL.out, fun c3 σ3 h3 => HTO.out _ _ (Ev.next HEV.out HHL.out h3)⟩
              case measure => simp [intOf]; omega
        by_cases k3 : h.k = 3
        · have e2 := HD2.out.1
          have e3 := HD2.out.2.1
          have e4 := HD2.out.2.2
          have e10 := HBA.out.cell 10
          have e11 := HBA.out.cell 11
          have e12 := HBA.out.cell 12
          simp at e2 e3 e4 e10 e11 e12
          have lp3 := LP.out W1 _ _ _ _ RLA.out.rx HH1.out RLA.out.low
          simp only [Hd.cells, k3] at lp3
          rw [k3] at d0 e0 hW1e
          have K3 := Lib.hid k3
          have LP3 := Lib.hid lp3
          clear k3 k2 k4 lp3
          go_wp2_with fail
          refine LP3.out.mono ?_
          rintro e' w3 ⟨⟨c2, σ2, vh2, vm2, vo2, rfl, hev, hx2, hv2⟩, hf2⟩
          have RL2 := Lib.hid (RLA.out.step HBB.out hx2 hf2 hv2)
          have HEV := Lib.hid (Ev.loop (e := e) (b := b) K3.out hev)
          clear hev hx2 hv2 hf2
          have hal := RL2.out.rx.halAt
          by_cases hc : c2 = 0
          rotate_left
          · have y0 : (c2 == 0) = false := by simpa using hc
            have y1 : (c2 != 0) = true := by simp [bne, y0]
            have HC := Lib.hid hc
            clear hc hal
            go_wp2_with fail
            go_ret
            exact ⟨⟨c2, σ2, vh2, vm2, vo2, rfl, HTO.out _ _ (Ev.stop HEV.out (.inl HC.out)), RL2.out.rx, RL2.out.rel⟩, RL2.out.frm⟩
          subst hc
          obtain ⟨hl2, hhl2⟩ : ∃ z, σ2.hal = z := ⟨_, rfl⟩
          rw [hhl2] at hal
          have HHL := Lib.hid hhl2
          clear hhl2
          cases hl2
          rotate_left
          · go_wp2_with fail
            go_ret
            exact ⟨⟨0, σ2, vh2, vm2, vo2, rfl, HTO.out _ _ (Ev.stop HEV.out (.inr HHL.out)), RL2.out.rx, RL2.out.rel⟩, RL2.out.frm⟩
          · go_wp2_with fail
            go_roundw
            case rel => exact ⟨k + 1, r, σ2, vh2, vm2, vo2, by have := HK.out; omega, by go_num, by have := HRS.out; rwa [show o + k * 13 + 13 = o + (k + 1) * 13 by omega] at this, by have := HTT.out; omega, RL2.out, HHL.out, fun c3 σ3 h3 => HTO.out _ _ (Ev.next HEV.out HHL.out h3)⟩
            case measure => simp [intOf]; omega
        have y4 : (h.k == 4) = false := by simpa using k4
        have y2 : (h.k == 2) = false := by simpa using k2
        have y3 : (h.k == 3) = false := by simpa using k3
        have HKK := Lib.hid (show h.k ≠ 4 ∧ h.k ≠ 2 ∧ h.k ≠ 3 from ⟨k4, k2, k3⟩)
        clear k4 k2 k3
        by_cases k26 : h.i.o = 26
        · rw [k26] at d1 e1 hW1e
          have K26 := Lib.hid k26
          clear k26
          go_upto_region 7 with fail
          try rw [hW1e]
          clear hW1e
          have hS : (fun W => W.cell? ⟨q, 264, none⟩ = some (.func (.func 65) #[] #[.pointer (some ⟨u, 0, none⟩), .pointer (some ⟨p9, 0, none⟩)]) ∧ W.cell? ⟨q, 0, none⟩ = some (.int .u32 σ1.s.m.a)) W1.drew := ⟨RLA.out.rx.outAt, RLA.out.rx.c0⟩
          refine wp_region_held_drew (S := fun W => W.cell? ⟨q, 264, none⟩ = some (.func (.func 65) #[] #[.pointer (some ⟨u, 0, none⟩), .pointer (some ⟨p9, 0, none⟩)]) ∧ W.cell? ⟨q, 0, none⟩ = some (.int .u32 σ1.s.m.a)) (by kernel_rfl) hS (fun hHeld => ?_)
          clear hS
          refine wpAnyH_takeD (i := 0) (d := 20) (oi := _) (v := ?_) rfl rfl (by kernel_rfl) (by kernel_rfl) (by kernel_rfl) (fun _ _ _ h => h) (Or.inl ⟨by rfl, ?_⟩) (by assumption) ?_
          rotate_left
          · (intro w hSw; (try dsimp only at hSw); go_simp) <;> with_reducible rfl
          simp only [Act.put, setIfInBounds_toArray, set_cons_zero, set_cons_succ]
          refine wpAnyH_takeD (i := 1) (d := 21) (oi := _) (v := ?_) rfl rfl (by kernel_rfl) (by kernel_rfl) (by kernel_rfl) (fun _ _ _ h => h) (Or.inl ⟨by rfl, ?_⟩) (by assumption) ?_
          rotate_left
          · (intro w hSw; (try dsimp only at hSw); go_simp) <;> with_reducible rfl
          simp only [Act.put, setIfInBounds_toArray, set_cons_zero, set_cons_succ]
          refine wpAnyH_takeD (i := 2) (d := 22) (oi := _) (v := ?_) rfl rfl (by kernel_rfl) (by kernel_rfl) (by kernel_rfl) (fun _ _ _ h => h) (Or.inl ⟨by rfl, ?_⟩) (by assumption) ?_
          rotate_left
          · (intro w hSw; (try dsimp only at hSw); go_simp) <;> with_reducible rfl
          simp only [Act.put, setIfInBounds_toArray, set_cons_zero, set_cons_succ]
          refine wpAnyH_takeD (i := 3) (d := 23) (oi := _) (v := ?_) rfl rfl (by kernel_rfl) (by kernel_rfl) (by kernel_rfl) (fun _ _ _ h => h) (Or.inl ⟨by rfl, ?_⟩) (by assumption) ?_
          rotate_left
          · (intro w hSw; (try dsimp only at hSw); go_simp) <;> with_reducible rfl
          simp only [Act.put, setIfInBounds_toArray, set_cons_zero, set_cons_succ]
          refine wpAnyH_takeD (i := 4) (d := 24) (oi := _) (v := ?_) rfl rfl (by kernel_rfl) (by kernel_rfl) (by kernel_rfl) (fun _ _ _ h => h) (Or.inl ⟨by rfl, ?_⟩) (by assumption) ?_
          rotate_left
          · (intro w hSw; (try dsimp only at hSw); go_simp) <;> with_reducible rfl
          simp only [Act.put, setIfInBounds_toArray, set_cons_zero, set_cons_succ]
          refine wpAnyH_takeD (i := 5) (d := 25) (oi := _) (v := ?_) rfl rfl (by kernel_rfl) (by kernel_rfl) (by kernel_rfl) (fun _ _ _ h => h) (Or.inl ⟨by rfl, ?_⟩) (by assumption) ?_
          rotate_left
          · (intro w hSw; (try dsimp only at hSw); go_simp) <;> with_reducible rfl
          simp only [Act.put, setIfInBounds_toArray, set_cons_zero, set_cons_succ]
          refine wpAnyH_takeD (i := 6) (d := 26) (oi := _) (v := ?_) rfl rfl (by kernel_rfl) (by kernel_rfl) (by kernel_rfl) (fun _ _ _ h => h) (Or.inl ⟨by rfl, ?_⟩) (by assumption) ?_
          rotate_left
          · (intro w hSw; (try dsimp only at hSw); go_simp) <;> with_reducible rfl
          simp only [Act.put, setIfInBounds_toArray, set_cons_zero, set_cons_succ]
          refine wpAnyH_takeD (i := 7) (d := 27) (oi := _) (v := ?_) rfl rfl (by kernel_rfl) (by kernel_rfl) (by kernel_rfl) (fun _ _ _ h => h) (Or.inl ⟨by rfl, ?_⟩) (by assumption) ?_
          rotate_left
          · (intro w hSw; (try dsimp only at hSw); go_simp) <;> with_reducible rfl
          simp only [Act.put, setIfInBounds_toArray, set_cons_zero, set_cons_succ]
          refine wpAnyH_takeD (i := 8) (d := 28) (oi := _) (v := ?_) rfl rfl (by kernel_rfl) (by kernel_rfl) (by kernel_rfl) (fun _ _ _ h => h) (Or.inl ⟨by rfl, ?_⟩) (by assumption) ?_
          rotate_left
          · (intro w hSw; (try dsimp only at hSw); go_simp) <;> with_reducible rfl
          simp only [Act.put, setIfInBounds_toArray, set_cons_zero, set_cons_succ]
          refine wpAnyH_takeD (i := 9) (d := 29) (oi := _) (v := ?_) rfl rfl (by kernel_rfl) (by kernel_rfl) (by kernel_rfl) (fun _ _ _ h => h) (Or.inl ⟨by rfl, ?_⟩) (by assumption) ?_
          rotate_left
          · (intro w hSw; (try dsimp only at hSw); go_simp) <;> with_reducible rfl
          simp only [Act.put, setIfInBounds_toArray, set_cons_zero, set_cons_succ]
          refine wpAnyH_ready (rs := [10]) (by kernel_rfl) (by simp) ?_
          refine AllReadyH.cons (o := _) rfl (fun K hK => ?_) AllReadyH.nil
          go_simp
          refine (out65 _ (RLA.out.rx.drewN 1) HMO.out).mono ?_
          rintro e' w2 (⟨hle, rfl, rfl⟩ | ⟨hltm, rfl, vo2, hx2, hf2, hv2⟩)
          · have HLE := Lib.hid hle
            clear hle
            go_wp2_with fail
            refine hK.out _ _ hHeld (fun hHeld2 => ?_)
            clear hK K
            try simp only [List.getElem_toArray, List.getElem_cons_zero, List.getElem_cons_succ, Act.put, setIfInBounds_toArray, set_cons_zero, set_cons_succ]
            refine wpAnyH_takeD (i := 11) (d := 7) (oi := _) (v := ?_) rfl rfl (by kernel_rfl) (by kernel_rfl) (by kernel_rfl) (fun _ _ _ h => h) (Or.inl ⟨by rfl, ?_⟩) (by assumption) ?_
            rotate_left
            · (intro w hSw; (try dsimp only at hSw); go_simp) <;> with_reducible rfl
            simp only [Act.put, setIfInBounds_toArray, set_cons_zero, set_cons_succ]
            refine wpAnyH_done (by kernel_rfl) ?_ _
            have RL2 := Lib.hid (RLA.out.step HBB.out (RLA.out.rx.drewN 1) ((Frm.refl _ W1).drewN 1) (fun k hk => .inl hk))
            clear hHeld hHeld2
            go_wp2_with fail
            go_ret
            exact ⟨⟨112, σ1, vh1, vm1, vo1, rfl, HTO.out _ _ (Ev.stop (Ev.full HKK.out K26.out HLE.out) (.inl (by decide))), RL2.out.rx, RL2.out.rel⟩, RL2.out.frm⟩
          · have RL2 := Lib.hid (RLA.out.step HBB.out hx2 (((Frm.refl (Sx q u vo1) W1).drewN 1).trans hf2 (fun _ _ h => h)) hv2)
            have HEV := Lib.hid (Ev.put (e := e) (b := b) (most := most) HKK.out K26.out hltm)
            clear hltm hx2 hf2 hv2
            go_wp2_with fail
            refine hK.out _ _ ⟨RL2.out.rx.outAt, RL2.out.rx.c0⟩ (fun hHeld2 => ?_)
            clear hK K hHeld
            try simp only [List.getElem_toArray, List.getElem_cons_zero, List.getElem_cons_succ, Act.put, setIfInBounds_toArray, set_cons_zero, set_cons_succ]
            refine wpAnyH_takeD (i := 11) (d := 7) (oi := _) (v := ?_) rfl rfl (by kernel_rfl) (by kernel_rfl) (by kernel_rfl) (fun _ _ _ h => h) (Or.inl ⟨by rfl, ?_⟩) (by assumption) ?_
            rotate_left
            · (intro w hSw; (try dsimp only at hSw); go_simp) <;> with_reducible rfl
            simp only [Act.put, setIfInBounds_toArray, set_cons_zero, set_cons_succ]
            refine wpAnyH_done (by kernel_rfl) ?_ _
            have hal := RL2.out.rx.halAt
            rw [show ({ σ1 with out := σ1.out ++ [σ1.s.m.a % 256] } : Rs).hal = false from HH1.out] at hal
            clear hHeld2
            go_wp2_with fail
            go_roundw
            case rel => exact ⟨k + 1, r, _, _, _, _, by have := HK.out; omega, by go_num, by have := HRS.out; rwa [show o + k * 13 + 13 = o + (k + 1) * 13 by omega] at this, by have := HTT.out; omega, RL2.out, HH1.out, fun c3 σ3 h3 => HTO.out _ _ (Ev.next HEV.out HH1.out h3)⟩
            case measure => simp [intOf]; omega
        · have y26 : (h.i.o == 26) = false := by simpa using k26
          have K26 := Lib.hid k26
          clear k26
          have e2 := HD2.out.1
          have e3 := HD2.out.2.1
          have e4 := HD2.out.2.2
          simp at e2 e3 e4
          go_upto_region 8 with fail
          try rw [hW1e]
          clear hW1e
          have hx1 := RLA.out.rx.drewN 1
          have hd := do25_own h.i.o h.i.d h.i.s h.i.n σ1.s hx1.m hx1.hw hx1.mo _ vh1 vm1 W1.drew hx1.rh hx1.rm hx1.lh hx1.lm HDK.out.i.o0
          have hok := DoS_ok h.i.o h.i.d h.i.s h.i.n hx1.m hx1.hw hx1.mo
          have hln := DoS_len h.i.o h.i.d h.i.s h.i.n σ1.s
          obtain ⟨s2, hs2⟩ : ∃ z, DoS h.i.o h.i.d h.i.s h.i.n σ1.s = z := ⟨_, rfl⟩
          rw [hs2] at hd hok hln
          have z9 := Mc.size hx1.m vh1 vm1
          have rg := hx1.range
          obtain ⟨c9, hc9⟩ : ∃ z, σ1.s.m.cells vh1 vm1 = z := ⟨_, rfl⟩
          have hl9 : σ1.s.m.list vh1 vm1 = c9.toList := by rw [← hc9]; rfl
          rw [hc9] at z9 hd
          rw [hl9] at rg
          have SL : Hid ((Try.prog.info? 50).map (·.size) = some c9.toList.length) := Lib.hid (by rw [Array.length_toList, z9]; exact size50)
          have RG := Lib.hid rg
          have HX1 := Lib.hid hx1
          have HD := Lib.hid hd
          have HOK := Lib.hid hok
          have HLNN := Lib.hid hln
          have HS2 := Lib.hid hs2
          have HLH := Lib.hid hx1.lh
          have HLM := Lib.hid hx1.lm
          clear hx1 hd hok hln hs2 z9 rg hc9 hl9
          have F1 := Lib.hid (Below.drew (Below.refl W1.heap.size W1))
          have hS : (fun W => W.cell? ⟨wr.heap.size, 1, none⟩ = some (.int .u8 h.i.o) ∧ W.cell? ⟨wr.heap.size, 2, none⟩ = some (.int .i64 h.i.d) ∧ W.cell? ⟨wr.heap.size, 3, none⟩ = some (.int .i64 h.i.s) ∧ W.cell? ⟨wr.heap.size, 4, none⟩ = some (.int .i64 h.i.n)) W1.drew := ⟨e1, e2, e3, e4⟩
          refine wp_region_held_drew (S := fun W => W.cell? ⟨wr.heap.size, 1, none⟩ = some (.int .u8 h.i.o) ∧ W.cell? ⟨wr.heap.size, 2, none⟩ = some (.int .i64 h.i.d) ∧ W.cell? ⟨wr.heap.size, 3, none⟩ = some (.int .i64 h.i.s) ∧ W.cell? ⟨wr.heap.size, 4, none⟩ = some (.int .i64 h.i.n)) (by kernel_rfl) hS (fun hHeld => ?_)
          clear hS
          refine wpAnyH_takeD (i := 0) (d := 31) (oi := _) (v := ?_) rfl rfl (by kernel_rfl) (by kernel_rfl) (by kernel_rfl) (fun _ _ _ h => h) (Or.inl ⟨by rfl, ?_⟩) (by assumption) ?_
          rotate_left
          · (intro w hSw; (try dsimp only at hSw); go_simp) <;> with_reducible rfl
          simp only [Act.put, setIfInBounds_toArray, set_cons_zero, set_cons_succ]
          refine wpAnyH_takeD (i := 1) (d := 32) (oi := _) (v := ?_) rfl rfl (by kernel_rfl) (by kernel_rfl) (by kernel_rfl) (fun _ _ _ h => h) (Or.inl ⟨by rfl, ?_⟩) (by assumption) ?_
          rotate_left
          · (intro w hSw; (try dsimp only at hSw); go_simp) <;> with_reducible rfl
          simp only [Act.put, setIfInBounds_toArray, set_cons_zero, set_cons_succ]
          refine wpAnyH_takeD (i := 2) (d := 33) (oi := _) (v := ?_) rfl rfl (by kernel_rfl) (by kernel_rfl) (by kernel_rfl) (fun _ _ _ h => h) (Or.inl ⟨by rfl, ?_⟩) (by assumption) ?_
          rotate_left
          · (intro w hSw; (try dsimp only at hSw); go_simp) <;> with_reducible rfl
          simp only [Act.put, setIfInBounds_toArray, set_cons_zero, set_cons_succ]
          refine wpAnyH_takeD (i := 3) (d := 34) (oi := _) (v := ?_) rfl rfl (by kernel_rfl) (by kernel_rfl) (by kernel_rfl) (fun _ _ _ h => h) (Or.inl ⟨by rfl, ?_⟩) (by assumption) ?_
          rotate_left
          · (intro w hSw; (try dsimp only at hSw); go_simp) <;> with_reducible rfl
          simp only [Act.put, setIfInBounds_toArray, set_cons_zero, set_cons_succ]
          refine wpAnyH_takeD (i := 4) (d := 35) (oi := _) (v := ?_) rfl rfl (by kernel_rfl) (by kernel_rfl) (by kernel_rfl) (fun _ _ _ h => h) (Or.inl ⟨by rfl, ?_⟩) (by assumption) ?_
          rotate_left
          · (intro w hSw; (try dsimp only at hSw); go_simp) <;> with_reducible rfl
          simp only [Act.put, setIfInBounds_toArray, set_cons_zero, set_cons_succ]
          refine wpAnyH_takeD (i := 5) (d := 36) (oi := _) (v := ?_) rfl rfl (by kernel_rfl) (by kernel_rfl) (by kernel_rfl) (fun _ _ _ h => h) (Or.inl ⟨by rfl, ?_⟩) (by assumption) ?_
          rotate_left
          · (intro w hSw; (try dsimp only at hSw); go_simp) <;> with_reducible rfl
          simp only [Act.put, setIfInBounds_toArray, set_cons_zero, set_cons_succ]
          refine wpAnyH_ready (rs := [6]) (by kernel_rfl) (by simp) ?_
          refine AllReadyH.cons (o := _) rfl (fun K hK => ?_) AllReadyH.nil
          rw [if_pos (by rfl)]
          try simp only [List.getElem_toArray, List.getElem_cons_zero, List.getElem_cons_succ]
          refine wp_load_mid 50 (.tmp 36) rfl q 0 rfl c9.toList _ RG.out Try.underlying50 rfl SL.out ?_
          refine hK.out _ _ hHeld (fun hHeld => ?_)
          clear hK K
          try simp only [List.getElem_toArray, List.getElem_cons_zero, List.getElem_cons_succ, Act.put, setIfInBounds_toArray, set_cons_zero, set_cons_succ]
          refine wpAnyH_ready (rs := [7]) (by kernel_rfl) (by simp) ?_
          refine AllReadyH.cons (o := _) rfl (fun K hK => ?_) AllReadyH.nil
          go_simp
          refine HD.out.mono ?_
          rintro e' w2 ⟨⟨z1, z2, rfl, o1, o2⟩, l1⟩
          have F2 := Lib.hid (ch0 F1.out l1)
          have hdid := HX1.out.did l1 o1 o2 HOK.out.1 HOK.out.2.1 HOK.out.2.2 (by rw [HLNN.out.1]; exact HLH.out) (by rw [HLNN.out.2]; exact HLM.out)
          have one := Mc.one (m := s2.m) o1.one o2.one
          have zz := Mc.size HOK.out.1 z1 z2
          have th := (HX1.out.below l1).there (n := 263) (by omega)
          obtain ⟨c2, hc2⟩ : ∃ z, s2.m.cells z1 z2 = z := ⟨_, rfl⟩
          have hl2 : s2.m.list z1 z2 = c2.toList := by rw [← hc2]; rfl
          rw [hc2] at one zz ⊢
          rw [hl2] at hdid
          rw [← zz] at th
          have SI : Hid ((Try.prog.info? 50).map (·.size) = some c2.size) := Lib.hid (by rw [zz]; exact size50)
          have ONE := Lib.hid one
          have TH := Lib.hid th
          have HDID := Lib.hid hdid
          clear o1 o2 l1 hdid one zz th hc2 hl2
          go_wp2_with fail
          refine hK.out _ _ ⟨(by have := (HBA.out.below F2.out).cell 1; simpa using this), (by have := (HBA.out.below F2.out).cell 2; simpa using this), (by have := (HBA.out.below F2.out).cell 3; simpa using this), (by have := (HBA.out.below F2.out).cell 4; simpa using this)⟩ (fun hHeld => ?_)
          clear hK K
          try simp only [List.getElem_toArray, List.getElem_cons_zero, List.getElem_cons_succ, Act.put, setIfInBounds_toArray, set_cons_zero, set_cons_succ]
          refine wpAnyH_takeD (i := 8) (d := 39) (oi := _) (v := ?_) rfl rfl (by kernel_rfl) (by kernel_rfl) (by kernel_rfl) (fun _ _ _ h => h) (Or.inl ⟨by rfl, ?_⟩) (by assumption) ?_
          rotate_left
          · (intro w hSw; (try dsimp only at hSw); go_simp) <;> with_reducible rfl
          simp only [Act.put, setIfInBounds_toArray, set_cons_zero, set_cons_succ]
          refine wpAnyH_takeD (i := 9) (d := 40) (oi := _) (v := ?_) rfl rfl (by kernel_rfl) (by kernel_rfl) (by kernel_rfl) (fun _ _ _ h => h) (Or.inl ⟨by rfl, ?_⟩) (by assumption) ?_
          rotate_left
          · (intro w hSw; (try dsimp only at hSw); go_simp) <;> with_reducible rfl
          simp only [Act.put, setIfInBounds_toArray, set_cons_zero, set_cons_succ]
          refine wpAnyH_ready (rs := [10]) (by kernel_rfl) (by simp) ?_
          refine AllReadyH.cons (o := _) rfl (fun K hK => ?_) AllReadyH.nil
          rw [if_pos (by rfl)]
          try simp only [List.getElem_toArray, List.getElem_cons_zero, List.getElem_cons_succ]
          refine wp_store_mid 50 (.tmp 40) (.tmp 38) rfl q 0 c2 rfl rfl TH.out SI.out ONE.out ?_
          have hfr : Frm (Sx q u vo1) W1 (w2.setCells q 0 c2.toList) := (Frm.of_below F2.out).trans (T := Sx q u vo1) (HDID.out.2.mono (fun _ _ h => .inl h)) (fun _ _ h => h)
          have hb2 := RLA.out.box HBA.out (by have := HWR.out; omega) (by have := HWR.out; omega) (by decide) hfr
          have hrl2 := RLA.out.step HBB.out HDID.out.1 hfr (fun k hk => .inl hk)
          obtain ⟨W2, hW2⟩ : ∃ z, w2.setCells q 0 c2.toList = z := ⟨_, rfl⟩
          rw [hW2] at hb2 hrl2 ⊢
          have HB2 := Lib.hid hb2
          have RL2 := Lib.hid hrl2
          have HEV := Lib.hid (show Ev most (.one h b e) σ1 0 { σ1 with s := s2 } from by
            have hp := Ev.plain (most := most) (e := e) (b := b) (σ := σ1) HKK.out K26.out
            unfold doI at hp
            rw [HS2.out] at hp
            exact hp)
          refine hK.out _ _ ⟨(by have := HB2.out.cell 1; simpa using this), (by have := HB2.out.cell 2; simpa using this), (by have := HB2.out.cell 3; simpa using this), (by have := HB2.out.cell 4; simpa using this)⟩ (fun hHeld2 => ?_)
          clear hK K hHeld2 hW2 hfr hb2 hrl2 HDID hHeld
          try simp only [List.getElem_toArray, List.getElem_cons_zero, List.getElem_cons_succ, Act.put, setIfInBounds_toArray, set_cons_zero, set_cons_succ]
          refine wpAnyH_done (by kernel_rfl) ?_ _
          have hal := RL2.out.rx.halAt
          rw [show ({ σ1 with s := s2 } : Rs).hal = false from HH1.out] at hal
          go_wp2_with fail
          go_roundw
          case rel => exact ⟨k + 1, r, _, _, _, _, by have := HK.out; omega, by go_num, by have := HRS.out; rwa [show o + k * 13 + 13 = o + (k + 1) * 13 by omega] at this, by have := HTT.out; omega, RL2.out, HH1.out, fun c3 σ3 h3 => HTO.out _ _ (Ev.next HEV.out HH1.out h3)⟩
          case measure => simp [intOf]; omega
end Go.Proofs.Ytebmgladdgmmeaa
