/- The reference of chapter 19: each, Right, Count, Config: walks. Condition: at most a million statements. -/
import Derived.Test.YtebmgladdgmmeaaGRd
namespace Go.Proofs.Ytebmgladdgmmeaa
open Go.RowKit Go.WideShapes
set_option linter.unusedVariables false
set_option linter.unusedSimpArgs false
/-- Where the loop stands: all ahead are right. -/
structure AtE (B z g o : Nat) (f : Fo) (post : Bool) (w0 : World) (i : Value) (w : World) : Prop where
  ex : ∃ (k : Nat) (r : Fo), k + r.len = f.len ∧ i = .int .i64 k ∧ RdF B w r g (o + k * 13) ∧ r.tot ≤ f.tot ∧ egF post f = egF post r ∧ Blk w z 31 #[.int .u8 0, .int .i64 0, .int .i64 0, .int .i64 0]
  low : Below w0.heap.size w0 w
def EaR (N : Nat) : Prop := ∀ (f : Fo), f.tot ≤ N → ∀ (B : Nat) (post : Bool) (c : Nat) (A : Option Addr) (w : World), RdS B w A f → B ≤ w.heap.size → f.len ≤ c → f.len ≤ lenMost →
  Calls Try.prog 48 #[.slice A f.len c, .bool post] w (Quiet (.bool (egF post f)) w)
set_option maxRecDepth 100000 in
set_option maxHeartbeats 16000000 in
theorem eachR : ∀ N, EaR N := by
  intro N
  induction N with
  | zero =>
    intro f hf B post c A w hr hB hc hl
    have hfl := f.len_tot
    obtain rfl : f = .nil := Fo.nil_of (by omega)
    clear hr
    have e0 : egF post .nil = true := rfl
    rw [e0]
    go_enter Try.func48, Try.ntmps48
    go_wp2_with fail
    go_loopw [6] (fun i wr => i = .int .i64 0 ∧ Below w.heap.size w wr) (fun _ _ => 0)
    case atStart => exact ⟨rfl, (Below.refl _ _).alloc (Nat.le_refl _) _⟩
    case round =>
      obtain ⟨rfl, hb⟩ := hrel
      have HB := Lib.hid hb
      clear hb
      go_wp2_with fail
      go_ret
      exact ⟨rfl, HB.out⟩
  | succ N ih =>
    have IH := Lib.hid ih
    clear ih
    intro f hf B post c A w hr hB hc hl
    have hg : ∃ g o, (0 < f.len → A = some ⟨g, o, none⟩) ∧ RdF B w f g o := by
      rcases Nat.eq_zero_or_pos f.len with h0 | h0
      · obtain rfl := Fo.nil_of h0
        exact ⟨0, 0, fun h => absurd h (by simp [Fo.len]), trivial⟩
      · obtain ⟨g, o, e, h⟩ := hr h0
        exact ⟨g, o, fun _ => e, h⟩
    obtain ⟨g, o, hA, hrd⟩ := hg
    have hal : Below B w (w.alloc (.cells #[.int .u8 0, .int .i64 0, .int .i64 0, .int .i64 0] 31)) := (Below.refl _ _).alloc hB _
    have hst : AtE B w.heap.size g o f post w (.int .i64 0) (w.alloc (.cells #[.int .u8 0, .int .i64 0, .int .i64 0, .int .i64 0] 31)) := ⟨⟨0, f, by omega, rfl, by simpa using hrd.below hal, Nat.le_refl _, rfl, Blk.new _ _ _⟩, (Below.refl _ _).alloc (Nat.le_refl _) _⟩
    have HST := Lib.hid hst
    have HA := Lib.hid hA
    clear hst hrd hr hA hal
    obtain ⟨len, hlen⟩ : ∃ len, f.len = len := ⟨_, rfl⟩
    rw [hlen] at hc hl ⊢
    have HLN := Lib.hid hlen
    clear hlen
    unfold lenMost at hl
    go_enter Try.func48, Try.ntmps48
    go_wp2_with fail
    have hzz : ∃ z, z = w.heap.size := ⟨_, rfl⟩
    go_loopw [6] (fun i wr => AtE B w.heap.size g o f post w i wr) (fun i _ => len - (intOf i).toNat)
    case atStart => exact HST.out
    case round =>
      clear hzz
      obtain ⟨⟨k, r, hk, rfl, hrd, htot, heg, hz⟩, hlow⟩ := hrel
      have hlw := hlow.size
      rcases r with _ | ⟨h, b, e, r⟩
      · have hkl : k = len := by simp only [Fo.len] at hk; have := HLN.out; omega
        subst hkl
        have hfin : Quiet (.bool (egF post f)) w (.returned (.bool true)) wr := ⟨by rw [heg]; rfl, hlow⟩
        have HFN := Lib.hid hfin
        have g3 : decide (k < k) = false := by simp
        clear heg hrd hfin hk htot hlow HST hz
        go_wp2_with fail
        go_ret
        exact HFN.out
      · obtain ⟨hdok, hg, ⟨Ab, cb, Ae, ce, hcl, hbl, hel, hb, he⟩, hrest⟩ := hrd
        simp only [Fo.len] at hk
        simp only [egF] at heg
        simp only [Fo.tot] at htot
        have hkl : k < len := by have := HLN.out; omega
        have hkI : (k : Int) < (len : Int) := by omega
        have hk0 : (0 : Int) ≤ (k : Int) := by omega
        have g3 : decide (k < len) = true := by simpa using hkl
        have hcells := Cells.of hcl
        obtain ⟨c0, c1, c2, c3, c4, c5, c6, c7, c8, c9, c10, c11, c12⟩ := hcells
        have hA := HA.out (by rw [HLN.out]; omega)
        subst hA
        obtain ⟨xb, hxb⟩ : ∃ x, egF post b = x := ⟨_, rfl⟩
        obtain ⟨xe, hxe⟩ : ∃ x, egF post e = x := ⟨_, rfl⟩
        have hbr : ∀ W, Below wr.heap.size wr W → Calls Try.prog 48 #[.slice Ab b.len cb, .bool post] W (Quiet (.bool xb) W) := fun W hW => by
          have := IH.out b (by omega) B post cb Ab W ((show RdS B wr Ab b from hb).below (hW.mono (by omega))) (by have := hW.size; omega) hbl.1 hbl.2.2
          rwa [hxb] at this
        have her : ∀ W, Below wr.heap.size wr W → Calls Try.prog 48 #[.slice Ae e.len ce, .bool post] W (Quiet (.bool xe) W) := fun W hW => by
          have := IH.out e (by omega) B post ce Ae W ((show RdS B wr Ae e from he).below (hW.mono (by omega))) (by have := hW.size; omega) hel.1 hel.2.2
          rwa [hxe] at this
        rw [hxb, hxe] at heg
        have hpl := fun W => plainR_any h.i post W hdok.i.o0
        have hcd := fun W => condR_any h.nt h.ci W hdok.ci.o0
        have hk0' := hdok.k0
        have hnext : ∀ W, Below wr.heap.size wr W → egF post f = egF post r → AtE B w.heap.size g o f post w (.int .i64 ((k : Int) + 1)) W := fun W hW hE =>
          ⟨⟨k + 1, r, by omega, by go_num, by have := hrest.below (hW.mono (show B ≤ wr.heap.size by omega)); rwa [show o + k * 13 + 13 = o + (k + 1) * 13 by omega] at this, by omega, hE, hz.below hW⟩, hlow.trans (hW.mono hlw)⟩
        have HNX := Lib.hid hnext
        obtain ⟨kd, ⟨io, id_, is_, in_⟩, nt, ⟨co, cd, cs, cn⟩, ln⟩ := h
        simp only at *
        unfold In.agg at hpl
        simp only at hpl
        have HZ := Lib.hid hz
        have HLW := Lib.hid hlow
        have hbx := Blk.new wr 35 #[.int .u8 kd, .int .u8 io, .int .i64 id_, .int .i64 is_, .int .i64 in_, .bool nt, .int .u8 co, .int .i64 cd, .int .i64 cs, .int .i64 cn, .slice Ab b.len cb, .slice Ae e.len ce, .int .i64 ln]
        have HBX := Lib.hid hbx
        obtain ⟨x, hx⟩ : ∃ x, plainI ⟨io, id_, is_, in_⟩ post = x := ⟨_, rfl⟩
        obtain ⟨y, hy⟩ : ∃ y, condI ⟨co, cd, cs, cn⟩ = y := ⟨_, rfl⟩
        obtain ⟨q, hq⟩ : ∃ q, condEq nt ⟨co, cd, cs, cn⟩ false zI = q := ⟨_, rfl⟩
        obtain ⟨p, hp⟩ : ∃ p, inEq ⟨io, id_, is_, in_⟩ zI = p := ⟨_, rfl⟩
        obtain ⟨t, ht⟩ : ∃ t, rtH post ⟨kd, ⟨io, id_, is_, in_⟩, nt, ⟨co, cd, cs, cn⟩, ln⟩ b.len e.len = t := ⟨_, rfl⟩
        obtain ⟨er, her2⟩ : ∃ t, egF post r = t := ⟨_, rfl⟩
        have hv : t = if kd = 1 then (q && decide (b.len + e.len = 0)) && x else if kd = 4 then (q && decide (b.len + e.len = 0)) && p else if kd = 2 ∨ kd = 3 then p && y && (decide (kd = 2) || decide (e.len = 0)) else false := by
          rw [← ht]
          unfold rtH bareH
          simp only [zI] at *
          rw [hx, hy, hq, hp]
        rw [ht, her2] at heg
        rw [hx] at hpl
        rw [hy] at hcd
        rw [her2] at HNX
        have eqc := fun W => eqCond nt co cd cs cn false 0 0 0 0 W
        have eqi := fun W => eqIn io id_ is_ in_ 0 0 0 0 W
        unfold zI at hq hp
        rw [hq] at eqc
        rw [hp] at eqi
        have hzd : decide (b.len + e.len = 0) = (decide (b.len = 0) && decide (e.len = 0)) := by
          by_cases e1 : b.len = 0 <;> by_cases e2 : e.len = 0 <;> simp [e1, e2]
        rw [hzd] at hv
        have ez1 : ((b.len : Int) == 0) = decide (b.len = 0) := by
          by_cases e1 : b.len = 0
          · rw [decide_eq_true e1, e1]; rfl
          · rw [decide_eq_false e1]; simp; omega
        have ez2 : ((e.len : Int) == 0) = decide (e.len = 0) := by
          by_cases e1 : e.len = 0
          · rw [decide_eq_true e1, e1]; rfl
          · rw [decide_eq_false e1]; simp; omega
        generalize hzb : decide (b.len = 0) = zb at *
        generalize hze : decide (e.len = 0) = ze at *
        have HPL := Lib.hid hpl
        have HCD := Lib.hid hcd
        have HBR := Lib.hid hbr
        have HER := Lib.hid her
        have HEG := Lib.hid heg
        generalize hbn : b.len = bn at *
        generalize hen : e.len = en at *
        clear hbr her hrest hb he heg hcl hpl hcd hnext hz hlow hbx hx hy hq hp ht her2 hzd hzb hze hxb hxe hbn hen HST hdok
        rcases (show kd = 1 ∨ kd = 4 ∨ kd = 2 ∨ kd = 3 ∨ (kd ≠ 1 ∧ kd ≠ 4 ∧ kd ≠ 2 ∧ kd ≠ 3) from by omega) with hk' | hk' | hk' | hk' | hk'
        · subst hk'
          rw [if_pos rfl] at hv
          have HV := Lib.hid hv
          clear hv
          cases x
          · skip
            have BX := (Below.refl wr.heap.size wr).alloc (Nat.le_refl _) (.cells #[.int .u8 1, .int .u8 io, .int .i64 id_, .int .i64 is_, .int .i64 in_, .bool nt, .int .u8 co, .int .i64 cd, .int .i64 cs, .int .i64 cn, .slice Ab bn cb, .slice Ae en ce, .int .i64 ln] 35)
            have K0 := Lib.hid BX
            clear BX
            have z0 := (HZ.out.below K0.out).cell 0
            have z1 := (HZ.out.below K0.out).cell 1
            have z2 := (HZ.out.below K0.out).cell 2
            have z3 := (HZ.out.below K0.out).cell 3
            simp at z0 z1 z2 z3
            go_wp2_with fail
            refine (HPL.out _).mono ?_
            rintro e1 w1 ⟨rfl, hb1⟩
            have BB1 := Lib.hid (HBX.out.below hb1)
            have K1 := Lib.hid (K0.out.trans (hb1.mono K0.out.size))
            have d1_5 := BB1.out.cell 5
            have d1_6 := BB1.out.cell 6
            have d1_7 := BB1.out.cell 7
            have d1_8 := BB1.out.cell 8
            have d1_9 := BB1.out.cell 9
            have d1_10 := BB1.out.cell 10
            have d1_11 := BB1.out.cell 11
            simp at d1_5 d1_6 d1_7 d1_8 d1_9 d1_10 d1_11
            clear hb1
            go_wp2_with fail
            go_ret
            exact ⟨by rw [HEG.out, HV.out]; simp, HLW.out.trans (K1.out.mono hlw)⟩
          · skip
            cases q
            · skip
              have BX := (Below.refl wr.heap.size wr).alloc (Nat.le_refl _) (.cells #[.int .u8 1, .int .u8 io, .int .i64 id_, .int .i64 is_, .int .i64 in_, .bool nt, .int .u8 co, .int .i64 cd, .int .i64 cs, .int .i64 cn, .slice Ab bn cb, .slice Ae en ce, .int .i64 ln] 35)
              have K0 := Lib.hid BX
              clear BX
              have z0 := (HZ.out.below K0.out).cell 0
              have z1 := (HZ.out.below K0.out).cell 1
              have z2 := (HZ.out.below K0.out).cell 2
              have z3 := (HZ.out.below K0.out).cell 3
              simp at z0 z1 z2 z3
              go_wp2_with fail
              refine (HPL.out _).mono ?_
              rintro e1 w1 ⟨rfl, hb1⟩
              have BB1 := Lib.hid (HBX.out.below hb1)
              have K1 := Lib.hid (K0.out.trans (hb1.mono K0.out.size))
              have d1_5 := BB1.out.cell 5
              have d1_6 := BB1.out.cell 6
              have d1_7 := BB1.out.cell 7
              have d1_8 := BB1.out.cell 8
              have d1_9 := BB1.out.cell 9
              have d1_10 := BB1.out.cell 10
              have d1_11 := BB1.out.cell 11
              simp at d1_5 d1_6 d1_7 d1_8 d1_9 d1_10 d1_11
              clear hb1
              go_wp2_with fail
              go_ret
              exact ⟨by rw [HEG.out, HV.out]; simp, HLW.out.trans (K1.out.mono hlw)⟩
            · skip
              cases zb
              · skip
                have BX := (Below.refl wr.heap.size wr).alloc (Nat.le_refl _) (.cells #[.int .u8 1, .int .u8 io, .int .i64 id_, .int .i64 is_, .int .i64 in_, .bool nt, .int .u8 co, .int .i64 cd, .int .i64 cs, .int .i64 cn, .slice Ab bn cb, .slice Ae en ce, .int .i64 ln] 35)
                have K0 := Lib.hid BX
                clear BX
                have z0 := (HZ.out.below K0.out).cell 0
                have z1 := (HZ.out.below K0.out).cell 1
                have z2 := (HZ.out.below K0.out).cell 2
                have z3 := (HZ.out.below K0.out).cell 3
                simp at z0 z1 z2 z3
                go_wp2_with fail
                refine (HPL.out _).mono ?_
                rintro e1 w1 ⟨rfl, hb1⟩
                have BB1 := Lib.hid (HBX.out.below hb1)
                have K1 := Lib.hid (K0.out.trans (hb1.mono K0.out.size))
                have d1_5 := BB1.out.cell 5
                have d1_6 := BB1.out.cell 6
                have d1_7 := BB1.out.cell 7
                have d1_8 := BB1.out.cell 8
                have d1_9 := BB1.out.cell 9
                have d1_10 := BB1.out.cell 10
                have d1_11 := BB1.out.cell 11
                simp at d1_5 d1_6 d1_7 d1_8 d1_9 d1_10 d1_11
                clear hb1
                go_wp2_with fail
                go_ret
                exact ⟨by rw [HEG.out, HV.out]; simp, HLW.out.trans (K1.out.mono hlw)⟩
              · skip
                cases ze
                · skip
                  have BX := (Below.refl wr.heap.size wr).alloc (Nat.le_refl _) (.cells #[.int .u8 1, .int .u8 io, .int .i64 id_, .int .i64 is_, .int .i64 in_, .bool nt, .int .u8 co, .int .i64 cd, .int .i64 cs, .int .i64 cn, .slice Ab bn cb, .slice Ae en ce, .int .i64 ln] 35)
                  have K0 := Lib.hid BX
                  clear BX
                  have z0 := (HZ.out.below K0.out).cell 0
                  have z1 := (HZ.out.below K0.out).cell 1
                  have z2 := (HZ.out.below K0.out).cell 2
                  have z3 := (HZ.out.below K0.out).cell 3
                  simp at z0 z1 z2 z3
                  go_wp2_with fail
                  refine (HPL.out _).mono ?_
                  rintro e1 w1 ⟨rfl, hb1⟩
                  have BB1 := Lib.hid (HBX.out.below hb1)
                  have K1 := Lib.hid (K0.out.trans (hb1.mono K0.out.size))
                  have d1_5 := BB1.out.cell 5
                  have d1_6 := BB1.out.cell 6
                  have d1_7 := BB1.out.cell 7
                  have d1_8 := BB1.out.cell 8
                  have d1_9 := BB1.out.cell 9
                  have d1_10 := BB1.out.cell 10
                  have d1_11 := BB1.out.cell 11
                  simp at d1_5 d1_6 d1_7 d1_8 d1_9 d1_10 d1_11
                  clear hb1
                  go_wp2_with fail
                  go_ret
                  exact ⟨by rw [HEG.out, HV.out]; simp, HLW.out.trans (K1.out.mono hlw)⟩
                · skip
                  cases xb
                  · skip
                    have BX := (Below.refl wr.heap.size wr).alloc (Nat.le_refl _) (.cells #[.int .u8 1, .int .u8 io, .int .i64 id_, .int .i64 is_, .int .i64 in_, .bool nt, .int .u8 co, .int .i64 cd, .int .i64 cs, .int .i64 cn, .slice Ab bn cb, .slice Ae en ce, .int .i64 ln] 35)
                    have K0 := Lib.hid BX
                    clear BX
                    have z0 := (HZ.out.below K0.out).cell 0
                    have z1 := (HZ.out.below K0.out).cell 1
                    have z2 := (HZ.out.below K0.out).cell 2
                    have z3 := (HZ.out.below K0.out).cell 3
                    simp at z0 z1 z2 z3
                    go_wp2_with fail
                    refine (HPL.out _).mono ?_
                    rintro e1 w1 ⟨rfl, hb1⟩
                    have BB1 := Lib.hid (HBX.out.below hb1)
                    have K1 := Lib.hid (K0.out.trans (hb1.mono K0.out.size))
                    have d1_5 := BB1.out.cell 5
                    have d1_6 := BB1.out.cell 6
                    have d1_7 := BB1.out.cell 7
                    have d1_8 := BB1.out.cell 8
                    have d1_9 := BB1.out.cell 9
                    have d1_10 := BB1.out.cell 10
                    have d1_11 := BB1.out.cell 11
                    simp at d1_5 d1_6 d1_7 d1_8 d1_9 d1_10 d1_11
                    clear hb1
                    go_wp2_with fail
                    refine (HBR.out _ K1.out).mono ?_
                    rintro e2 w2 ⟨rfl, hb2⟩
                    have BB2 := Lib.hid (BB1.out.below hb2)
                    have K2 := Lib.hid (K1.out.trans (hb2.mono K1.out.size))
                    have d2_10 := BB2.out.cell 10
                    have d2_11 := BB2.out.cell 11
                    simp at d2_10 d2_11
                    clear hb2
                    go_wp2_with fail
                    go_ret
                    exact ⟨by rw [HEG.out, HV.out]; simp, HLW.out.trans (K2.out.mono hlw)⟩
                  · skip
                    cases xe
                    · skip
                      have BX := (Below.refl wr.heap.size wr).alloc (Nat.le_refl _) (.cells #[.int .u8 1, .int .u8 io, .int .i64 id_, .int .i64 is_, .int .i64 in_, .bool nt, .int .u8 co, .int .i64 cd, .int .i64 cs, .int .i64 cn, .slice Ab bn cb, .slice Ae en ce, .int .i64 ln] 35)
                      have K0 := Lib.hid BX
                      clear BX
                      have z0 := (HZ.out.below K0.out).cell 0
                      have z1 := (HZ.out.below K0.out).cell 1
                      have z2 := (HZ.out.below K0.out).cell 2
                      have z3 := (HZ.out.below K0.out).cell 3
                      simp at z0 z1 z2 z3
                      go_wp2_with fail
                      refine (HPL.out _).mono ?_
                      rintro e1 w1 ⟨rfl, hb1⟩
                      have BB1 := Lib.hid (HBX.out.below hb1)
                      have K1 := Lib.hid (K0.out.trans (hb1.mono K0.out.size))
                      have d1_5 := BB1.out.cell 5
                      have d1_6 := BB1.out.cell 6
                      have d1_7 := BB1.out.cell 7
                      have d1_8 := BB1.out.cell 8
                      have d1_9 := BB1.out.cell 9
                      have d1_10 := BB1.out.cell 10
                      have d1_11 := BB1.out.cell 11
                      simp at d1_5 d1_6 d1_7 d1_8 d1_9 d1_10 d1_11
                      clear hb1
                      go_wp2_with fail
                      refine (HBR.out _ K1.out).mono ?_
                      rintro e2 w2 ⟨rfl, hb2⟩
                      have BB2 := Lib.hid (BB1.out.below hb2)
                      have K2 := Lib.hid (K1.out.trans (hb2.mono K1.out.size))
                      have d2_10 := BB2.out.cell 10
                      have d2_11 := BB2.out.cell 11
                      simp at d2_10 d2_11
                      clear hb2
                      go_wp2_with fail
                      refine (HER.out _ K2.out).mono ?_
                      rintro e3 w3 ⟨rfl, hb3⟩
                      have BB3 := Lib.hid (BB2.out.below hb3)
                      have K3 := Lib.hid (K2.out.trans (hb3.mono K2.out.size))
                      have d3_10 := BB3.out.cell 10
                      have d3_11 := BB3.out.cell 11
                      simp at d3_10 d3_11
                      clear hb3
                      go_wp2_with fail
                      go_ret
                      exact ⟨by rw [HEG.out, HV.out]; simp, HLW.out.trans (K3.out.mono hlw)⟩
                    · skip
                      have BX := (Below.refl wr.heap.size wr).alloc (Nat.le_refl _) (.cells #[.int .u8 1, .int .u8 io, .int .i64 id_, .int .i64 is_, .int .i64 in_, .bool nt, .int .u8 co, .int .i64 cd, .int .i64 cs, .int .i64 cn, .slice Ab bn cb, .slice Ae en ce, .int .i64 ln] 35)
                      have K0 := Lib.hid BX
                      clear BX
                      have z0 := (HZ.out.below K0.out).cell 0
                      have z1 := (HZ.out.below K0.out).cell 1
                      have z2 := (HZ.out.below K0.out).cell 2
                      have z3 := (HZ.out.below K0.out).cell 3
                      simp at z0 z1 z2 z3
                      go_wp2_with fail
                      refine (HPL.out _).mono ?_
                      rintro e1 w1 ⟨rfl, hb1⟩
                      have BB1 := Lib.hid (HBX.out.below hb1)
                      have K1 := Lib.hid (K0.out.trans (hb1.mono K0.out.size))
                      have d1_5 := BB1.out.cell 5
                      have d1_6 := BB1.out.cell 6
                      have d1_7 := BB1.out.cell 7
                      have d1_8 := BB1.out.cell 8
                      have d1_9 := BB1.out.cell 9
                      have d1_10 := BB1.out.cell 10
                      have d1_11 := BB1.out.cell 11
                      simp at d1_5 d1_6 d1_7 d1_8 d1_9 d1_10 d1_11
                      clear hb1
                      go_wp2_with fail
                      refine (HBR.out _ K1.out).mono ?_
                      rintro e2 w2 ⟨rfl, hb2⟩
                      have BB2 := Lib.hid (BB1.out.below hb2)
                      have K2 := Lib.hid (K1.out.trans (hb2.mono K1.out.size))
                      have d2_10 := BB2.out.cell 10
                      have d2_11 := BB2.out.cell 11
                      simp at d2_10 d2_11
                      clear hb2
                      go_wp2_with fail
                      refine (HER.out _ K2.out).mono ?_
                      rintro e3 w3 ⟨rfl, hb3⟩
                      have BB3 := Lib.hid (BB2.out.below hb3)
                      have K3 := Lib.hid (K2.out.trans (hb3.mono K2.out.size))
                      have d3_10 := BB3.out.cell 10
                      have d3_11 := BB3.out.cell 11
                      simp at d3_10 d3_11
                      clear hb3
                      go_wp2_with fail
                      exact ⟨HNX.out _ K3.out (by rw [HEG.out, HV.out]; simp), by simp [intOf]; omega⟩
        · subst hk'
          rw [if_neg (by decide), if_pos rfl] at hv
          have HV := Lib.hid hv
          clear hv
          cases p
          · skip
            have BX := (Below.refl wr.heap.size wr).alloc (Nat.le_refl _) (.cells #[.int .u8 4, .int .u8 io, .int .i64 id_, .int .i64 is_, .int .i64 in_, .bool nt, .int .u8 co, .int .i64 cd, .int .i64 cs, .int .i64 cn, .slice Ab bn cb, .slice Ae en ce, .int .i64 ln] 35)
            have K0 := Lib.hid BX
            clear BX
            have z0 := (HZ.out.below K0.out).cell 0
            have z1 := (HZ.out.below K0.out).cell 1
            have z2 := (HZ.out.below K0.out).cell 2
            have z3 := (HZ.out.below K0.out).cell 3
            simp at z0 z1 z2 z3
            go_wp2_with fail
            go_ret
            exact ⟨by rw [HEG.out, HV.out]; simp, HLW.out.trans (K0.out.mono hlw)⟩
          · skip
            cases q
            · skip
              have BX := (Below.refl wr.heap.size wr).alloc (Nat.le_refl _) (.cells #[.int .u8 4, .int .u8 io, .int .i64 id_, .int .i64 is_, .int .i64 in_, .bool nt, .int .u8 co, .int .i64 cd, .int .i64 cs, .int .i64 cn, .slice Ab bn cb, .slice Ae en ce, .int .i64 ln] 35)
              have K0 := Lib.hid BX
              clear BX
              have z0 := (HZ.out.below K0.out).cell 0
              have z1 := (HZ.out.below K0.out).cell 1
              have z2 := (HZ.out.below K0.out).cell 2
              have z3 := (HZ.out.below K0.out).cell 3
              simp at z0 z1 z2 z3
              go_wp2_with fail
              go_ret
              exact ⟨by rw [HEG.out, HV.out]; simp, HLW.out.trans (K0.out.mono hlw)⟩
            · skip
              cases zb
              · skip
                have BX := (Below.refl wr.heap.size wr).alloc (Nat.le_refl _) (.cells #[.int .u8 4, .int .u8 io, .int .i64 id_, .int .i64 is_, .int .i64 in_, .bool nt, .int .u8 co, .int .i64 cd, .int .i64 cs, .int .i64 cn, .slice Ab bn cb, .slice Ae en ce, .int .i64 ln] 35)
                have K0 := Lib.hid BX
                clear BX
                have z0 := (HZ.out.below K0.out).cell 0
                have z1 := (HZ.out.below K0.out).cell 1
                have z2 := (HZ.out.below K0.out).cell 2
                have z3 := (HZ.out.below K0.out).cell 3
                simp at z0 z1 z2 z3
                go_wp2_with fail
                go_ret
                exact ⟨by rw [HEG.out, HV.out]; simp, HLW.out.trans (K0.out.mono hlw)⟩
              · skip
                cases ze
                · skip
                  have BX := (Below.refl wr.heap.size wr).alloc (Nat.le_refl _) (.cells #[.int .u8 4, .int .u8 io, .int .i64 id_, .int .i64 is_, .int .i64 in_, .bool nt, .int .u8 co, .int .i64 cd, .int .i64 cs, .int .i64 cn, .slice Ab bn cb, .slice Ae en ce, .int .i64 ln] 35)
                  have K0 := Lib.hid BX
                  clear BX
                  have z0 := (HZ.out.below K0.out).cell 0
                  have z1 := (HZ.out.below K0.out).cell 1
                  have z2 := (HZ.out.below K0.out).cell 2
                  have z3 := (HZ.out.below K0.out).cell 3
                  simp at z0 z1 z2 z3
                  go_wp2_with fail
                  go_ret
                  exact ⟨by rw [HEG.out, HV.out]; simp, HLW.out.trans (K0.out.mono hlw)⟩
                · skip
                  cases xb
                  · skip
                    have BX := (Below.refl wr.heap.size wr).alloc (Nat.le_refl _) (.cells #[.int .u8 4, .int .u8 io, .int .i64 id_, .int .i64 is_, .int .i64 in_, .bool nt, .int .u8 co, .int .i64 cd, .int .i64 cs, .int .i64 cn, .slice Ab bn cb, .slice Ae en ce, .int .i64 ln] 35)
                    have K0 := Lib.hid BX
                    clear BX
                    have z0 := (HZ.out.below K0.out).cell 0
                    have z1 := (HZ.out.below K0.out).cell 1
                    have z2 := (HZ.out.below K0.out).cell 2
                    have z3 := (HZ.out.below K0.out).cell 3
                    simp at z0 z1 z2 z3
                    go_wp2_with fail
                    refine (HBR.out _ K0.out).mono ?_
                    rintro e1 w1 ⟨rfl, hb1⟩
                    have BB1 := Lib.hid (HBX.out.below hb1)
                    have K1 := Lib.hid (K0.out.trans (hb1.mono K0.out.size))
                    have d1_10 := BB1.out.cell 10
                    have d1_11 := BB1.out.cell 11
                    simp at d1_10 d1_11
                    clear hb1
                    go_wp2_with fail
                    go_ret
                    exact ⟨by rw [HEG.out, HV.out]; simp, HLW.out.trans (K1.out.mono hlw)⟩
                  · skip
                    cases xe
                    · skip
                      have BX := (Below.refl wr.heap.size wr).alloc (Nat.le_refl _) (.cells #[.int .u8 4, .int .u8 io, .int .i64 id_, .int .i64 is_, .int .i64 in_, .bool nt, .int .u8 co, .int .i64 cd, .int .i64 cs, .int .i64 cn, .slice Ab bn cb, .slice Ae en ce, .int .i64 ln] 35)
                      have K0 := Lib.hid BX
                      clear BX
                      have z0 := (HZ.out.below K0.out).cell 0
                      have z1 := (HZ.out.below K0.out).cell 1
                      have z2 := (HZ.out.below K0.out).cell 2
                      have z3 := (HZ.out.below K0.out).cell 3
                      simp at z0 z1 z2 z3
                      go_wp2_with fail
                      refine (HBR.out _ K0.out).mono ?_
                      rintro e1 w1 ⟨rfl, hb1⟩
                      have BB1 := Lib.hid (HBX.out.below hb1)
                      have K1 := Lib.hid (K0.out.trans (hb1.mono K0.out.size))
                      have d1_10 := BB1.out.cell 10
                      have d1_11 := BB1.out.cell 11
                      simp at d1_10 d1_11
                      clear hb1
                      go_wp2_with fail
                      refine (HER.out _ K1.out).mono ?_
                      rintro e2 w2 ⟨rfl, hb2⟩
                      have BB2 := Lib.hid (BB1.out.below hb2)
                      have K2 := Lib.hid (K1.out.trans (hb2.mono K1.out.size))
                      have d2_10 := BB2.out.cell 10
                      have d2_11 := BB2.out.cell 11
                      simp at d2_10 d2_11
                      clear hb2
                      go_wp2_with fail
                      go_ret
                      exact ⟨by rw [HEG.out, HV.out]; simp, HLW.out.trans (K2.out.mono hlw)⟩
                    · skip
                      have BX := (Below.refl wr.heap.size wr).alloc (Nat.le_refl _) (.cells #[.int .u8 4, .int .u8 io, .int .i64 id_, .int .i64 is_, .int .i64 in_, .bool nt, .int .u8 co, .int .i64 cd, .int .i64 cs, .int .i64 cn, .slice Ab bn cb, .slice Ae en ce, .int .i64 ln] 35)
                      have K0 := Lib.hid BX
                      clear BX
                      have z0 := (HZ.out.below K0.out).cell 0
                      have z1 := (HZ.out.below K0.out).cell 1
                      have z2 := (HZ.out.below K0.out).cell 2
                      have z3 := (HZ.out.below K0.out).cell 3
                      simp at z0 z1 z2 z3
                      go_wp2_with fail
                      refine (HBR.out _ K0.out).mono ?_
                      rintro e1 w1 ⟨rfl, hb1⟩
                      have BB1 := Lib.hid (HBX.out.below hb1)
                      have K1 := Lib.hid (K0.out.trans (hb1.mono K0.out.size))
                      have d1_10 := BB1.out.cell 10
                      have d1_11 := BB1.out.cell 11
                      simp at d1_10 d1_11
                      clear hb1
                      go_wp2_with fail
                      refine (HER.out _ K1.out).mono ?_
                      rintro e2 w2 ⟨rfl, hb2⟩
                      have BB2 := Lib.hid (BB1.out.below hb2)
                      have K2 := Lib.hid (K1.out.trans (hb2.mono K1.out.size))
                      have d2_10 := BB2.out.cell 10
                      have d2_11 := BB2.out.cell 11
                      simp at d2_10 d2_11
                      clear hb2
                      go_wp2_with fail
                      exact ⟨HNX.out _ K2.out (by rw [HEG.out, HV.out]; simp), by simp [intOf]; omega⟩
        · subst hk'
          rw [if_neg (by decide), if_neg (by decide), if_pos (by decide)] at hv
          have HV := Lib.hid hv
          clear hv
          cases p
          · skip
            have BX := (Below.refl wr.heap.size wr).alloc (Nat.le_refl _) (.cells #[.int .u8 2, .int .u8 io, .int .i64 id_, .int .i64 is_, .int .i64 in_, .bool nt, .int .u8 co, .int .i64 cd, .int .i64 cs, .int .i64 cn, .slice Ab bn cb, .slice Ae en ce, .int .i64 ln] 35)
            have K0 := Lib.hid BX
            clear BX
            have z0 := (HZ.out.below K0.out).cell 0
            have z1 := (HZ.out.below K0.out).cell 1
            have z2 := (HZ.out.below K0.out).cell 2
            have z3 := (HZ.out.below K0.out).cell 3
            simp at z0 z1 z2 z3
            go_wp2_with fail
            go_ret
            exact ⟨by rw [HEG.out, HV.out]; simp, HLW.out.trans (K0.out.mono hlw)⟩
          · skip
            cases y
            · skip
              have BX := (Below.refl wr.heap.size wr).alloc (Nat.le_refl _) (.cells #[.int .u8 2, .int .u8 io, .int .i64 id_, .int .i64 is_, .int .i64 in_, .bool nt, .int .u8 co, .int .i64 cd, .int .i64 cs, .int .i64 cn, .slice Ab bn cb, .slice Ae en ce, .int .i64 ln] 35)
              have K0 := Lib.hid BX
              clear BX
              have z0 := (HZ.out.below K0.out).cell 0
              have z1 := (HZ.out.below K0.out).cell 1
              have z2 := (HZ.out.below K0.out).cell 2
              have z3 := (HZ.out.below K0.out).cell 3
              simp at z0 z1 z2 z3
              go_wp2_with fail
              refine (HCD.out _).mono ?_
              rintro e1 w1 ⟨rfl, hb1⟩
              have BB1 := Lib.hid (HBX.out.below hb1)
              have K1 := Lib.hid (K0.out.trans (hb1.mono K0.out.size))
              have d1_10 := BB1.out.cell 10
              have d1_11 := BB1.out.cell 11
              simp at d1_10 d1_11
              clear hb1
              go_wp2_with fail
              go_ret
              exact ⟨by rw [HEG.out, HV.out]; simp, HLW.out.trans (K1.out.mono hlw)⟩
            · skip
              cases xb
              · skip
                have BX := (Below.refl wr.heap.size wr).alloc (Nat.le_refl _) (.cells #[.int .u8 2, .int .u8 io, .int .i64 id_, .int .i64 is_, .int .i64 in_, .bool nt, .int .u8 co, .int .i64 cd, .int .i64 cs, .int .i64 cn, .slice Ab bn cb, .slice Ae en ce, .int .i64 ln] 35)
                have K0 := Lib.hid BX
                clear BX
                have z0 := (HZ.out.below K0.out).cell 0
                have z1 := (HZ.out.below K0.out).cell 1
                have z2 := (HZ.out.below K0.out).cell 2
                have z3 := (HZ.out.below K0.out).cell 3
                simp at z0 z1 z2 z3
                go_wp2_with fail
                refine (HCD.out _).mono ?_
                rintro e1 w1 ⟨rfl, hb1⟩
                have BB1 := Lib.hid (HBX.out.below hb1)
                have K1 := Lib.hid (K0.out.trans (hb1.mono K0.out.size))
                have d1_10 := BB1.out.cell 10
                have d1_11 := BB1.out.cell 11
                simp at d1_10 d1_11
                clear hb1
                go_wp2_with fail
                refine (HBR.out _ K1.out).mono ?_
                rintro e2 w2 ⟨rfl, hb2⟩
                have BB2 := Lib.hid (BB1.out.below hb2)
                have K2 := Lib.hid (K1.out.trans (hb2.mono K1.out.size))
                have d2_10 := BB2.out.cell 10
                have d2_11 := BB2.out.cell 11
                simp at d2_10 d2_11
                clear hb2
                go_wp2_with fail
                go_ret
                exact ⟨by rw [HEG.out, HV.out]; simp, HLW.out.trans (K2.out.mono hlw)⟩
              · skip
                cases xe
                · skip
                  have BX := (Below.refl wr.heap.size wr).alloc (Nat.le_refl _) (.cells #[.int .u8 2, .int .u8 io, .int .i64 id_, .int .i64 is_, .int .i64 in_, .bool nt, .int .u8 co, .int .i64 cd, .int .i64 cs, .int .i64 cn, .slice Ab bn cb, .slice Ae en ce, .int .i64 ln] 35)
                  have K0 := Lib.hid BX
                  clear BX
                  have z0 := (HZ.out.below K0.out).cell 0
                  have z1 := (HZ.out.below K0.out).cell 1
                  have z2 := (HZ.out.below K0.out).cell 2
                  have z3 := (HZ.out.below K0.out).cell 3
                  simp at z0 z1 z2 z3
                  go_wp2_with fail
                  refine (HCD.out _).mono ?_
                  rintro e1 w1 ⟨rfl, hb1⟩
                  have BB1 := Lib.hid (HBX.out.below hb1)
                  have K1 := Lib.hid (K0.out.trans (hb1.mono K0.out.size))
                  have d1_10 := BB1.out.cell 10
                  have d1_11 := BB1.out.cell 11
                  simp at d1_10 d1_11
                  clear hb1
                  go_wp2_with fail
                  refine (HBR.out _ K1.out).mono ?_
                  rintro e2 w2 ⟨rfl, hb2⟩
                  have BB2 := Lib.hid (BB1.out.below hb2)
                  have K2 := Lib.hid (K1.out.trans (hb2.mono K1.out.size))
                  have d2_10 := BB2.out.cell 10
                  have d2_11 := BB2.out.cell 11
                  simp at d2_10 d2_11
                  clear hb2
                  go_wp2_with fail
                  refine (HER.out _ K2.out).mono ?_
                  rintro e3 w3 ⟨rfl, hb3⟩
                  have BB3 := Lib.hid (BB2.out.below hb3)
                  have K3 := Lib.hid (K2.out.trans (hb3.mono K2.out.size))
                  have d3_10 := BB3.out.cell 10
                  have d3_11 := BB3.out.cell 11
                  simp at d3_10 d3_11
                  clear hb3
                  go_wp2_with fail
                  go_ret
                  exact ⟨by rw [HEG.out, HV.out]; simp, HLW.out.trans (K3.out.mono hlw)⟩
                · skip
                  have BX := (Below.refl wr.heap.size wr).alloc (Nat.le_refl _) (.cells #[.int .u8 2, .int .u8 io, .int .i64 id_, .int .i64 is_, .int .i64 in_, .bool nt, .int .u8 co, .int .i64 cd, .int .i64 cs, .int .i64 cn, .slice Ab bn cb, .slice Ae en ce, .int .i64 ln] 35)
                  have K0 := Lib.hid BX
                  clear BX
                  have z0 := (HZ.out.below K0.out).cell 0
                  have z1 := (HZ.out.below K0.out).cell 1
                  have z2 := (HZ.out.below K0.out).cell 2
                  have z3 := (HZ.out.below K0.out).cell 3
                  simp at z0 z1 z2 z3
                  go_wp2_with fail
                  refine (HCD.out _).mono ?_
                  rintro e1 w1 ⟨rfl, hb1⟩
                  have BB1 := Lib.hid (HBX.out.below hb1)
                  have K1 := Lib.hid (K0.out.trans (hb1.mono K0.out.size))
                  have d1_10 := BB1.out.cell 10
                  have d1_11 := BB1.out.cell 11
                  simp at d1_10 d1_11
                  clear hb1
                  go_wp2_with fail
                  refine (HBR.out _ K1.out).mono ?_
                  rintro e2 w2 ⟨rfl, hb2⟩
                  have BB2 := Lib.hid (BB1.out.below hb2)
                  have K2 := Lib.hid (K1.out.trans (hb2.mono K1.out.size))
                  have d2_10 := BB2.out.cell 10
                  have d2_11 := BB2.out.cell 11
                  simp at d2_10 d2_11
                  clear hb2
                  go_wp2_with fail
                  refine (HER.out _ K2.out).mono ?_
                  rintro e3 w3 ⟨rfl, hb3⟩
                  have BB3 := Lib.hid (BB2.out.below hb3)
                  have K3 := Lib.hid (K2.out.trans (hb3.mono K2.out.size))
                  have d3_10 := BB3.out.cell 10
                  have d3_11 := BB3.out.cell 11
                  simp at d3_10 d3_11
                  clear hb3
                  go_wp2_with fail
                  exact ⟨HNX.out _ K3.out (by rw [HEG.out, HV.out]; simp), by simp [intOf]; omega⟩
        · subst hk'
          rw [if_neg (by decide), if_neg (by decide), if_pos (by decide)] at hv
          have HV := Lib.hid hv
          clear hv
          cases p
          · skip
            have BX := (Below.refl wr.heap.size wr).alloc (Nat.le_refl _) (.cells #[.int .u8 3, .int .u8 io, .int .i64 id_, .int .i64 is_, .int .i64 in_, .bool nt, .int .u8 co, .int .i64 cd, .int .i64 cs, .int .i64 cn, .slice Ab bn cb, .slice Ae en ce, .int .i64 ln] 35)
            have K0 := Lib.hid BX
            clear BX
            have z0 := (HZ.out.below K0.out).cell 0
            have z1 := (HZ.out.below K0.out).cell 1
            have z2 := (HZ.out.below K0.out).cell 2
            have z3 := (HZ.out.below K0.out).cell 3
            simp at z0 z1 z2 z3
            go_wp2_with fail
            go_ret
            exact ⟨by rw [HEG.out, HV.out]; simp, HLW.out.trans (K0.out.mono hlw)⟩
          · skip
            cases y
            · skip
              have BX := (Below.refl wr.heap.size wr).alloc (Nat.le_refl _) (.cells #[.int .u8 3, .int .u8 io, .int .i64 id_, .int .i64 is_, .int .i64 in_, .bool nt, .int .u8 co, .int .i64 cd, .int .i64 cs, .int .i64 cn, .slice Ab bn cb, .slice Ae en ce, .int .i64 ln] 35)
              have K0 := Lib.hid BX
              clear BX
              have z0 := (HZ.out.below K0.out).cell 0
              have z1 := (HZ.out.below K0.out).cell 1
              have z2 := (HZ.out.below K0.out).cell 2
              have z3 := (HZ.out.below K0.out).cell 3
              simp at z0 z1 z2 z3
              go_wp2_with fail
              refine (HCD.out _).mono ?_
              rintro e1 w1 ⟨rfl, hb1⟩
              have BB1 := Lib.hid (HBX.out.below hb1)
              have K1 := Lib.hid (K0.out.trans (hb1.mono K0.out.size))
              have d1_10 := BB1.out.cell 10
              have d1_11 := BB1.out.cell 11
              simp at d1_10 d1_11
              clear hb1
              go_wp2_with fail
              go_ret
              exact ⟨by rw [HEG.out, HV.out]; simp, HLW.out.trans (K1.out.mono hlw)⟩
            · skip
              cases ze
              · skip
                have BX := (Below.refl wr.heap.size wr).alloc (Nat.le_refl _) (.cells #[.int .u8 3, .int .u8 io, .int .i64 id_, .int .i64 is_, .int .i64 in_, .bool nt, .int .u8 co, .int .i64 cd, .int .i64 cs, .int .i64 cn, .slice Ab bn cb, .slice Ae en ce, .int .i64 ln] 35)
                have K0 := Lib.hid BX
                clear BX
                have z0 := (HZ.out.below K0.out).cell 0
                have z1 := (HZ.out.below K0.out).cell 1
                have z2 := (HZ.out.below K0.out).cell 2
                have z3 := (HZ.out.below K0.out).cell 3
                simp at z0 z1 z2 z3
                go_wp2_with fail
                refine (HCD.out _).mono ?_
                rintro e1 w1 ⟨rfl, hb1⟩
                have BB1 := Lib.hid (HBX.out.below hb1)
                have K1 := Lib.hid (K0.out.trans (hb1.mono K0.out.size))
                have d1_10 := BB1.out.cell 10
                have d1_11 := BB1.out.cell 11
                simp at d1_10 d1_11
                clear hb1
                go_wp2_with fail
                go_ret
                exact ⟨by rw [HEG.out, HV.out]; simp, HLW.out.trans (K1.out.mono hlw)⟩
              · skip
                cases xb
                · skip
                  have BX := (Below.refl wr.heap.size wr).alloc (Nat.le_refl _) (.cells #[.int .u8 3, .int .u8 io, .int .i64 id_, .int .i64 is_, .int .i64 in_, .bool nt, .int .u8 co, .int .i64 cd, .int .i64 cs, .int .i64 cn, .slice Ab bn cb, .slice Ae en ce, .int .i64 ln] 35)
                  have K0 := Lib.hid BX
                  clear BX
                  have z0 := (HZ.out.below K0.out).cell 0
                  have z1 := (HZ.out.below K0.out).cell 1
                  have z2 := (HZ.out.below K0.out).cell 2
                  have z3 := (HZ.out.below K0.out).cell 3
                  simp at z0 z1 z2 z3
                  go_wp2_with fail
                  refine (HCD.out _).mono ?_
                  rintro e1 w1 ⟨rfl, hb1⟩
                  have BB1 := Lib.hid (HBX.out.below hb1)
                  have K1 := Lib.hid (K0.out.trans (hb1.mono K0.out.size))
                  have d1_10 := BB1.out.cell 10
                  have d1_11 := BB1.out.cell 11
                  simp at d1_10 d1_11
                  clear hb1
                  go_wp2_with fail
                  refine (HBR.out _ K1.out).mono ?_
                  rintro e2 w2 ⟨rfl, hb2⟩
                  have BB2 := Lib.hid (BB1.out.below hb2)
                  have K2 := Lib.hid (K1.out.trans (hb2.mono K1.out.size))
                  have d2_10 := BB2.out.cell 10
                  have d2_11 := BB2.out.cell 11
                  simp at d2_10 d2_11
                  clear hb2
                  go_wp2_with fail
                  go_ret
                  exact ⟨by rw [HEG.out, HV.out]; simp, HLW.out.trans (K2.out.mono hlw)⟩
                · skip
                  cases xe
                  · skip
                    have BX := (Below.refl wr.heap.size wr).alloc (Nat.le_refl _) (.cells #[.int .u8 3, .int .u8 io, .int .i64 id_, .int .i64 is_, .int .i64 in_, .bool nt, .int .u8 co, .int .i64 cd, .int .i64 cs, .int .i64 cn, .slice Ab bn cb, .slice Ae en ce, .int .i64 ln] 35)
                    have K0 := Lib.hid BX
                    clear BX
                    have z0 := (HZ.out.below K0.out).cell 0
                    have z1 := (HZ.out.below K0.out).cell 1
                    have z2 := (HZ.out.below K0.out).cell 2
                    have z3 := (HZ.out.below K0.out).cell 3
                    simp at z0 z1 z2 z3
                    go_wp2_with fail
                    refine (HCD.out _).mono ?_
                    rintro e1 w1 ⟨rfl, hb1⟩
                    have BB1 := Lib.hid (HBX.out.below hb1)
                    have K1 := Lib.hid (K0.out.trans (hb1.mono K0.out.size))
                    have d1_10 := BB1.out.cell 10
                    have d1_11 := BB1.out.cell 11
                    simp at d1_10 d1_11
                    clear hb1
                    go_wp2_with fail
                    refine (HBR.out _ K1.out).mono ?_
                    rintro e2 w2 ⟨rfl, hb2⟩
                    have BB2 := Lib.hid (BB1.out.below hb2)
                    have K2 := Lib.hid (K1.out.trans (hb2.mono K1.out.size))
                    have d2_10 := BB2.out.cell 10
                    have d2_11 := BB2.out.cell 11
                    simp at d2_10 d2_11
                    clear hb2
                    go_wp2_with fail
                    refine (HER.out _ K2.out).mono ?_
                    rintro e3 w3 ⟨rfl, hb3⟩
                    have BB3 := Lib.hid (BB2.out.below hb3)
                    have K3 := Lib.hid (K2.out.trans (hb3.mono K2.out.size))
                    have d3_10 := BB3.out.cell 10
                    have d3_11 := BB3.out.cell 11
                    simp at d3_10 d3_11
                    clear hb3
                    go_wp2_with fail
                    go_ret
                    exact ⟨by rw [HEG.out, HV.out]; simp, HLW.out.trans (K3.out.mono hlw)⟩
                  · skip
                    have BX := (Below.refl wr.heap.size wr).alloc (Nat.le_refl _) (.cells #[.int .u8 3, .int .u8 io, .int .i64 id_, .int .i64 is_, .int .i64 in_, .bool nt, .int .u8 co, .int .i64 cd, .int .i64 cs, .int .i64 cn, .slice Ab bn cb, .slice Ae en ce, .int .i64 ln] 35)
                    have K0 := Lib.hid BX
                    clear BX
                    have z0 := (HZ.out.below K0.out).cell 0
                    have z1 := (HZ.out.below K0.out).cell 1
                    have z2 := (HZ.out.below K0.out).cell 2
                    have z3 := (HZ.out.below K0.out).cell 3
                    simp at z0 z1 z2 z3
                    go_wp2_with fail
                    refine (HCD.out _).mono ?_
                    rintro e1 w1 ⟨rfl, hb1⟩
                    have BB1 := Lib.hid (HBX.out.below hb1)
                    have K1 := Lib.hid (K0.out.trans (hb1.mono K0.out.size))
                    have d1_10 := BB1.out.cell 10
                    have d1_11 := BB1.out.cell 11
                    simp at d1_10 d1_11
                    clear hb1
                    go_wp2_with fail
                    refine (HBR.out _ K1.out).mono ?_
                    rintro e2 w2 ⟨rfl, hb2⟩
                    have BB2 := Lib.hid (BB1.out.below hb2)
                    have K2 := Lib.hid (K1.out.trans (hb2.mono K1.out.size))
                    have d2_10 := BB2.out.cell 10
                    have d2_11 := BB2.out.cell 11
                    simp at d2_10 d2_11
                    clear hb2
                    go_wp2_with fail
                    refine (HER.out _ K2.out).mono ?_
                    rintro e3 w3 ⟨rfl, hb3⟩
                    have BB3 := Lib.hid (BB2.out.below hb3)
                    have K3 := Lib.hid (K2.out.trans (hb3.mono K2.out.size))
                    have d3_10 := BB3.out.cell 10
                    have d3_11 := BB3.out.cell 11
                    simp at d3_10 d3_11
                    clear hb3
                    go_wp2_with fail
                    exact ⟨HNX.out _ K3.out (by rw [HEG.out, HV.out]; simp), by simp [intOf]; omega⟩
        · have f1 : (kd == 1) = false := by simpa using hk'.1
          have f4 : (kd == 4) = false := by simpa using hk'.2.1
          have f2 : (kd == 2) = false := by simpa using hk'.2.2.1
          have f3 : (kd == 3) = false := by simpa using hk'.2.2.2
          rw [if_neg hk'.1, if_neg hk'.2.1, if_neg (by omega)] at hv
          have HV := Lib.hid hv
          clear hv hk'
          have BX := (Below.refl wr.heap.size wr).alloc (Nat.le_refl _) (.cells #[.int .u8 kd, .int .u8 io, .int .i64 id_, .int .i64 is_, .int .i64 in_, .bool nt, .int .u8 co, .int .i64 cd, .int .i64 cs, .int .i64 cn, .slice Ab bn cb, .slice Ae en ce, .int .i64 ln] 35)
          have K0 := Lib.hid BX
          clear BX
          have z0 := (HZ.out.below K0.out).cell 0
          have z1 := (HZ.out.below K0.out).cell 1
          have z2 := (HZ.out.below K0.out).cell 2
          have z3 := (HZ.out.below K0.out).cell 3
          simp at z0 z1 z2 z3
          go_wp2_with fail
          go_ret
          exact ⟨by rw [HEG.out, HV.out]; simp, HLW.out.trans (K0.out.mono hlw)⟩
end Go.Proofs.Ytebmgladdgmmeaa
