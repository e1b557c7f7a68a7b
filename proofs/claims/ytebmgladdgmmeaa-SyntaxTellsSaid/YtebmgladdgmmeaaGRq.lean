/- The reference of chapter 19: Right, Count, Config: walks. Condition: at most a million statements. -/
import Derived.Test.YtebmgladdgmmeaaGRe
namespace Go.Proofs.Ytebmgladdgmmeaa
open Go.RowKit Go.WideShapes
set_option linter.unusedVariables false
set_option linter.unusedSimpArgs false
theorem below_of_reads {v : Value} {w0 w : World} {e : Ending} (h : Reads v w0 e w) : Quiet v w0 e w := ⟨h.ret, by obtain ⟨n, rfl⟩ := h.drn; exact below_drewN (Below.refl _ _) n⟩
set_option maxRecDepth 100000 in
theorem countQ_any (f : Fo) (A : Option Addr) (c : Nat) (w : World) (hr : RdS w.heap.size w A f) (hc : f.len ≤ c) (hl : f.len ≤ lenMost) (ht : f.tot ≤ 1000000) :
    Calls Try.prog 16 #[.slice A f.len c] w (Quiet (.int .i64 (cnF f 20)) w) := by
  have hct := countR f.tot f (Nat.le_refl _) w.heap.size c 20 A w hr ht hc hl (by omega)
  have HC := Lib.hid hct
  clear hct hr
  generalize hlen : f.len = len at *
  clear hlen
  go_enter Try.func16, Try.ntmps16
  go_wp2_with fail
  refine (HC.out).mono ?_
  intro e w1 h1
  obtain ⟨rfl, hb⟩ := below_of_reads h1
  have K := Lib.hid hb
  clear hb h1
  go_wp2_with fail
  go_ret
  exact ⟨rfl, K.out⟩
set_option maxRecDepth 100000 in
set_option maxHeartbeats 4000000 in
theorem rightQ_any (f : Fo) (post : Bool) (A : Option Addr) (c : Nat) (w : World) (hr : RdS w.heap.size w A f) (hc : f.len ≤ c) (hl : f.len ≤ lenMost) (ht : f.tot ≤ 1000000) :
    Calls Try.prog 15 #[.slice A f.len c, .bool post] w (Quiet (.bool (rightF post f)) w) := by
  have h1 := fun W (hW : Below w.heap.size w W) => (depthR f.tot f (Nat.le_refl _) w.heap.size c 21 A W (hr.below hW) ht hc hl (by omega)).mono fun _ _ h => below_of_reads h
  have h2 := fun W (hW : Below w.heap.size w W) => countQ_any f A c W ((hr.below hW).mono hW.size) hc hl ht
  have h3 := fun W (hW : Below w.heap.size w W) => eachR f.tot f (Nat.le_refl _) w.heap.size post c A W (hr.below hW) hW.size hc hl
  have hd := dp_ok f 20
  have hdl := dpF_le f 21
  have hcl := cnF_le f 20
  have hge := gd_eg post f 20
  obtain ⟨xd, hxd⟩ : ∃ x, dpF f 21 = x := ⟨_, rfl⟩
  obtain ⟨xc, hxc⟩ : ∃ x, cnF f 20 = x := ⟨_, rfl⟩
  obtain ⟨xe, hxe⟩ : ∃ x, egF post f = x := ⟨_, rfl⟩
  rw [show (20 : Nat) + 1 = 21 from rfl, hxd] at hd
  rw [hxd] at hdl h1
  rw [hxc] at hcl h2
  rw [hxe] at h3 hge
  have hv : rightF post f = (decide (xd ≤ 20) && decide (xc ≤ 500) && xe) := by
    unfold rightF
    rw [hxc]
    by_cases e : xd ≤ 20
    · rw [hd.1 e, hge (hd.1 e), decide_eq_true e]
      cases xe <;> simp
    · have : okF f 20 = false := by
        cases hk : okF f 20 with
        | false => rfl
        | true => exact absurd (hd.2 hk) e
      rw [this, decide_eq_false e]; simp
  rw [hv]
  have H1 := Lib.hid h1
  have H2 := Lib.hid h2
  have H3 := Lib.hid h3
  have e1 : decide ((xd : Int) ≤ 20) = decide (xd ≤ 20) := by
    by_cases e : xd ≤ 20
    · rw [decide_eq_true e]; simp; omega
    · rw [decide_eq_false e]; simp; omega
  have e2 : decide ((xc : Int) ≤ 500) = decide (xc ≤ 500) := by
    by_cases e : xc ≤ 500
    · rw [decide_eq_true e]; simp; omega
    · rw [decide_eq_false e]; simp; omega
  clear h1 h2 h3 hd hge hxd hxc hxe hv hr
  generalize decide (xd ≤ 20) = z1 at *
  generalize decide (xc ≤ 500) = z2 at *
  generalize hlen : f.len = len at *
  clear hlen
  cases z1 <;> cases z2
  all_goals
    go_enter Try.func15, Try.ntmps15
    go_wp2_with fail
    refine (H1.out _ (Below.refl _ _)).mono ?_
    rintro e w1 ⟨rfl, hb1⟩
    have K1 := Lib.hid hb1
    clear hb1
    go_wp2_with (first
      | (go_at_call 16; refine (H2.out _ K1.out).mono ?_; rintro e w2 ⟨rfl, hb2⟩; have K2 := Lib.hid (ch0 K1.out hb2); clear hb2)
      | (go_at_call 48; refine (H3.out _ K2.out).mono ?_; rintro e w3 ⟨rfl, hb3⟩; have K3 := Lib.hid (ch0 K2.out hb3); clear hb3))
    go_ret
    first | exact ⟨rfl, K3.out⟩ | exact ⟨rfl, K2.out⟩ | exact ⟨rfl, K1.out⟩
set_option maxRecDepth 100000 in
set_option maxHeartbeats 8000000 in
theorem configQ_any (h m ph pm : Int) (np cp : Nat) (Ap : Option Addr) (fc fp : Fo) (Ac Ao : Option Addr) (cc co : Nat) (hp : Bool) (w : World) (hc : RdS w.heap.size w Ac fc) (hcl : fc.len ≤ cc ∧ fc.len ≤ lenMost ∧ fc.tot ≤ 1000000) (ho : RdS w.heap.size w Ao fp) (hol : fp.len ≤ co ∧ fp.len ≤ lenMost ∧ fp.tot ≤ 1000000) :
    Calls Try.prog 18 #[.agg #[.int .i64 h, .int .i64 m, .int .i64 ph, .int .i64 pm, .slice Ap np cp, .slice Ac fc.len cc, .slice Ao fp.len co, .bool hp]] w (Quiet (.bool (configF ph pm fc fp hp)) w) := by
  have hbx := Blk.new w 40 #[.int .i64 h, .int .i64 m, .int .i64 ph, .int .i64 pm, .slice Ap np cp, .slice Ac fc.len cc, .slice Ao fp.len co, .bool hp]
  have HBX := Lib.hid hbx
  have h1 := fun W (hW : Below w.heap.size w W) => rightQ_any fc false Ac cc W ((hc.below hW).mono hW.size) hcl.1 hcl.2.1 hcl.2.2
  have h2 := fun W (hW : Below w.heap.size w W) => rightQ_any fp true Ao co W ((ho.below hW).mono hW.size) hol.1 hol.2.1 hol.2.2
  obtain ⟨xc, hxc⟩ : ∃ x, rightF false fc = x := ⟨_, rfl⟩
  obtain ⟨xp, hxp⟩ : ∃ x, rightF true fp = x := ⟨_, rfl⟩
  have hv : configF ph pm fc fp hp = (xc && xp && (hp || (decide (fp.len = 0) && decide (ph = 0) && decide (pm = 0)))) := by unfold configF; rw [hxc, hxp]
  rw [hv]
  rw [hxc] at h1
  rw [hxp] at h2
  have H1 := Lib.hid h1
  have H2 := Lib.hid h2
  have e1 : ((fp.len : Int) == 0) = decide (fp.len = 0) := by
    by_cases e : fp.len = 0
    · rw [decide_eq_true e, e]; rfl
    · rw [decide_eq_false e]; simp; omega
  have e2 : (ph == 0) = decide (ph = 0) := rfl
  have e3 : (pm == 0) = decide (pm = 0) := rfl
  generalize hz1 : decide (fp.len = 0) = z1 at *
  generalize hz2 : decide (ph = 0) = z2 at *
  generalize hz3 : decide (pm = 0) = z3 at *
  clear h1 h2 hv hxc hxp hbx hc ho hz1 hz2 hz3
  generalize fc.len = lc at *
  generalize fp.len = lp at *
  cases z1
  · skip
    cases xc
    · skip
      go_enter Try.func18, Try.ntmps18
      go_wp2_with fail
      refine (H1.out _ ((Below.refl _ _).alloc (Nat.le_refl _) _)).mono ?_
      rintro e w1 ⟨rfl, hb1⟩
      have K1 := Lib.hid (ch1 (Below.refl _ _) hb1)
      have B1 := Lib.hid (HBX.out.below hb1)
      clear hb1
      go_wp2_with fail
      go_ret
      exact ⟨rfl, K1.out⟩
    · cases xp
      · skip
        go_enter Try.func18, Try.ntmps18
        go_wp2_with fail
        refine (H1.out _ ((Below.refl _ _).alloc (Nat.le_refl _) _)).mono ?_
        rintro e w1 ⟨rfl, hb1⟩
        have K1 := Lib.hid (ch1 (Below.refl _ _) hb1)
        have B1 := Lib.hid (HBX.out.below hb1)
        clear hb1
        have d5 := B1.out.cell 5
        have d6 := B1.out.cell 6
        simp at d5 d6
        go_wp2_with fail
        refine (H2.out _ K1.out).mono ?_
        rintro e w2 ⟨rfl, hb2⟩
        have K2 := Lib.hid (ch0 K1.out hb2)
        have B2 := Lib.hid (B1.out.below hb2)
        clear hb2 d5 d6
        have d2 := B2.out.cell 2
        have d3 := B2.out.cell 3
        have d6 := B2.out.cell 6
        have d7 := B2.out.cell 7
        simp at d2 d3 d6 d7
        go_wp2_with fail
        go_ret
        exact ⟨rfl, K2.out⟩
      · cases hp
        · skip
          go_enter Try.func18, Try.ntmps18
          go_wp2_with fail
          refine (H1.out _ ((Below.refl _ _).alloc (Nat.le_refl _) _)).mono ?_
          rintro e w1 ⟨rfl, hb1⟩
          have K1 := Lib.hid (ch1 (Below.refl _ _) hb1)
          have B1 := Lib.hid (HBX.out.below hb1)
          clear hb1
          have d5 := B1.out.cell 5
          have d6 := B1.out.cell 6
          simp at d5 d6
          go_wp2_with fail
          refine (H2.out _ K1.out).mono ?_
          rintro e w2 ⟨rfl, hb2⟩
          have K2 := Lib.hid (ch0 K1.out hb2)
          have B2 := Lib.hid (B1.out.below hb2)
          clear hb2 d5 d6
          have d2 := B2.out.cell 2
          have d3 := B2.out.cell 3
          have d6 := B2.out.cell 6
          have d7 := B2.out.cell 7
          simp at d2 d3 d6 d7
          go_wp2_with fail
          go_ret
          exact ⟨rfl, K2.out⟩
        · skip
          go_enter Try.func18, Try.ntmps18
          go_wp2_with fail
          refine (H1.out _ ((Below.refl _ _).alloc (Nat.le_refl _) _)).mono ?_
          rintro e w1 ⟨rfl, hb1⟩
          have K1 := Lib.hid (ch1 (Below.refl _ _) hb1)
          have B1 := Lib.hid (HBX.out.below hb1)
          clear hb1
          have d5 := B1.out.cell 5
          have d6 := B1.out.cell 6
          simp at d5 d6
          go_wp2_with fail
          refine (H2.out _ K1.out).mono ?_
          rintro e w2 ⟨rfl, hb2⟩
          have K2 := Lib.hid (ch0 K1.out hb2)
          have B2 := Lib.hid (B1.out.below hb2)
          clear hb2 d5 d6
          have d2 := B2.out.cell 2
          have d3 := B2.out.cell 3
          have d6 := B2.out.cell 6
          have d7 := B2.out.cell 7
          simp at d2 d3 d6 d7
          go_wp2_with fail
          go_ret
          exact ⟨rfl, K2.out⟩
  · cases z2
    · skip
      cases xc
      · skip
        go_enter Try.func18, Try.ntmps18
        go_wp2_with fail
        refine (H1.out _ ((Below.refl _ _).alloc (Nat.le_refl _) _)).mono ?_
        rintro e w1 ⟨rfl, hb1⟩
        have K1 := Lib.hid (ch1 (Below.refl _ _) hb1)
        have B1 := Lib.hid (HBX.out.below hb1)
        clear hb1
        go_wp2_with fail
        go_ret
        exact ⟨rfl, K1.out⟩
      · cases xp
        · skip
          go_enter Try.func18, Try.ntmps18
          go_wp2_with fail
          refine (H1.out _ ((Below.refl _ _).alloc (Nat.le_refl _) _)).mono ?_
          rintro e w1 ⟨rfl, hb1⟩
          have K1 := Lib.hid (ch1 (Below.refl _ _) hb1)
          have B1 := Lib.hid (HBX.out.below hb1)
          clear hb1
          have d5 := B1.out.cell 5
          have d6 := B1.out.cell 6
          simp at d5 d6
          go_wp2_with fail
          refine (H2.out _ K1.out).mono ?_
          rintro e w2 ⟨rfl, hb2⟩
          have K2 := Lib.hid (ch0 K1.out hb2)
          have B2 := Lib.hid (B1.out.below hb2)
          clear hb2 d5 d6
          have d2 := B2.out.cell 2
          have d3 := B2.out.cell 3
          have d6 := B2.out.cell 6
          have d7 := B2.out.cell 7
          simp at d2 d3 d6 d7
          go_wp2_with fail
          go_ret
          exact ⟨rfl, K2.out⟩
        · cases hp
          · skip
            go_enter Try.func18, Try.ntmps18
            go_wp2_with fail
            refine (H1.out _ ((Below.refl _ _).alloc (Nat.le_refl _) _)).mono ?_
            rintro e w1 ⟨rfl, hb1⟩
            have K1 := Lib.hid (ch1 (Below.refl _ _) hb1)
            have B1 := Lib.hid (HBX.out.below hb1)
            clear hb1
            have d5 := B1.out.cell 5
            have d6 := B1.out.cell 6
            simp at d5 d6
            go_wp2_with fail
            refine (H2.out _ K1.out).mono ?_
            rintro e w2 ⟨rfl, hb2⟩
            have K2 := Lib.hid (ch0 K1.out hb2)
            have B2 := Lib.hid (B1.out.below hb2)
            clear hb2 d5 d6
            have d2 := B2.out.cell 2
            have d3 := B2.out.cell 3
            have d6 := B2.out.cell 6
            have d7 := B2.out.cell 7
            simp at d2 d3 d6 d7
            go_wp2_with fail
            go_ret
            exact ⟨rfl, K2.out⟩
          · skip
            go_enter Try.func18, Try.ntmps18
            go_wp2_with fail
            refine (H1.out _ ((Below.refl _ _).alloc (Nat.le_refl _) _)).mono ?_
            rintro e w1 ⟨rfl, hb1⟩
            have K1 := Lib.hid (ch1 (Below.refl _ _) hb1)
            have B1 := Lib.hid (HBX.out.below hb1)
            clear hb1
            have d5 := B1.out.cell 5
            have d6 := B1.out.cell 6
            simp at d5 d6
            go_wp2_with fail
            refine (H2.out _ K1.out).mono ?_
            rintro e w2 ⟨rfl, hb2⟩
            have K2 := Lib.hid (ch0 K1.out hb2)
            have B2 := Lib.hid (B1.out.below hb2)
            clear hb2 d5 d6
            have d2 := B2.out.cell 2
            have d3 := B2.out.cell 3
            have d6 := B2.out.cell 6
            have d7 := B2.out.cell 7
            simp at d2 d3 d6 d7
            go_wp2_with fail
            go_ret
            exact ⟨rfl, K2.out⟩
    · skip
      cases xc
      · skip
        go_enter Try.func18, Try.ntmps18
        go_wp2_with fail
        refine (H1.out _ ((Below.refl _ _).alloc (Nat.le_refl _) _)).mono ?_
        rintro e w1 ⟨rfl, hb1⟩
        have K1 := Lib.hid (ch1 (Below.refl _ _) hb1)
        have B1 := Lib.hid (HBX.out.below hb1)
        clear hb1
        go_wp2_with fail
        go_ret
        exact ⟨rfl, K1.out⟩
      · cases xp
        · skip
          go_enter Try.func18, Try.ntmps18
          go_wp2_with fail
          refine (H1.out _ ((Below.refl _ _).alloc (Nat.le_refl _) _)).mono ?_
          rintro e w1 ⟨rfl, hb1⟩
          have K1 := Lib.hid (ch1 (Below.refl _ _) hb1)
          have B1 := Lib.hid (HBX.out.below hb1)
          clear hb1
          have d5 := B1.out.cell 5
          have d6 := B1.out.cell 6
          simp at d5 d6
          go_wp2_with fail
          refine (H2.out _ K1.out).mono ?_
          rintro e w2 ⟨rfl, hb2⟩
          have K2 := Lib.hid (ch0 K1.out hb2)
          have B2 := Lib.hid (B1.out.below hb2)
          clear hb2 d5 d6
          have d2 := B2.out.cell 2
          have d3 := B2.out.cell 3
          have d6 := B2.out.cell 6
          have d7 := B2.out.cell 7
          simp at d2 d3 d6 d7
          go_wp2_with fail
          go_ret
          exact ⟨rfl, K2.out⟩
        · cases hp
          · skip
            go_enter Try.func18, Try.ntmps18
            go_wp2_with fail
            refine (H1.out _ ((Below.refl _ _).alloc (Nat.le_refl _) _)).mono ?_
            rintro e w1 ⟨rfl, hb1⟩
            have K1 := Lib.hid (ch1 (Below.refl _ _) hb1)
            have B1 := Lib.hid (HBX.out.below hb1)
            clear hb1
            have d5 := B1.out.cell 5
            have d6 := B1.out.cell 6
            simp at d5 d6
            go_wp2_with fail
            refine (H2.out _ K1.out).mono ?_
            rintro e w2 ⟨rfl, hb2⟩
            have K2 := Lib.hid (ch0 K1.out hb2)
            have B2 := Lib.hid (B1.out.below hb2)
            clear hb2 d5 d6
            have d2 := B2.out.cell 2
            have d3 := B2.out.cell 3
            have d6 := B2.out.cell 6
            have d7 := B2.out.cell 7
            simp at d2 d3 d6 d7
            go_wp2_with fail
            go_ret
            exact ⟨rfl, K2.out⟩
          · skip
            go_enter Try.func18, Try.ntmps18
            go_wp2_with fail
            refine (H1.out _ ((Below.refl _ _).alloc (Nat.le_refl _) _)).mono ?_
            rintro e w1 ⟨rfl, hb1⟩
            have K1 := Lib.hid (ch1 (Below.refl _ _) hb1)
            have B1 := Lib.hid (HBX.out.below hb1)
            clear hb1
            have d5 := B1.out.cell 5
            have d6 := B1.out.cell 6
            simp at d5 d6
            go_wp2_with fail
            refine (H2.out _ K1.out).mono ?_
            rintro e w2 ⟨rfl, hb2⟩
            have K2 := Lib.hid (ch0 K1.out hb2)
            have B2 := Lib.hid (B1.out.below hb2)
            clear hb2 d5 d6
            have d2 := B2.out.cell 2
            have d3 := B2.out.cell 3
            have d6 := B2.out.cell 6
            have d7 := B2.out.cell 7
            simp at d2 d3 d6 d7
            go_wp2_with fail
            go_ret
            exact ⟨rfl, K2.out⟩
end Go.Proofs.Ytebmgladdgmmeaa
