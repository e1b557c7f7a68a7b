/- May a list be, how many statements there are, may a config be: walks. Condition: at most a million statements. -/
import Derived.Test.YtebmgladdgmmeaaGWr
namespace Go.Proofs.Ytebmgladdgmmeaa
open Go.RowKit Go.WideShapes
set_option linter.unusedVariables false
set_option linter.unusedSimpArgs false
def rightF (post : Bool) (f : Fo) : Bool := okF f 20 && gdF post f 20 && decide (cnF f 20 ≤ 500)
set_option maxRecDepth 100000 in
set_option maxHeartbeats 2000000 in
theorem count_any (f : Fo) (A : Option Addr) (c : Nat) (w : World) (hr : RdS w.heap.size w A f) (hc : f.len ≤ c) (hl : f.len ≤ lenMost) (ht : f.tot ≤ 1000000) :
    Calls Try.prog 12 #[.slice A f.len c] w (Quiet (.int .i64 (cnF f 20)) w) := by
  have hcn := cnF_le f 20
  have hbx := Blk.new w 3 #[.int .i64 ((0 : Nat) : Int)]
  have hal := (Below.refl w.heap.size w).alloc (Nat.le_refl _) (.cells #[.int .i64 ((0 : Nat) : Int)] 3)
  have hwk := walkN f.tot f (Nat.le_refl _) w.heap.size w.heap.size 0 c 20 A _ (hr.below hal) hbx (Nat.le_refl _) (by simp) (by omega) hc hl (by omega)
  have hmf : ∀ (fn : Fn) (first cap : Array Value) (w : World), (Instr.makeFunc fn first cap).run Try.prog w = .ok (.func fn first cap) w := fun _ _ _ _ => rfl
  have HW := Lib.hid hwk
  have HAL := Lib.hid hal
  clear hwk hal hbx hr
  generalize hlen : f.len = len at *
  clear hlen
  go_enter Try.func12, Try.ntmps12
  go_wp2_with fail
  refine (HW.out).mono ?_
  rintro e w1 ⟨rfl, hq, hb⟩
  have d0 := hq.cell 0
  simp at d0
  have K := Lib.hid (HAL.out.trans hb)
  clear hq hb
  go_wp2_with fail
  go_ret
  exact ⟨rfl, K.out⟩
set_option maxRecDepth 100000 in
set_option maxHeartbeats 4000000 in
theorem rightS_any (f : Fo) (post : Bool) (A : Option Addr) (c : Nat) (w : World) (hr : RdS w.heap.size w A f) (hc : f.len ≤ c) (hl : f.len ≤ lenMost) (ht : f.tot ≤ 1000000) :
    Calls Try.prog 10 #[.slice A f.len c, .bool post] w (Quiet (.bool (rightF post f)) w) := by
  have hcn := cnF_le f 20
  have h0 := Blk.new w 4 #[.bool post]
  have h1 := Blk.new (w.alloc (.cells #[.bool post] 4)) 3 #[.int .i64 ((0 : Nat) : Int)]
  have h2 := Blk.new ((w.alloc (.cells #[.bool post] 4)).alloc (.cells #[.int .i64 ((0 : Nat) : Int)] 3)) 4 #[.bool true]
  simp only [World.size_alloc] at h1 h2
  have hj : Jd (w.heap.size + 1) (w.heap.size + 1 + 1) w.heap.size post 0 true (((w.alloc (.cells #[.bool post] 4)).alloc (.cells #[.int .i64 ((0 : Nat) : Int)] 3)).alloc (.cells #[.bool true] 4)) := ⟨h1.alloc _, h2, (h0.alloc _).alloc _⟩
  have hal : Below w.heap.size w (((w.alloc (.cells #[.bool post] 4)).alloc (.cells #[.int .i64 ((0 : Nat) : Int)] 3)).alloc (.cells #[.bool true] 4)) := (((Below.refl _ w).alloc (Nat.le_refl _) _).alloc (by simp) _).alloc (by simp; omega) _
  have hwk := walkJ f.tot f (Nat.le_refl _) w.heap.size (w.heap.size + 1) (w.heap.size + 1 + 1) w.heap.size post 0 true c 20 A _ (hr.below hal) hj ⟨by omega, by omega, Nat.le_refl _, by omega⟩ (by simp; omega) (by omega) hc hl (by omega)
  obtain ⟨xo, hxo⟩ : ∃ x, okF f 20 = x := ⟨_, rfl⟩
  obtain ⟨xg, hxg⟩ : ∃ x, gdF post f 20 = x := ⟨_, rfl⟩
  obtain ⟨xn, hxn⟩ : ∃ x, cnF f 20 = x := ⟨_, rfl⟩
  rw [hxo, hxg, hxn] at hwk
  have hv : rightF post f = (xo && xg && decide (xn ≤ 500)) := by unfold rightF; rw [hxo, hxg, hxn]
  rw [hv]
  have hmf : ∀ (fn : Fn) (first cap : Array Value) (w : World), (Instr.makeFunc fn first cap).run Try.prog w = .ok (.func fn first cap) w := fun _ _ _ _ => rfl
  have HW := Lib.hid hwk
  have HAL := Lib.hid hal
  have hd : decide ((xn : Int) ≤ 500) = decide (xn ≤ 500) := by
    by_cases e : xn ≤ 500
    · rw [decide_eq_true e]; simp; omega
    · rw [decide_eq_false e]; simp; omega
  clear hwk hal hj h0 h1 h2 hr hv hxo hxg hxn hcn
  generalize decide (xn ≤ 500) = z at *
  generalize hlen : f.len = len at *
  clear hlen
  cases xo <;> cases xg
  all_goals
    go_enter Try.func10, Try.ntmps10
    go_wp2_with fail
    refine (HW.out).mono ?_
    rintro e w1 ⟨rfl, hq, hb⟩
    have d0 := hq.n.cell 0
    have d1 := hq.g.cell 0
    simp at d0 d1
    have K := Lib.hid (HAL.out.trans hb)
    clear hq hb
    go_wp2_with fail
    go_ret
    exact ⟨rfl, K.out⟩
def configF (ph pm : Int) (code post : Fo) (hp : Bool) : Bool := rightF false code && rightF true post && (hp || (decide (post.len = 0) && decide (ph = 0) && decide (pm = 0)))
set_option maxRecDepth 100000 in
set_option maxHeartbeats 8000000 in
theorem config_any (h m ph pm : Int) (np cp : Nat) (Ap : Option Addr) (fc fp : Fo) (Ac Ao : Option Addr) (cc co : Nat) (hp : Bool) (w : World) (hc : RdS w.heap.size w Ac fc) (hcl : fc.len ≤ cc ∧ fc.len ≤ lenMost ∧ fc.tot ≤ 1000000) (ho : RdS w.heap.size w Ao fp) (hol : fp.len ≤ co ∧ fp.len ≤ lenMost ∧ fp.tot ≤ 1000000) :
    Calls Try.prog 17 #[.agg #[.int .i64 h, .int .i64 m, .int .i64 ph, .int .i64 pm, .slice Ap np cp, .slice Ac fc.len cc, .slice Ao fp.len co, .bool hp]] w (Quiet (.bool (configF ph pm fc fp hp)) w) := by
  have hbx := Blk.new w 40 #[.int .i64 h, .int .i64 m, .int .i64 ph, .int .i64 pm, .slice Ap np cp, .slice Ac fc.len cc, .slice Ao fp.len co, .bool hp]
  have HBX := Lib.hid hbx
  have h1 := fun W (hW : Below w.heap.size w W) => rightS_any fc false Ac cc W ((hc.below hW).mono hW.size) hcl.1 hcl.2.1 hcl.2.2
  have h2 := fun W (hW : Below w.heap.size w W) => rightS_any fp true Ao co W ((ho.below hW).mono hW.size) hol.1 hol.2.1 hol.2.2
  obtain ⟨xc, hxc⟩ : ∃ x, rightF false fc = x := ⟨_, rfl⟩
  obtain ⟨xp, hxp⟩ : ∃ x, rightF true fp = x := ⟨_, rfl⟩
  have hv : configF ph pm fc fp hp = (xc && xp && (hp || (decide (fp.len = 0) && decide (ph = 0) && decide (pm = 0)))) := by unfold configF; rw [hxc, hxp]
  rw [hv]
  rw [hxc] at h1
  rw [hxp] at h2
  have H1 := Lib.hid h1
  have H2 := Lib.hid h2
  have e1 : ((fp.len : Int) == 0) = decide (fp.len = 0) := by
    by_cases e : fp.len = 0
    · rw [decide_eq_true e, e]; rfl
    · rw [decide_eq_false e]; simp; omega
  have e2 : (ph == 0) = decide (ph = 0) := rfl
  have e3 : (pm == 0) = decide (pm = 0) := rfl
  generalize hz1 : decide (fp.len = 0) = z1 at *
  generalize hz2 : decide (ph = 0) = z2 at *
  generalize hz3 : decide (pm = 0) = z3 at *
  clear h1 h2 hv hxc hxp hbx hc ho hz1 hz2 hz3
  generalize fc.len = lc at *
  generalize fp.len = lp at *
  cases z1
  · skip
    cases xc
    · skip
      go_enter Try.func17, Try.ntmps17
      go_wp2_with fail
      refine (H1.out _ ((Below.refl _ _).alloc (Nat.le_refl _) _)).mono ?_
      rintro e w1 ⟨rfl, hb1⟩
      have K1 := Lib.hid (ch1 (Below.refl _ _) hb1)
      have B1 := Lib.hid (HBX.out.below hb1)
      clear hb1
      go_wp2_with fail
      go_ret
      exact ⟨rfl, K1.out⟩
    · cases xp
      · skip
        go_enter Try.func17, Try.ntmps17
        go_wp2_with fail
        refine (H1.out _ ((Below.refl _ _).alloc (Nat.le_refl _) _)).mono ?_
        rintro e w1 ⟨rfl, hb1⟩
        have K1 := Lib.hid (ch1 (Below.refl _ _) hb1)
        have B1 := Lib.hid (HBX.out.below hb1)
        clear hb1
        have d5 := B1.out.cell 5
        have d6 := B1.out.cell 6
        simp at d5 d6
        go_wp2_with fail
        refine (H2.out _ K1.out).mono ?_
        rintro e w2 ⟨rfl, hb2⟩
        have K2 := Lib.hid (ch0 K1.out hb2)
        have B2 := Lib.hid (B1.out.below hb2)
        clear hb2 d5 d6
        have d2 := B2.out.cell 2
        have d3 := B2.out.cell 3
        have d6 := B2.out.cell 6
        have d7 := B2.out.cell 7
        simp at d2 d3 d6 d7
        go_wp2_with fail
        go_ret
        exact ⟨rfl, K2.out⟩
      · cases hp
        · skip
          go_enter Try.func17, Try.ntmps17
          go_wp2_with fail
          refine (H1.out _ ((Below.refl _ _).alloc (Nat.le_refl _) _)).mono ?_
          rintro e w1 ⟨rfl, hb1⟩
          have K1 := Lib.hid (ch1 (Below.refl _ _) hb1)
          have B1 := Lib.hid (HBX.out.below hb1)
          clear hb1
          have d5 := B1.out.cell 5
          have d6 := B1.out.cell 6
          simp at d5 d6
          go_wp2_with fail
          refine (H2.out _ K1.out).mono ?_
          rintro e w2 ⟨rfl, hb2⟩
          have K2 := Lib.hid (ch0 K1.out hb2)
          have B2 := Lib.hid (B1.out.below hb2)
          clear hb2 d5 d6
          have d2 := B2.out.cell 2
          have d3 := B2.out.cell 3
          have d6 := B2.out.cell 6
          have d7 := B2.out.cell 7
          simp at d2 d3 d6 d7
          go_wp2_with fail
          go_ret
          exact ⟨rfl, K2.out⟩
        · skip
          go_enter Try.func17, Try.ntmps17
          go_wp2_with fail
          refine (H1.out _ ((Below.refl _ _).alloc (Nat.le_refl _) _)).mono ?_
          rintro e w1 ⟨rfl, hb1⟩
          have K1 := Lib.hid (ch1 (Below.refl _ _) hb1)
          have B1 := Lib.hid (HBX.out.below hb1)
          clear hb1
          have d5 := B1.out.cell 5
          have d6 := B1.out.cell 6
          simp at d5 d6
          go_wp2_with fail
          refine (H2.out _ K1.out).mono ?_
          rintro e w2 ⟨rfl, hb2⟩
          have K2 := Lib.hid (ch0 K1.out hb2)
          have B2 := Lib.hid (B1.out.below hb2)
          clear hb2 d5 d6
          have d2 := B2.out.cell 2
          have d3 := B2.out.cell 3
          have d6 := B2.out.cell 6
          have d7 := B2.out.cell 7
          simp at d2 d3 d6 d7
          go_wp2_with fail
          go_ret
          exact ⟨rfl, K2.out⟩
  · cases z2
    · skip
      cases xc
      · skip
        go_enter Try.func17, Try.ntmps17
        go_wp2_with fail
        refine (H1.out _ ((Below.refl _ _).alloc (Nat.le_refl _) _)).mono ?_
        rintro e w1 ⟨rfl, hb1⟩
        have K1 := Lib.hid (ch1 (Below.refl _ _) hb1)
        have B1 := Lib.hid (HBX.out.below hb1)
        clear hb1
        go_wp2_with fail
        go_ret
        exact ⟨rfl, K1.out⟩
      · cases xp
        · skip
          go_enter Try.func17, Try.ntmps17
          go_wp2_with fail
          refine (H1.out _ ((Below.refl _ _).alloc (Nat.le_refl _) _)).mono ?_
          rintro e w1 ⟨rfl, hb1⟩
          have K1 := Lib.hid (ch1 (Below.refl _ _) hb1)
          have B1 := Lib.hid (HBX.out.below hb1)
          clear hb1
          have d5 := B1.out.cell 5
          have d6 := B1.out.cell 6
          simp at d5 d6
          go_wp2_with fail
          refine (H2.out _ K1.out).mono ?_
          rintro e w2 ⟨rfl, hb2⟩
          have K2 := Lib.hid (ch0 K1.out hb2)
          have B2 := Lib.hid (B1.out.below hb2)
          clear hb2 d5 d6
          have d2 := B2.out.cell 2
          have d3 := B2.out.cell 3
          have d6 := B2.out.cell 6
          have d7 := B2.out.cell 7
          simp at d2 d3 d6 d7
          go_wp2_with fail
          go_ret
          exact ⟨rfl, K2.out⟩
        · cases hp
          · skip
            go_enter Try.func17, Try.ntmps17
            go_wp2_with fail
            refine (H1.out _ ((Below.refl _ _).alloc (Nat.le_refl _) _)).mono ?_
            rintro e w1 ⟨rfl, hb1⟩
            have K1 := Lib.hid (ch1 (Below.refl _ _) hb1)
            have B1 := Lib.hid (HBX.out.below hb1)
            clear hb1
            have d5 := B1.out.cell 5
            have d6 := B1.out.cell 6
            simp at d5 d6
            go_wp2_with fail
            refine (H2.out _ K1.out).mono ?_
            rintro e w2 ⟨rfl, hb2⟩
            have K2 := Lib.hid (ch0 K1.out hb2)
            have B2 := Lib.hid (B1.out.below hb2)
            clear hb2 d5 d6
            have d2 := B2.out.cell 2
            have d3 := B2.out.cell 3
            have d6 := B2.out.cell 6
            have d7 := B2.out.cell 7
            simp at d2 d3 d6 d7
            go_wp2_with fail
            go_ret
            exact ⟨rfl, K2.out⟩
          · skip
            go_enter Try.func17, Try.ntmps17
            go_wp2_with fail
            refine (H1.out _ ((Below.refl _ _).alloc (Nat.le_refl _) _)).mono ?_
            rintro e w1 ⟨rfl, hb1⟩
            have K1 := Lib.hid (ch1 (Below.refl _ _) hb1)
            have B1 := Lib.hid (HBX.out.below hb1)
            clear hb1
            have d5 := B1.out.cell 5
            have d6 := B1.out.cell 6
            simp at d5 d6
            go_wp2_with fail
            refine (H2.out _ K1.out).mono ?_
            rintro e w2 ⟨rfl, hb2⟩
            have K2 := Lib.hid (ch0 K1.out hb2)
            have B2 := Lib.hid (B1.out.below hb2)
            clear hb2 d5 d6
            have d2 := B2.out.cell 2
            have d3 := B2.out.cell 3
            have d6 := B2.out.cell 6
            have d7 := B2.out.cell 7
            simp at d2 d3 d6 d7
            go_wp2_with fail
            go_ret
            exact ⟨rfl, K2.out⟩
    · skip
      cases xc
      · skip
        go_enter Try.func17, Try.ntmps17
        go_wp2_with fail
        refine (H1.out _ ((Below.refl _ _).alloc (Nat.le_refl _) _)).mono ?_
        rintro e w1 ⟨rfl, hb1⟩
        have K1 := Lib.hid (ch1 (Below.refl _ _) hb1)
        have B1 := Lib.hid (HBX.out.below hb1)
        clear hb1
        go_wp2_with fail
        go_ret
        exact ⟨rfl, K1.out⟩
      · cases xp
        · skip
          go_enter Try.func17, Try.ntmps17
          go_wp2_with fail
          refine (H1.out _ ((Below.refl _ _).alloc (Nat.le_refl _) _)).mono ?_
          rintro e w1 ⟨rfl, hb1⟩
          have K1 := Lib.hid (ch1 (Below.refl _ _) hb1)
          have B1 := Lib.hid (HBX.out.below hb1)
          clear hb1
          have d5 := B1.out.cell 5
          have d6 := B1.out.cell 6
          simp at d5 d6
          go_wp2_with fail
          refine (H2.out _ K1.out).mono ?_
          rintro e w2 ⟨rfl, hb2⟩
          have K2 := Lib.hid (ch0 K1.out hb2)
          have B2 := Lib.hid (B1.out.below hb2)
          clear hb2 d5 d6
          have d2 := B2.out.cell 2
          have d3 := B2.out.cell 3
          have d6 := B2.out.cell 6
          have d7 := B2.out.cell 7
          simp at d2 d3 d6 d7
          go_wp2_with fail
          go_ret
          exact ⟨rfl, K2.out⟩
        · cases hp
          · skip
            go_enter Try.func17, Try.ntmps17
            go_wp2_with fail
            refine (H1.out _ ((Below.refl _ _).alloc (Nat.le_refl _) _)).mono ?_
            rintro e w1 ⟨rfl, hb1⟩
            have K1 := Lib.hid (ch1 (Below.refl _ _) hb1)
            have B1 := Lib.hid (HBX.out.below hb1)
            clear hb1
            have d5 := B1.out.cell 5
            have d6 := B1.out.cell 6
            simp at d5 d6
            go_wp2_with fail
            refine (H2.out _ K1.out).mono ?_
            rintro e w2 ⟨rfl, hb2⟩
            have K2 := Lib.hid (ch0 K1.out hb2)
            have B2 := Lib.hid (B1.out.below hb2)
            clear hb2 d5 d6
            have d2 := B2.out.cell 2
            have d3 := B2.out.cell 3
            have d6 := B2.out.cell 6
            have d7 := B2.out.cell 7
            simp at d2 d3 d6 d7
            go_wp2_with fail
            go_ret
            exact ⟨rfl, K2.out⟩
          · skip
            go_enter Try.func17, Try.ntmps17
            go_wp2_with fail
            refine (H1.out _ ((Below.refl _ _).alloc (Nat.le_refl _) _)).mono ?_
            rintro e w1 ⟨rfl, hb1⟩
            have K1 := Lib.hid (ch1 (Below.refl _ _) hb1)
            have B1 := Lib.hid (HBX.out.below hb1)
            clear hb1
            have d5 := B1.out.cell 5
            have d6 := B1.out.cell 6
            simp at d5 d6
            go_wp2_with fail
            refine (H2.out _ K1.out).mono ?_
            rintro e w2 ⟨rfl, hb2⟩
            have K2 := Lib.hid (ch0 K1.out hb2)
            have B2 := Lib.hid (B1.out.below hb2)
            clear hb2 d5 d6
            have d2 := B2.out.cell 2
            have d3 := B2.out.cell 3
            have d6 := B2.out.cell 6
            have d7 := B2.out.cell 7
            simp at d2 d3 d6 d7
            go_wp2_with fail
            go_ret
            exact ⟨rfl, K2.out⟩
end Go.Proofs.Ytebmgladdgmmeaa
