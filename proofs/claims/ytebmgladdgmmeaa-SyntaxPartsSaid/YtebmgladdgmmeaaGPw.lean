/- SyntaxParts: the law's walk. Condition: none. -/
import Derived.Test.YtebmgladdgmmeaaGPa
import Derived.Test.YtebmgladdgmmeaaGSm
namespace Go.Proofs.Ytebmgladdgmmeaa
open Go.RowKit Go.WideShapes
set_option linter.unusedVariables false
set_option linter.unusedSimpArgs false
set_option maxRecDepth 100000 in
set_option maxHeartbeats 8000000 in
theorem parts_any (f : Fo) (A : Option Addr) (c : Nat) (post : Bool) (w : World) (hr : RdS w.heap.size w A f) (hl : f.len ≤ c ∧ c ≤ maxLen ∧ f.len ≤ lenMost) :
    Calls Try.prog 3 #[.slice A f.len c, .bool post] w (Quiet (.bool true) w) := by
  have hd : ∀ W, Below w.heap.size w W → Calls Try.prog 9 #[.slice A f.len c, .int .i64 60, .int .i64 3000] W (IsDeep f 3000 W) := fun W hW => deep_any f A c 60 3000 W ((hr.below hW).mono hW.size) hl.1 hl.2.2 (by omega) (by omega)
  have hrt : f.tot ≤ 3000 → ∀ (p : Bool) W, Below w.heap.size w W → Calls Try.prog 10 #[.slice A f.len c, .bool p] W (Quiet (.bool (rightF p f)) W) := fun ht p W hW => rightS_any f p A c W ((hr.below hW).mono hW.size) hl.1 hl.2.2 (by omega)
  have hct : f.tot ≤ 3000 → ∀ W, Below w.heap.size w W → Calls Try.prog 12 #[.slice A f.len c] W (Quiet (.int .i64 (cnF f 20)) W) := fun ht W hW => count_any f A c W ((hr.below hW).mono hW.size) hl.1 hl.2.2 (by omega)
  have HD := Lib.hid hd
  have HRT := Lib.hid hrt
  have HCT := Lib.hid hct
  have HR := Lib.hid hr
  have HL := Lib.hid hl
  clear hd hrt hct hr hl
  obtain ⟨len, hlen⟩ : ∃ len, f.len = len := ⟨_, rfl⟩
  rw [hlen] at HD HRT HCT HL ⊢
  have HLN := Lib.hid hlen
  clear hlen
  go_enter Try.func3, Try.ntmps3
  go_wp2_with fail
  refine (HD.out _ (Below.refl _ _)).mono ?_
  rintro e w1 ⟨⟨d, rfl, hdd⟩, hb⟩
  have B1 := Lib.hid hb
  have D1 := Lib.hid hdd
  clear hdd hb
  cases d
  · have T1 := Lib.hid (D1.out rfl)
    clear D1
    obtain ⟨rv, hrv⟩ : ∃ x, rightF post f = x := ⟨_, rfl⟩
    have R1 := HRT.out T1.out post w1 B1.out
    rw [hrv] at R1
    have RR1 := Lib.hid R1
    clear R1
    cases rv
    · go_wp2_with fail
      refine RR1.out.mono ?_
      rintro e w2 ⟨rfl, hb⟩
      have B2 := Lib.hid (ch0 B1.out hb)
      clear hb
      go_wp2_with fail
      refine (awake_any _).mono ?_
      rintro e w3 ⟨rfl, hb⟩
      have B3 := Lib.hid (ch0 B2.out hb)
      clear hb
      go_wp2_with fail
      go_ret
      exact ⟨rfl, B3.out⟩
    · have hgood := Good.of hrv
      have GD := Lib.hid hgood
      have hc1 := HCT.out T1.out
      rw [cn_tot f 20 hgood.ok] at hc1
      obtain ⟨T, hT⟩ : ∃ T, f.tot = T := ⟨_, rfl⟩
      rw [hT] at hc1
      have HC1 := Lib.hid hc1
      have hT5 : T ≤ 500 := by rw [← hT]; exact hgood.tot
      have HT := Lib.hid hT
      have ht1 : decide ((500 : Int) < (T : Int)) = false := by simp; omega
      have ht2 : decide (500 < T) = false := by simp; omega
      have hr2 : ∀ W, Below w.heap.size w W → Calls Try.prog 10 #[.slice A len c, .bool true] W (Quiet (.bool true) W) := fun W hW => by
        have := HRT.out T1.out true W hW
        rwa [hgood.true.right] at this
      have HR2 := Lib.hid hr2
      clear hc1 hT hr2 hgood hrv
      go_wp2_with fail
      refine RR1.out.mono ?_
      rintro e w2 ⟨rfl, hb⟩
      have B2 := Lib.hid (ch0 B1.out hb)
      clear hb
      go_wp2_with fail
      refine (HC1.out _ B2.out).mono ?_
      rintro e w3 ⟨rfl, hb⟩
      have B3 := Lib.hid (ch0 B2.out hb)
      clear hb
      go_wp2_with fail
      refine (HR2.out _ B3.out).mono ?_
      rintro e w4 ⟨rfl, hb⟩
      have B4 := Lib.hid (ch0 B3.out hb)
      clear hb
      have hst : AtQ post T w (.slice (some ⟨w4.heap.size, 0, none⟩) 1 1) (.int .i64 0) (w4.alloc (.cells #[.slice A len c] 22)) := by
        have hal := (Below.refl w4.heap.size w4).alloc (Nat.le_refl _) (.cells #[.slice A len c] 22)
        refine ⟨⟨[f], [.slice A len c], 0, Qu.one w4 B4.out.size _, ⟨⟨A, c, by rw [HLN.out], by rw [HLN.out]; exact HL.out.1, by rw [HLN.out]; exact HL.out.2.2, HR.out.below (ch0 B4.out hal), GD.out⟩, trivial⟩, rfl, ?_, by simp⟩, ch0 B4.out hal⟩
        simp only [sumT, HT.out]
        omega
      have HST := Lib.hid hst
      clear hst
      go_wp2_with fail
      go_loopw [5, 6] (fun v n wr => AtQ post T w v n wr) (fun v n _ => 3 * (T - (intOf n).toNat) + lenV v)
      case atStart => exact HST.out
      case round =>
        obtain ⟨⟨fs, xs, m, hq, hrow, rfl, hsum, hcnt⟩, hlow⟩ := hrel
        clear HST
        rcases fs with _ | ⟨f1, fs⟩
        · obtain ⟨_, g, o, cap, cur, rfl, _⟩ := hq
          simp only [sumT] at hsum
          obtain rfl : m = T := by omega
          have HLW := Lib.hid hlow
          have b1 : ((m : Int) == (m : Int)) = true := by simp
          clear hlow hrow
          go_wp2_with (first
            | (go_at_call 12; (with_reducible refine (HC1.out _ HLW.out).mono ?_); rintro e w5 ⟨rfl, hb⟩; have B5 := Lib.hid (ch0 HLW.out hb); clear hb)
            | (go_at_call 11; (with_reducible refine (awake_any _).mono ?_); rintro e w6 ⟨rfl, hb⟩; have B6 := Lib.hid (ch0 B5.out hb); clear hb))
          go_ret
          exact ⟨rfl, B6.out⟩
        · rcases xs with _ | ⟨x, xs⟩
          · exact absurd hrow (by simp [RowQ])
          · obtain ⟨⟨A1, c1, rfl, hc1, hl1, hr1, hg1⟩, hrow⟩ := hrow
            obtain ⟨g, o, cap, rfl, hcap, hcell⟩ := hq.at (j := 0) rfl
            rw [Nat.add_zero] at hcell
            have hcut := hq.cut
            have HQ := Lib.hid hcut
            have HROW := Lib.hid hrow
            have HLW := Lib.hid hlow
            simp only [List.length_cons] at hcap hcnt ⊢
            simp only [sumT] at hsum
            obtain ⟨L, hL⟩ : ∃ L, fs.length = L := ⟨_, rfl⟩
            rw [hL] at hcap hcnt ⊢
            have HLL := Lib.hid hL
            clear hL
            have hL0 : (0 : Int) < (L : Int) + 1 := by omega
            have hL1 : decide ((0 : Int) < (L : Int) + 1) = true := decide_eq_true hL0
            have hL2 : decide (0 < L + 1) = true := by simp
            obtain ⟨len1, hlen1⟩ : ∃ x, f1.len = x := ⟨_, rfl⟩
            have hft := f1.len_tot
            rw [hlen1] at hc1 hl1 hft hcell
            have HL1 := Lib.hid hlen1
            have hrc : ∀ W, Below wr.heap.size wr W → Calls Try.prog 10 #[.slice A1 len1 c1, .bool post] W (Quiet (.bool true) W) := fun W hW => by
              have := rightS_any f1 post A1 c1 W ((hr1.below (hW.mono hlow.size)).mono (Nat.le_trans hlow.size hW.size)) (by rw [HL1.out]; exact hc1) (by rw [HL1.out]; exact hl1) (by have := hg1.tot; omega)
              rwa [hg1.right, HL1.out] at this
            have HRC := Lib.hid hrc
            have HR1 := Lib.hid hr1
            have HG1 := Lib.hid hg1
            clear hrc hr1 hg1 hq hcut hrow hlow hlen1
            unfold lenMost at hl1
            go_wp2_with fail
            all_goals
              have hq2 := HQ.out
              first | simp only [‹cap = 1›, if_true, Nat.sub_self] at hq2 | rw [if_neg ‹¬ cap = 1›] at hq2
              obtain ⟨g1, o1, hA1, hrd1⟩ := hd_of HR1.out
              have HA1 := Lib.hid hA1
              have HRD1 := Lib.hid hrd1
              have HQ2 := Lib.hid hq2
              clear hA1 hrd1 hq2 HQ
              refine (HRC.out _ (Below.refl _ _)).mono ?_
              rintro e w5 ⟨rfl, hb⟩
              have B5 := Lib.hid (ch0 HLW.out hb)
              have hin : AtI post T (m + len1) L g1 o1 f1 w _ (.int .i64 0) w5 := ⟨⟨0, f1, fs, xs, HQ2.out.below hb, HROW.out.below (hb.mono HLW.out.size), rfl, by omega, by simpa using HRD1.out.below (hb.mono HLW.out.size), HG1.out, by rw [HL1.out]; omega, by rw [HLL.out]⟩, B5.out⟩
              rw [HLL.out] at hin
              have HIN := Lib.hid hin
              clear hin hb HQ2 HRC
              go_wp2_with fail
              go_loopw [5, 47] (fun v i wr => AtI post T (m + len1) L g1 o1 f1 w v i wr) (fun _ i _ => len1 - (intOf i).toNat)
              case atStart => exact HIN.out
              case round =>
                clear HIN B5 HROW HRD1
                obtain ⟨⟨k, r, fs2, xs2, hq, hrow, rfl, hlen2, hrd, hg2, hT2, hL2'⟩, hlow⟩ := hrel
                rw [HL1.out] at hlen2
                have HLW2 := Lib.hid hlow
                rcases r with _ | ⟨h, b, e, r⟩
                · have hkl : k = len1 := by simpa [Fo.len] using hlen2
                  subst hkl
                  have g3 : decide (k < k) = false := by simp
                  simp only [Fo.len, Fo.tot] at hT2 hL2'
                  have hend : AtQ post T w _ (.int .i64 ((m : Int) + (k : Int))) _ := ⟨⟨fs2, xs2, m + k, hq, hrow, by simp, by omega, by rw [HL1.out] at hL2'; omega⟩, HLW2.out⟩
                  have HEND := Lib.hid hend
                  have hln := hq.lenV
                  clear hend hq hrow hrd hlow
                  go_wp2_with fail
                  refine ⟨HEND.out, ?_⟩
                  rw [hln]
                  rw [HL1.out] at hL2'
                  simp [intOf, lenV]
                  omega
                · obtain ⟨hdok, hg, ⟨Ab, cb, Ae, ce, hcl, hbl, hel, hb, he⟩, hrest⟩ := hrd
                  have hgc := hg2.cons
                  simp only [Fo.len] at hlen2 hL2' hT2
                  have hkl : k < len1 := by omega
                  have hkI : (k : Int) < (len1 : Int) := by omega
                  have hk0 : (0 : Int) ≤ (k : Int) := by omega
                  have g3 : decide (k < len1) = true := by simpa using hkl
                  have hfl2 : fs2.length + 2 ≤ 2000 := by
                    rw [HL1.out] at hL2'
                    omega
                  have hA1 := HA1.out (by rw [HL1.out]; omega)
                  subst hA1
                  obtain ⟨c0, c1, c2, c3, c4, c5, c6, c7, c8, c9, c10, c11, c12⟩ := Cells.of hcl
                  have hstep := fun (w1 w2 : World) (v2 : Value) (hw1 : Below wr.heap.size wr w1) h1 h2 => AtI.step (w1 := w1) (w2 := w2) (v2 := v2) hrow (by rw [HL1.out]; exact hlen2) hrest hg2 hT2 hL2' hlow hb he hbl hel hw1 h1 h2
                  have HSTEP := Lib.hid hstep
                  have HQ2 := Lib.hid hq
                  obtain ⟨kd, ⟨io, id_, is_, in_⟩, nt, ⟨co, cd, cs, cn⟩, ln⟩ := h
                  simp only at *
                  have hbx := Blk.new wr 35 #[.int .u8 kd, .int .u8 io, .int .i64 id_, .int .i64 is_, .int .i64 in_, .bool nt, .int .u8 co, .int .i64 cd, .int .i64 cs, .int .i64 cn, .slice Ab b.len cb, .slice Ae e.len ce, .int .i64 ln]
                  have HBX := Lib.hid hbx
                  have hri := fun W => rightI_any ⟨io, id_, is_, in_⟩ W hdok.i.o0
                  unfold In.agg at hri
                  have hrt := hgc.1
                  unfold rtH at hrt
                  simp only at hrt
                  have hal := (Below.refl wr.heap.size wr).alloc (Nat.le_refl _) (.cells #[.int .u8 kd, .int .u8 io, .int .i64 id_, .int .i64 is_, .int .i64 in_, .bool nt, .int .u8 co, .int .i64 cd, .int .i64 cs, .int .i64 cn, .slice Ab b.len cb, .slice Ae e.len ce, .int .i64 ln] 35)
                  have HAL := Lib.hid hal
                  have hws := HLW2.out.size
                  clear hstep hlow hrow hrest hb he hcl hq hgc hg2 hdok hT2 hL2' hbx hal
                  by_cases hkd : kd = 1
                  · subst hkd
                    rw [if_pos rfl] at hrt
                    simp only [Bool.and_eq_true] at hrt
                    have hpl := hrt.2
                    unfold plainI at hpl
                    simp only [Bool.and_eq_true] at hpl
                    obtain ⟨hp1, hp2⟩ := hpl
                    simp only [code_right hp1] at hri
                    have HRI := Lib.hid hri
                    unfold plO at hp2
                    have hpo : io ≠ 26 ∨ (io = 26 ∧ post = true) := by
                      by_cases e : io = 26
                      · right
                        refine ⟨e, ?_⟩
                        subst e
                        simpa using hp2
                      · exact .inl e
                    clear hrt hp1 hp2 hri
                    rcases hpo with hpo | ⟨rfl, rfl⟩
                    · have q26 : (io == 26) = false := by simpa using hpo
                      go_wp2_with (first
                        | (go_at_call 13; (with_reducible refine (HRI.out _).mono ?_); rintro e w6 ⟨rfl, hb⟩; have y0 := (HBX.out.below hb).cell 0; have y1 := (HBX.out.below hb).cell 1; have y10 := (HBX.out.below hb).cell 10; have y11 := (HBX.out.below hb).cell 11; simp at y0 y1 y10 y11; have K1 := Lib.hid (HAL.out.trans (hb.mono HAL.out.size)); clear hb)
                        | (at_builtin; refine wpList_appQ tLists rfl (.tmp 75) (.tmp 80) rfl w.heap.size _ fs2.length xs2 rfl (HQ2.out.below K1.out) (.slice Ab b.len cb) (.slice Ae e.len ce) rfl rfl _ rfl (by simp) (by omega) (by unfold maxLen; omega) (Nat.le_trans hws (K1.out).size) ?_; intro v' w9 hq9 hb9; have hend := HSTEP.out _ w9 v' K1.out hq9 hb9; have HEND := Lib.hid hend; clear hend hq9 hb9))
                      refine ⟨HEND.out, ?_⟩
                      simp [intOf]
                      omega
                    · go_wp2_with (first
                        | (go_at_call 13; (with_reducible refine (HRI.out _).mono ?_); rintro e w6 ⟨rfl, hb⟩; have y0 := (HBX.out.below hb).cell 0; have y1 := (HBX.out.below hb).cell 1; have y10 := (HBX.out.below hb).cell 10; have y11 := (HBX.out.below hb).cell 11; simp at y0 y1 y10 y11; have K1 := Lib.hid (HAL.out.trans (hb.mono HAL.out.size)); clear hb)
                        | (at_builtin; refine wpList_appQ tLists rfl (.tmp 75) (.tmp 80) rfl w.heap.size _ fs2.length xs2 rfl (HQ2.out.below K1.out) (.slice Ab b.len cb) (.slice Ae e.len ce) rfl rfl _ rfl (by simp) (by omega) (by unfold maxLen; omega) (Nat.le_trans hws (K1.out).size) ?_; intro v' w9 hq9 hb9; have hend := HSTEP.out _ w9 v' K1.out hq9 hb9; have HEND := Lib.hid hend; clear hend hq9 hb9))
                      refine ⟨HEND.out, ?_⟩
                      simp [intOf]
                      omega
                  · have qk : (kd == 1) = false := by simpa using hkd
                    clear hri hrt
                    go_wp2_with (at_builtin; refine wpList_appQ tLists rfl (.tmp 75) (.tmp 80) rfl w.heap.size _ fs2.length xs2 rfl (HQ2.out.below HAL.out) (.slice Ab b.len cb) (.slice Ae e.len ce) rfl rfl _ rfl (by simp) (by omega) (by unfold maxLen; omega) (Nat.le_trans hws (HAL.out).size) ?_; intro v' w9 hq9 hb9; have hend := HSTEP.out _ w9 v' HAL.out hq9 hb9; have HEND := Lib.hid hend; clear hend hq9 hb9)
                    refine ⟨HEND.out, ?_⟩
                    simp [intOf]
                    omega
  · go_wp2_with fail
    refine (awake_any _).mono ?_
    rintro e w2 ⟨rfl, hb⟩
    have B2 := Lib.hid (ch0 B1.out hb)
    clear hb
    go_wp2_with fail
    go_ret
    exact ⟨rfl, B2.out⟩
set_option maxRecDepth 100000 in
theorem parts_law {H : Type} {enc : TypeId × Value → H} {base0 : Nat} {d0 : DataW H} {p0 : List MemPlace} (v0 : Value) (post : Bool) (w : World)
    (h0 : Value.okWide Try.prog w .any base0 22 v0) (k0 : DataW.Trod enc Try.prog w 0 (fun _ => true) true 22 v0 d0 p0) (s0 : (d0.weights Try.prog 22).all (· ≤ reachBytes) = true) :
    Calls Try.prog 3 #[v0, .bool post] w fun e w' => e = .returned (.bool true) ∧ Below w.heap.size w w' := by
  obtain ⟨f, A, c, rfl, hl, hr⟩ := open_list h0 k0 s0
  exact (parts_any f A c post w hr hl).mono fun _ _ h => ⟨h.ret, h.low⟩
end Go.Proofs.Ytebmgladdgmmeaa
