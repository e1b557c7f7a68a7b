/- Are statements nested deeper, or more, than so many: the walk. Condition: none. · What is right of two lists is right of each; what a run of two lists comes to: plain. -/
import Derived.Test.YtebmgladdgmmeaaVlGRi
import Derived.Test.YtebmgladdgmmeaaVlGXj
namespace Go.Proofs.Ytebmgladdgmmeaa
open Go.RowKit Go.WideShapes
set_option linter.unusedVariables false
set_option linter.unusedSimpArgs false
structure DeepP (B q n : Nat) (f : Fo) (M : Nat) (w0 : World) (e : Ending) (w : World) : Prop where
  ex : ∃ (b : Bool) (m : Nat), e = .returned (.bool b) ∧ Blk w q 3 #[.int .i64 m] ∧ (b = false → m = n + f.tot ∧ m ≤ M)
  low : Below B w0 w
/-- Where the loop stands. -/
structure AtP (B q g o : Nat) (f : Fo) (n M : Nat) (w0 : World) (i : Value) (w : World) : Prop where
  ex : ∃ (k : Nat) (r : Fo) (m : Nat), k + r.len = f.len ∧ i = .int .i64 k ∧ RdF B w r g (o + k * 13) ∧ r.tot ≤ f.tot ∧ n + f.tot + r.len = m + r.tot ∧ m ≤ M ∧ Blk w q 3 #[.int .i64 m]
  low : Below B w0 w
def DpN (N : Nat) : Prop := ∀ (f : Fo), f.tot ≤ N → ∀ (B q n c L M : Nat) (A : Option Addr) (w : World), RdS B w A f → Blk w q 3 #[.int .i64 n] → B ≤ q → B ≤ w.heap.size → n ≤ M → M ≤ 100000 → f.len ≤ c → f.len ≤ lenMost → L ≤ 1000 →
  Calls Try.prog 38 #[.slice A f.len c, .int .i64 L, .int .i64 M, .pointer (some ⟨q, 0, none⟩)] w (DeepP B q n f M w)
set_option maxRecDepth 100000 in
set_option maxHeartbeats 8000000 in
theorem deepN : ∀ N, DpN N := by
  intro N
  induction N with
  | zero =>
    intro f hf B q n c L M A w hr hq hB hBw hn hM hc hl hL
    have hfl := f.len_tot
    obtain rfl : f = .nil := Fo.nil_of (by omega)
    have q0 := hq.cell 0
    have f0 := hq.frozen 0
    simp at q0
    have hnI : (n : Int) ≤ 100000 := by omega
    have g1 : decide ((M : Int) < (n : Int)) = false := by simp; omega
    have g1n : decide (M < n) = false := by simp; omega
    have hset := hq.set 0 (.int .i64 (n : Int))
    have HS := Lib.hid (show Blk (w.setCell ⟨q, 0, none⟩ (.int .i64 (n : Int))) q 3 #[.int .i64 n] by simpa using hset)
    have d0 := HS.out.cell 0
    simp at d0
    clear hq hr hset
    go_enter Try.func38, Try.ntmps38
    go_wp2_with fail
    go_loopw [9] (fun i wr => wr = w.setCell ⟨q, 0, none⟩ (.int .i64 (n : Int)) ∧ i = .int .i64 0) (fun _ _ => 0)
    case atStart => exact ⟨rfl, rfl⟩
    case round =>
      obtain ⟨rfl, rfl⟩ := hrel
      go_wp2_with fail
      go_ret
      exact ⟨⟨false, n, rfl, HS.out, fun _ => ⟨rfl, hn⟩⟩, (Below.refl _ _).setCell hB _⟩
  | succ N ih =>
    have IH := Lib.hid ih
    clear ih
    intro f hf B q n c L M A w hr hq hB hBw hn hM hc hl hL
    have hg : ∃ g o, (0 < f.len → A = some ⟨g, o, none⟩) ∧ RdF B w f g o := by
      rcases Nat.eq_zero_or_pos f.len with h0 | h0
      · obtain rfl := Fo.nil_of h0
        exact ⟨0, 0, fun h => absurd h (by simp [Fo.len]), trivial⟩
      · obtain ⟨g, o, e, h⟩ := hr h0
        exact ⟨g, o, fun _ => e, h⟩
    obtain ⟨g, o, hA, hrd⟩ := hg
    have q0 := hq.cell 0
    have f0 := hq.frozen 0
    simp at q0
    have hnI : (n : Int) ≤ 100000 := by omega
    have hW : Blk (w.setCell ⟨q, 0, none⟩ (.int .i64 ((n : Int) + f.len))) q 3 #[.int .i64 ((n + f.len : Nat) : Int)] := by simpa using hq.set 0 (.int .i64 ((n : Int) + f.len))
    have hWb : Below B w (w.setCell ⟨q, 0, none⟩ (.int .i64 ((n : Int) + f.len))) := (Below.refl _ _).setCell hB _
    have d0 := hW.cell 0
    simp at d0
    have hfl := f.len_tot
    have hst : n + f.len ≤ M → AtP B q g o f n M w (.int .i64 0) (w.setCell ⟨q, 0, none⟩ (.int .i64 ((n : Int) + f.len))) := fun h => ⟨⟨0, f, n + f.len, by omega, rfl, by simpa using hrd.below hWb, Nat.le_refl _, by omega, h, hW⟩, hWb⟩
    have HST := Lib.hid hst
    have HA := Lib.hid hA
    have HW := Lib.hid hW
    have HWB := Lib.hid hWb
    clear hst hrd hr hA hq hW hWb
    obtain ⟨len, hlen⟩ : ∃ len, f.len = len := ⟨_, rfl⟩
    rw [hlen] at hc hl hfl HST HW HWB d0 ⊢
    have HLN := Lib.hid hlen
    clear hlen
    unfold lenMost at hl
    rcases (show M < n + len ∨ (n + len ≤ M ∧ 0 < len ∧ L = 0) ∨ (n + len ≤ M ∧ (len = 0 ∨ 1 ≤ L)) from by omega) with h1 | ⟨h1, h2, h3⟩ | ⟨h1, h2⟩
    · have g1 : decide ((M : Int) < (n : Int) + (len : Int)) = true := by simp; omega
      clear HST
      go_enter Try.func38, Try.ntmps38
      go_wp2_with fail
      go_ret
      exact ⟨⟨true, n + len, rfl, HW.out, fun h => by cases h⟩, HWB.out⟩
    · have g1 : decide ((M : Int) < (n : Int) + (len : Int)) = false := by simp; omega
      have g2 : decide (0 < len) = true := by simpa using h2
      subst h3
      clear HST
      go_enter Try.func38, Try.ntmps38
      go_wp2_with fail
      go_ret
      exact ⟨⟨true, n + len, rfl, HW.out, fun h => by cases h⟩, HWB.out⟩
    · have g1 : decide ((M : Int) < (n : Int) + (len : Int)) = false := by simp; omega
      have hst := HST.out h1
      have HS2 := Lib.hid hst
      clear hst HST
      rcases Nat.eq_zero_or_pos len with hz | hz
      · subst hz
        have hnil : f = .nil := Fo.nil_of HLN.out
        subst hnil
        have HWW := Lib.hid (show Blk (w.setCell ⟨q, 0, none⟩ (.int .i64 (n : Int))) q 3 #[.int .i64 n] by have := HW.out; simpa using this)
        have HWX := Lib.hid (show Below B w (w.setCell ⟨q, 0, none⟩ (.int .i64 (n : Int))) by have := HWB.out; simpa using this)
        have e0 := HWW.out.cell 0
        simp at e0 d0
        have g1b : decide ((M : Int) < (n : Int)) = false := by simp; omega
        have g1n : decide (M < n) = false := by simp; omega
        clear HS2 HW HWB
        go_enter Try.func38, Try.ntmps38
        go_wp2_with fail
        go_loopw [9] (fun i wr => wr = w.setCell ⟨q, 0, none⟩ (.int .i64 (n : Int)) ∧ i = .int .i64 0) (fun _ _ => 0)
        case atStart => exact ⟨rfl, rfl⟩
        case round =>
          obtain ⟨rfl, rfl⟩ := hrel
          go_wp2_with fail
          go_ret
          exact ⟨⟨false, n, rfl, HWW.out, fun _ => ⟨rfl, hn⟩⟩, HWX.out⟩
      · have g2 : decide (0 < len) = true := by simpa using hz
        obtain ⟨L, rfl⟩ : ∃ x, L = x + 1 := ⟨L - 1, by omega⟩
        obtain ⟨LL, hLL⟩ : ∃ x, L + 1 = x := ⟨_, rfl⟩
        rw [hLL] at hL ⊢
        have hL1 : (1 : Int) ≤ (LL : Int) := by omega
        have hL3 : L ≤ 1000 := by omega
        have hL2 : (LL : Int) ≤ 1000 := by omega
        have hLI : (LL : Int) - 1 = (L : Int) := by omega
        have HLL := Lib.hid hLL
        have g5 : decide ((LL : Int) < 1) = false := by simp; omega
        clear hLL h2
        go_enter Try.func38, Try.ntmps38
        go_wp2_with fail
        go_loopw [9] (fun i wr => AtP B q g o f n M w i wr) (fun i _ => len - (intOf i).toNat)
        case atStart => exact HS2.out
        case round =>
          obtain ⟨⟨k, r, m, hk, rfl, hrd, htot, hcn, hmM, hq⟩, hlow⟩ := hrel
          have hlw := hlow.size
          rcases r with _ | ⟨h, b, e, r⟩
          · have hkl : k = len := by simp only [Fo.len] at hk; have := HLN.out; omega
            subst hkl
            have hfin : DeepP B q n f M w (.returned (.bool false)) wr := ⟨⟨false, m, rfl, hq, fun _ => ⟨by simpa [Fo.len, Fo.tot] using hcn.symm, hmM⟩⟩, hlow⟩
            have HFN := Lib.hid hfin
            have g3 : decide (k < k) = false := by simp
            clear hcn hq hrd hfin hk htot hlow HS2
            go_wp2_with fail
            go_ret
            exact HFN.out
          · obtain ⟨hdok, hg, ⟨Ab, cb, Ae, ce, hcl, hbl, hel, hb, he⟩, hrest⟩ := hrd
            simp only [Fo.len] at hk hcn
            simp only [Fo.tot] at htot hcn
            have hkl : k < len := by have := HLN.out; omega
            have hkI : (k : Int) < (len : Int) := by omega
            have hk0 : (0 : Int) ≤ (k : Int) := by omega
            have g3 : decide (k < len) = true := by simpa using hkl
            have hcells := Cells.of hcl
            have HCL := Lib.hid hcells
            have d10 := hcells.c10
            have hA := HA.out (by rw [HLN.out]; omega)
            subst hA
            have hbr := IH.out b (by omega) B q m cb L M Ab wr hb hq hB (by omega) hmM hM hbl.1 hbl.2.2 hL3
            have her : ∀ W m', Below B wr W → Blk W q 3 #[.int .i64 ((m' : Nat) : Int)] → m' ≤ M → Calls Try.prog 38 #[.slice Ae e.len ce, .int .i64 L, .int .i64 M, .pointer (some ⟨q, 0, none⟩)] W (DeepP B q m' e M W) := fun W m' h1 h2 h3 =>
              IH.out e (by omega) B q m' ce L M Ae W ((show RdS B wr Ae e from he).below h1) h2 hB (by have := h1.size; omega) h3 hM hel.1 hel.2.2 hL3
            have HBR := Lib.hid hbr
            have HER := Lib.hid her
            have HRS := Lib.hid hrest
            have HCN := Lib.hid hcn
            have HLW := Lib.hid hlow
            generalize hbn : b.len = bn at *
            generalize hen : e.len = en at *
            clear hbr her hrest hb he hcn hlow hcl hcells hq hbn hen HS2 d0
            go_wp2_with fail
            refine (HBR.out).mono ?_
            rintro e1 w1 ⟨⟨b1, m1, rfl, hq1, hm1⟩, hb1⟩
            have d11 := (HCL.out.below hb1 hg).c11
            have H1 := Lib.hid hb1
            have Q1 := Lib.hid hq1
            have M1 := Lib.hid hm1
            clear hb1 hq1 hm1
            cases b1
            · obtain ⟨hm1, hm1M⟩ := M1.out rfl
              have HM1 := Lib.hid hm1
              clear hm1
              go_wp2_with fail
              refine (HER.out _ m1 H1.out Q1.out hm1M).mono ?_
              rintro e2 w2 ⟨⟨b2, m2, rfl, hq2, hm2⟩, hb2⟩
              have H2 := Lib.hid (H1.out.trans hb2)
              have Q2 := Lib.hid hq2
              have M2 := Lib.hid hm2
              clear hb2 hq2 hm2
              cases b2
              · obtain ⟨hm2, hm2M⟩ := M2.out rfl
                have hend : AtP B q g o f n M w (.int .i64 ((k : Int) + 1)) w2 := ⟨⟨k + 1, r, m2, by have := HLN.out; omega, by go_num, by have := HRS.out.below H2.out; rwa [show o + k * 13 + 13 = o + (k + 1) * 13 by omega] at this, by omega, by have := HCN.out; have := HM1.out; omega, hm2M, Q2.out⟩, HLW.out.trans H2.out⟩
                have HEND := Lib.hid hend
                clear hend hm2
                go_wp2_with fail
                exact ⟨HEND.out, by simp [intOf]; omega⟩
              · go_wp2_with fail
                go_ret
                exact ⟨⟨true, m2, rfl, Q2.out, fun h => by cases h⟩, HLW.out.trans H2.out⟩
            · go_wp2_with fail
              go_ret
              exact ⟨⟨true, m1, rfl, Q1.out, fun h => by cases h⟩, HLW.out.trans H1.out⟩
/-- What Deep tells. -/
structure IsDeep (f : Fo) (M : Nat) (w0 : World) (e : Ending) (w : World) : Prop where
  ex : ∃ b : Bool, e = .returned (.bool b) ∧ (b = false → f.tot ≤ M)
  low : Below w0.heap.size w0 w
set_option maxRecDepth 100000 in
theorem deep_any (f : Fo) (A : Option Addr) (c L M : Nat) (w : World) (hr : RdS w.heap.size w A f) (hc : f.len ≤ c) (hl : f.len ≤ lenMost) (hL : L ≤ 1000) (hM : M ≤ 100000) :
    Calls Try.prog 9 #[.slice A f.len c, .int .i64 L, .int .i64 M] w (IsDeep f M w) := by
  have hbx := Blk.new w 3 #[.int .i64 ((0 : Nat) : Int)]
  have hal := (Below.refl w.heap.size w).alloc (Nat.le_refl _) (.cells #[.int .i64 ((0 : Nat) : Int)] 3)
  have hd := deepN f.tot f (Nat.le_refl _) w.heap.size w.heap.size 0 c L M A _ (hr.below hal) hbx (Nat.le_refl _) (by simp) (Nat.zero_le _) hM hc hl hL
  have HD := Lib.hid hd
  have HAL := Lib.hid hal
  clear hd hal hbx hr
  generalize hlen : f.len = len at *
  clear hlen
  go_enter Try.func9, Try.ntmps9
  go_wp2_with fail
  refine (HD.out).mono ?_
  rintro e w1 ⟨⟨b, m, rfl, hq, hm⟩, hb⟩
  have K := Lib.hid (HAL.out.trans hb)
  have HM := Lib.hid hm
  clear hq hb hm
  go_wp2_with fail
  go_ret
  exact ⟨⟨b, rfl, fun h => by have := HM.out h; omega⟩, K.out⟩
end Go.Proofs.Ytebmgladdgmmeaa
namespace Go.Proofs.Ytebmgladdgmmeaa
open Go.RowKit Go.WideShapes
set_option linter.unusedVariables false
set_option linter.unusedSimpArgs false
theorem okF_app : ∀ (f g : Fo) (L : Nat), okF (f.app g) (L + 1) = (okF f (L + 1) && okF g (L + 1))
  | .nil, g, L => by simp [Fo.app, okF]
  | .cons h b e r, g, L => by simp only [Fo.app, okF, okF_app r g L, Bool.and_assoc]
theorem cnF_app : ∀ (f g : Fo) (L : Nat), cnF (f.app g) (L + 1) = cnF f (L + 1) + cnF g (L + 1)
  | .nil, g, L => by simp [Fo.app, cnF]
  | .cons h b e r, g, L => by simp only [Fo.app, cnF, cnF_app r g L]; omega
theorem gdF_app (post : Bool) : ∀ (f g : Fo) (L : Nat), gdF post (f.app g) (L + 1) = (gdF post f (L + 1) && gdF post g (L + 1))
  | .nil, g, L => by simp [Fo.app, gdF]
  | .cons h b e r, g, L => by simp only [Fo.app, gdF, gdF_app post r g L, Bool.and_assoc]
theorem rightF_app {post : Bool} {f g : Fo} (h : rightF post (f.app g) = true) : rightF post f = true ∧ rightF post g = true := by
  unfold rightF at *
  rw [okF_app f g 19, gdF_app post f g 19, cnF_app f g 19] at h
  simp only [Bool.and_eq_true, decide_eq_true_eq] at *
  have h2 : cnF f 20 + cnF g 20 ≤ 500 := h.2
  exact ⟨⟨⟨h.1.1.1, h.1.2.1⟩, by omega⟩, ⟨⟨h.1.1.2, h.1.2.2⟩, by omega⟩⟩
end Go.Proofs.Ytebmgladdgmmeaa
