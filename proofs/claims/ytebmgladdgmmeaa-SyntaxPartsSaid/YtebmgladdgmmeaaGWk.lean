/- All statements told, down to some levels: the walk, counting, judging. Condition: none but that counts fit. -/
import Derived.Test.YtebmgladdgmmeaaGRi
namespace Go.Proofs.Ytebmgladdgmmeaa
open Go.RowKit Go.WideShapes
set_option linter.unusedVariables false
set_option linter.unusedSimpArgs false
/-- Are there none deeper than so many levels? -/
def okF : Fo → Nat → Bool
  | .nil, _ => true
  | .cons _ _ _ _, 0 => false
  | .cons _ b e r, L + 1 => okF b L && okF e L && okF r (L + 1)
/-- How many, down to so many levels. -/
def cnF : Fo → Nat → Nat
  | .nil, _ => 0
  | .cons _ _ _ _, 0 => 0
  | .cons _ b e r, L + 1 => cnF b L + cnF e L + cnF r (L + 1) + 1
/-- Are all right, down to so many levels? -/
def gdF (post : Bool) : Fo → Nat → Bool
  | .nil, _ => true
  | .cons _ _ _ _, 0 => true
  | .cons h b e r, L + 1 => rtH post h b.len e.len && gdF post b L && gdF post e L && gdF post r (L + 1)
theorem cnF_le : ∀ (f : Fo) (L : Nat), cnF f L ≤ f.tot
  | .nil, _ => Nat.le_refl _
  | .cons _ _ _ _, 0 => Nat.zero_le _
  | .cons _ b e r, L + 1 => by
    have := cnF_le b L
    have := cnF_le e L
    have := cnF_le r (L + 1)
    simp only [cnF, Fo.tot]; omega
/-- What walk tells, the statements counted. -/
structure DoneN (B q : Nat) (n : Nat) (ok : Bool) (w0 : World) (e : Ending) (w : World) : Prop where
  ret : e = .returned (.bool ok)
  cnt : Blk w q 3 #[.int .i64 n]
  low : Below B w0 w
structure ToldN (B q : Nat) (n : Nat) (w0 : World) (e : Ending) (w : World) : Prop where
  ret : e = .returned (.tuple #[])
  cnt : Blk w q 3 #[.int .i64 n]
  low : Below B w0 w
theorem tellN (B q n : Nat) (x : Value) (w : World) (hq : Blk w q 3 #[.int .i64 n]) (hB : B ≤ q) (hn : n ≤ 1000000) : Calls Try.prog 44 #[x, .pointer (some ⟨q, 0, none⟩)] w (ToldN B q (n + 1) w) := by
  have c0 := hq.cell 0
  have f0 := hq.frozen 0
  simp at c0
  have HQ := Lib.hid hq
  have hnI : (n : Int) ≤ 1000000 := by omega
  clear hq
  go_enter Try.func44, Try.ntmps44
  go_wp2_with fail
  go_end0
  exact ⟨rfl, by simpa using HQ.out.set 0 (.int .i64 ((n : Int) + 1)), (Below.refl _ _).setCell hB _⟩
/-- Where a round of the loop stands. -/
structure AtN (B q g o : Nat) (f : Fo) (L n : Nat) (w0 : World) (d i : Value) (w : World) : Prop where
  ex : ∃ (k : Nat) (r : Fo) (dn : Bool) (m : Nat), k + r.len = f.len ∧ i = .int .i64 k ∧ d = .bool dn ∧ RdF B w r g (o + k * 13) ∧ r.tot ≤ f.tot ∧ okF f L = (dn && okF r L) ∧ n + cnF f L = m + cnF r L ∧ Blk w q 3 #[.int .i64 m]
  low : Below B w0 w
def WkN (N : Nat) : Prop := ∀ (f : Fo), f.tot ≤ N → ∀ (B q n c L : Nat) (A : Option Addr) (w : World), RdS B w A f → Blk w q 3 #[.int .i64 n] → B ≤ q → B ≤ w.heap.size → n + cnF f L ≤ 1000000 → f.len ≤ c → f.len ≤ lenMost → L ≤ 1000 →
  Calls Try.prog 39 #[.slice A f.len c, .int .i64 L, .func (.func 44) #[] #[.pointer (some ⟨q, 0, none⟩)]] w (DoneN B q (n + cnF f L) (okF f L) w)
set_option maxRecDepth 100000 in
set_option maxHeartbeats 8000000 in
theorem walkN : ∀ N, WkN N := by
  intro N
  induction N with
  | zero =>
    intro f hf B q n c L A w hr hq hB hBw hn hc hl hL
    have hfl := f.len_tot
    obtain rfl : f = .nil := Fo.nil_of (by omega)
    have HQ := Lib.hid hq
    clear hq hr
    go_enter Try.func39, Try.ntmps39
    go_wp2_with fail
    go_loopw [7, 18] (fun d i wr => wr = w ∧ i = .int .i64 0 ∧ d = .bool true) (fun _ _ _ => 0)
    case atStart => exact ⟨rfl, rfl, rfl⟩
    case round =>
      obtain ⟨rfl, rfl, rfl⟩ := hrel
      go_wp2_with fail
      go_ret
      exact ⟨rfl, HQ.out, Below.refl _ _⟩
  | succ N ih =>
    have IH := Lib.hid ih
    clear ih
    intro f hf B q n c L A w hr hq hB hBw hn hc hl hL
    rcases Nat.eq_zero_or_pos f.len with h0 | h0
    · obtain rfl : f = .nil := Fo.nil_of h0
      have HQ := Lib.hid hq
      clear hq hr
      go_enter Try.func39, Try.ntmps39
      go_wp2_with fail
      go_loopw [7, 18] (fun d i wr => wr = w ∧ i = .int .i64 0 ∧ d = .bool true) (fun _ _ _ => 0)
      case atStart => exact ⟨rfl, rfl, rfl⟩
      case round =>
        obtain ⟨rfl, rfl, rfl⟩ := hrel
        go_wp2_with fail
        go_ret
        exact ⟨rfl, HQ.out, Below.refl _ _⟩
    · obtain ⟨g, o, rfl, hrd⟩ := hr h0
      have g1 : decide (0 < f.len) = true := by simpa using h0
      rcases L with _ | L
      · have e1 : okF f 0 = false := by rcases f with _ | ⟨h, b, e, r⟩; (simp [Fo.len] at h0); rfl
        have e2 : cnF f 0 = 0 := by rcases f with _ | ⟨h, b, e, r⟩ <;> rfl
        rw [e1, e2]
        have HQ := Lib.hid hq
        clear hq hrd e1 e2
        go_enter Try.func39, Try.ntmps39
        go_wp2_with fail
        go_ret
        exact ⟨rfl, HQ.out, Below.refl _ _⟩
      · obtain ⟨LL, hLL⟩ : ∃ x, L + 1 = x := ⟨_, rfl⟩
        rw [hLL] at hn hL ⊢
        have hL1 : (1 : Int) ≤ (LL : Int) := by omega
        have hL3 : L ≤ 1000 := by omega
        have hL2 : (LL : Int) ≤ 1000 := by omega
        have hLI : (LL : Int) - 1 = (L : Int) := by omega
        have HLI := Lib.hid hLI
        have HLL := Lib.hid hLL
        clear hLI hLL
        have g2 : decide ((LL : Int) < 1) = false := by simp; omega
        have hst : AtN B q g o f LL n w (.bool true) (.int .i64 0) w := ⟨⟨0, f, true, n, by omega, rfl, rfl, by simpa using hrd, Nat.le_refl _, by simp, rfl, hq⟩, Below.refl _ _⟩
        have HST := Lib.hid hst
        clear hst hrd hq
        obtain ⟨len, hlen⟩ : ∃ len, f.len = len := ⟨_, rfl⟩
        rw [hlen] at h0 g1 hc hl ⊢
        have HLN := Lib.hid hlen
        clear hlen
        unfold lenMost at hl
        go_enter Try.func39, Try.ntmps39
        go_wp2_with fail
        go_loopw [7, 18] (fun d i wr => AtN B q g o f LL n w d i wr) (fun _ i _ => len - (intOf i).toNat)
        case atStart => exact HST.out
        case round =>
          obtain ⟨⟨k, r, dn, m, hk, rfl, rfl, hrd, htot, hok, hcn, hq⟩, hlow⟩ := hrel
          have hlw := hlow.size
          rcases r with _ | ⟨h, b, e, r⟩
          · have hkl : k = len := by simp only [Fo.len] at hk; have := HLN.out; omega
            subst hkl
            have hfin : DoneN B q (n + cnF f LL) (okF f LL) w (.returned (.bool dn)) wr := ⟨by rw [hok]; simp [okF], by rw [hcn]; exact hq, hlow⟩
            have HFN := Lib.hid hfin
            have g3 : decide (k < k) = false := by simp
            clear hok hcn hq hrd hfin hk htot hlow HST
            go_wp2_with fail
            go_ret
            exact HFN.out
          · obtain ⟨hdok, hg, ⟨Ab, cb, Ae, ce, hcl, hbl, hel, hb, he⟩, hrest⟩ := hrd
            simp only [Fo.len] at hk
            rw [show okF (.cons h b e r) LL = okF (.cons h b e r) (L + 1) by rw [HLL.out]] at hok
            rw [show cnF (.cons h b e r) LL = cnF (.cons h b e r) (L + 1) by rw [HLL.out]] at hcn
            simp only [okF] at hok
            simp only [cnF] at hcn
            simp only [Fo.tot] at htot
            have hkl : k < len := by have := HLN.out; omega
            have hkI : (k : Int) < (len : Int) := by omega
            have hk0 : (0 : Int) ≤ (k : Int) := by omega
            have g3 : decide (k < len) = true := by simpa using hkl
            have hcells := Cells.of hcl
            have HCL := Lib.hid hcells
            have hmb : m ≤ 1000000 := by omega
            have htl := tellN B q m (.pointer (some ⟨g, o + k * 13, none⟩)) wr hq hB hmb
            obtain ⟨xb, hxb⟩ : ∃ x, okF b L = x := ⟨_, rfl⟩
            obtain ⟨xe, hxe⟩ : ∃ x, okF e L = x := ⟨_, rfl⟩
            obtain ⟨nb, hnb⟩ : ∃ x, cnF b L = x := ⟨_, rfl⟩
            obtain ⟨ne, hne⟩ : ∃ x, cnF e L = x := ⟨_, rfl⟩
            rw [hxb, hxe, HLL.out] at hok
            rw [hnb, hne, HLL.out] at hcn
            have hbr : ∀ W, RdS B W Ab b → Blk W q 3 #[.int .i64 ((m + 1 : Nat) : Int)] → B ≤ W.heap.size → Calls Try.prog 39 #[.slice Ab b.len cb, .int .i64 L, .func (.func 44) #[] #[.pointer (some ⟨q, 0, none⟩)]] W (DoneN B q (m + 1 + nb) xb W) := fun W h1 h2 h3 => by
              have := IH.out b (by omega) B q (m + 1) cb L Ab W h1 h2 hB h3 (by omega) hbl.1 hbl.2.2 (by omega)
              rwa [hxb, hnb] at this
            have her : ∀ W, RdS B W Ae e → Blk W q 3 #[.int .i64 ((m + 1 + nb : Nat) : Int)] → B ≤ W.heap.size → Calls Try.prog 39 #[.slice Ae e.len ce, .int .i64 L, .func (.func 44) #[] #[.pointer (some ⟨q, 0, none⟩)]] W (DoneN B q (m + 1 + nb + ne) xe W) := fun W h1 h2 h3 => by
              have := IH.out e (by omega) B q (m + 1 + nb) ce L Ae W h1 h2 hB h3 (by omega) hel.1 hel.2.2 (by omega)
              rwa [hxe, hne] at this
            have hBR := Lib.hid hbr
            have hER := Lib.hid her
            have HTL := Lib.hid htl
            have HRS := Lib.hid hrest
            have HB := Lib.hid (show RdS B wr Ab b from hb)
            have HE := Lib.hid (show RdS B wr Ae e from he)
            have HOK := Lib.hid hok
            have HCN := Lib.hid hcn
            have HLW := Lib.hid hlow
            have hB2 : B ≤ wr.heap.size := by omega
            generalize hbn : b.len = bn at *
            generalize hen : e.len = en at *
            clear hbr her htl hrest hb he hok hcn hlow hcl hcells hq hxb hxe hnb hne hbn hen HST
            have hend : ∀ (W : World) (dn' : Bool), Below B wr W → Blk W q 3 #[.int .i64 ((m + 1 + nb + ne : Nat) : Int)] → dn' = (xe && (xb && dn)) → AtN B q g o f LL n w (.bool dn') (.int .i64 ((k : Int) + 1)) W := fun W dn' h1 h2 h3 =>
              ⟨⟨k + 1, r, dn', m + 1 + nb + ne, by have := HLN.out; omega, by go_num, rfl, by have := HRS.out.below h1; rwa [show o + k * 13 + 13 = o + (k + 1) * 13 by omega] at this, by omega, by rw [HOK.out, h3]; cases xe <;> cases xb <;> cases dn <;> simp, by have := HCN.out; omega, h2⟩, HLW.out.trans h1⟩
            have HEND := Lib.hid hend
            clear hend
            cases dn <;> cases xb <;> cases xe
            all_goals
              go_wp2_with fail
              refine (HTL.out).mono ?_
              rintro e1 w1 ⟨rfl, hq1, hb1⟩
              have d10 := (HCL.out.below hb1 hg).c10
              have hs1 := hb1.size
              have H1 := Lib.hid hb1
              have Q1 := Lib.hid hq1
              clear hb1 hq1
              go_wp2_with fail
              rw [HLI.out]
              refine (hBR.out _ (HB.out.below H1.out) Q1.out (by omega)).mono ?_
              rintro e2 w2 ⟨rfl, hq2, hb2⟩
              have d11 := ((HCL.out.below H1.out hg).below hb2 hg).c11
              have hs2 := hb2.size
              have H2 := Lib.hid (H1.out.trans hb2)
              have Q2 := Lib.hid hq2
              clear hb2 hq2 d10
              go_wp2_with fail
              rw [HLI.out]
              refine (hER.out _ (HE.out.below H2.out) Q2.out (by omega)).mono ?_
              rintro e3 w3 ⟨rfl, hq3, hb3⟩
              have H3 := Lib.hid (H2.out.trans hb3)
              have Q3 := Lib.hid hq3
              clear hb3 hq3 d11
              go_wp2_with fail
              exact ⟨HEND.out _ _ H3.out Q3.out rfl, by simp [intOf]; omega⟩
end Go.Proofs.Ytebmgladdgmmeaa
