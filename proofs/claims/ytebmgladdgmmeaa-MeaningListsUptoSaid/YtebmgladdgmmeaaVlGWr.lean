/- All statements told, down to some levels: the walk, judging. Condition: none but that counts fit. -/
import Derived.Test.YtebmgladdgmmeaaVlGWk
namespace Go.Proofs.Ytebmgladdgmmeaa
open Go.RowKit Go.WideShapes
set_option linter.unusedVariables false
set_option linter.unusedSimpArgs false
/-- What Right keeps: how many, whether all are right, post. -/
structure Jd (q q2 q3 : Nat) (post : Bool) (n : Nat) (gd : Bool) (w : World) : Prop where
  n : Blk w q 3 #[.int .i64 n]
  g : Blk w q2 4 #[.bool gd]
  p : Blk w q3 4 #[.bool post]
theorem Jd.alloc {q q2 q3 n : Nat} {post gd : Bool} {w : World} (h : Jd q q2 q3 post n gd w) (o : Obj) : Jd q q2 q3 post n gd (w.alloc o) := ⟨h.n.alloc o, h.g.alloc o, h.p.alloc o⟩
/-- What walk tells, the statements counted. -/
structure DoneJ (B q q2 q3 : Nat) (post : Bool) (n : Nat) (gd ok : Bool) (w0 : World) (e : Ending) (w : World) : Prop where
  ret : e = .returned (.bool ok)
  cnt : Jd q q2 q3 post n gd w
  low : Below B w0 w
structure ToldJ (B q q2 q3 : Nat) (post : Bool) (n : Nat) (gd : Bool) (w0 : World) (e : Ending) (w : World) : Prop where
  ret : e = .returned (.tuple #[])
  cnt : Jd q q2 q3 post n gd w
  low : Below B w0 w
set_option maxRecDepth 100000 in
set_option maxHeartbeats 2000000 in
theorem tellJ (B q q2 q3 n : Nat) (post gd : Bool) (g o : Nat) (h : Hd) (Ab Ae : Option Addr) (cb ce bl el : Nat) (w : World) (hj : Jd q q2 q3 post n gd w) (hB : B ≤ q ∧ B ≤ q2 ∧ B ≤ q3 ∧ q2 ≠ q3) (hn : n ≤ 1000000)
    (hc : Cells w g o h (.slice Ab bl cb) (.slice Ae el ce)) (hg : g < B) (hok : h.ok) (hbl : bl ≤ lenMost) (hel : el ≤ lenMost) :
    Calls Try.prog 40 #[.pointer (some ⟨g, o, none⟩), .pointer (some ⟨q, 0, none⟩), .pointer (some ⟨q2, 0, none⟩), .pointer (some ⟨q3, 0, none⟩)] w (ToldJ B q q2 q3 post (n + 1) (gd && rtH post h bl el) w) := by
  obtain ⟨hB1, hB2, hB3, hne⟩ := hB
  have h12 : q ≠ q2 := Blk.ne hj.n hj.g (by decide)
  have h13 : q ≠ q3 := Blk.ne hj.n hj.p (by decide)
  have c0 := hj.n.cell 0
  have f0 := hj.n.frozen 0
  simp at c0
  have hf1 : Frm (fun k => k = q) w (w.setCell ⟨q, 0, none⟩ (.int .i64 ((n : Int) + 1))) := Frm.setCell (S := fun k => k = q) (p := ⟨q, 0, none⟩) (Frm.refl _ _) (fun _ => rfl) _
  have hn1 : Blk (w.setCell ⟨q, 0, none⟩ (.int .i64 ((n : Int) + 1))) q 3 #[.int .i64 ((n + 1 : Nat) : Int)] := by simpa using hj.n.set 0 (.int .i64 ((n : Int) + 1))
  have hg1 := hj.g.frm hf1 (fun e => h12 e.symm)
  have hp1 := hj.p.frm hf1 (fun e => h13 e.symm)
  have hb1 : Below B w (w.setCell ⟨q, 0, none⟩ (.int .i64 ((n : Int) + 1))) := (Below.refl _ _).setCell hB1 _
  have c2 := hg1.cell 0
  have f2 := hg1.frozen 0
  have c3 := hp1.cell 0
  simp at c2 c3
  have hcl := hc.below hb1 hg
  have hlt := hg1.lt
  have hrt := right_any g o h post Ab Ae cb ce bl el _ hcl (by omega) hok hbl hel
  obtain ⟨x, hx⟩ : ∃ x, rtH post h bl el = x := ⟨_, rfl⟩
  rw [hx] at hrt ⊢
  have HRT := Lib.hid hrt
  have HN1 := Lib.hid hn1
  have HG1 := Lib.hid hg1
  have HP1 := Lib.hid hp1
  have HB1 := Lib.hid hb1
  have hnI : (n : Int) ≤ 1000000 := by omega
  clear hrt hn1 hg1 hp1 hb1 hf1 hj hcl hc hok hx
  have hset : ∀ (W : World) (y : Bool), Below (w.setCell ⟨q, 0, none⟩ (.int .i64 ((n : Int) + 1))).heap.size (w.setCell ⟨q, 0, none⟩ (.int .i64 ((n : Int) + 1))) W → ToldJ B q q2 q3 post (n + 1) y w (.returned (.tuple #[])) (W.setCell ⟨q2, 0, none⟩ (.bool y)) := fun W y hW => by
    have hf : Frm (fun k => k = q2) W (W.setCell ⟨q2, 0, none⟩ (.bool y)) := Frm.setCell (S := fun k => k = q2) (p := ⟨q2, 0, none⟩) (Frm.refl _ _) (fun _ => rfl) _
    exact ⟨rfl, ⟨(HN1.out.below hW).frm hf h12, by simpa using (HG1.out.below hW).set 0 (.bool y), (HP1.out.below hW).frm hf (fun e => hne e.symm)⟩, (HB1.out.trans (hW.mono (by omega))).setCell hB2 _⟩
  have HSET := Lib.hid hset
  clear hset
  have hf2 : ∀ W, Below (w.setCell ⟨q, 0, none⟩ (.int .i64 ((n : Int) + 1))).heap.size (w.setCell ⟨q, 0, none⟩ (.int .i64 ((n : Int) + 1))) W → W.frozen? ⟨q2, 0, none⟩ = false ∧ ∃ u, W.cell? ⟨q2, 0, none⟩ = some u := fun W hW => by
    have hw := HG1.out.below hW
    exact ⟨hw.frozen 0, _, (hw.cell 0).trans rfl⟩
  have HF2 := Lib.hid hf2
  clear hf2
  cases gd
  · go_enter Try.func40, Try.ntmps40
    go_wp2_with fail
    go_end0
    exact HSET.out _ false (Below.refl _ _)
  · go_enter Try.func40, Try.ntmps40
    go_wp2_with fail
    refine (HRT.out).mono ?_
    rintro e w1 ⟨rfl, hb2⟩
    obtain ⟨f3, u, c4⟩ := HF2.out _ hb2
    have HB2 := Lib.hid hb2
    clear hb2
    go_wp2_with fail
    go_end0
    exact HSET.out _ x HB2.out
/-- Where a round of the loop stands. -/
structure AtJ (B q q2 q3 : Nat) (post : Bool) (g o : Nat) (f : Fo) (L n : Nat) (gd : Bool) (w0 : World) (d i : Value) (w : World) : Prop where
  ex : ∃ (k : Nat) (r : Fo) (dn : Bool) (m : Nat) (gm : Bool), k + r.len = f.len ∧ i = .int .i64 k ∧ d = .bool dn ∧ RdF B w r g (o + k * 13) ∧ r.tot ≤ f.tot ∧ okF f L = (dn && okF r L) ∧ n + cnF f L = m + cnF r L ∧ (gd && gdF post f L) = (gm && gdF post r L) ∧ Jd q q2 q3 post m gm w
  low : Below B w0 w
def WkJ (N : Nat) : Prop := ∀ (f : Fo), f.tot ≤ N → ∀ (B q q2 q3 : Nat) (post : Bool) (n : Nat) (gd : Bool) (c L : Nat) (A : Option Addr) (w : World), RdS B w A f → Jd q q2 q3 post n gd w → (B ≤ q ∧ B ≤ q2 ∧ B ≤ q3 ∧ q2 ≠ q3) → B ≤ w.heap.size → n + cnF f L ≤ 1000000 → f.len ≤ c → f.len ≤ lenMost → L ≤ 1000 →
  Calls Try.prog 39 #[.slice A f.len c, .int .i64 L, .func (.func 40) #[] #[.pointer (some ⟨q, 0, none⟩), .pointer (some ⟨q2, 0, none⟩), .pointer (some ⟨q3, 0, none⟩)]] w (DoneJ B q q2 q3 post (n + cnF f L) (gd && gdF post f L) (okF f L) w)
set_option maxRecDepth 100000 in
set_option maxHeartbeats 8000000 in
theorem walkJ : ∀ N, WkJ N := by
  intro N
  induction N with
  | zero =>
    intro f hf B q q2 q3 post n gd c L A w hr hq hB hBw hn hc hl hL
    have hfl := f.len_tot
    obtain rfl : f = .nil := Fo.nil_of (by omega)
    have HQ := Lib.hid (show Jd q q2 q3 post (n + cnF .nil L) (gd && gdF post .nil L) w by simpa [cnF, gdF] using hq)
    clear hq hr
    go_enter Try.func39, Try.ntmps39
    go_wp2_with fail
    go_loopw [7, 18] (fun d i wr => wr = w ∧ i = .int .i64 0 ∧ d = .bool true) (fun _ _ _ => 0)
    case atStart => exact ⟨rfl, rfl, rfl⟩
    case round =>
      obtain ⟨rfl, rfl, rfl⟩ := hrel
      go_wp2_with fail
      go_ret
      exact ⟨rfl, HQ.out, Below.refl _ _⟩
  | succ N ih =>
    have IH := Lib.hid ih
    clear ih
    intro f hf B q q2 q3 post n gd c L A w hr hq hB hBw hn hc hl hL
    rcases Nat.eq_zero_or_pos f.len with h0 | h0
    · obtain rfl : f = .nil := Fo.nil_of h0
      have HQ := Lib.hid (show Jd q q2 q3 post (n + cnF .nil L) (gd && gdF post .nil L) w by simpa [cnF, gdF] using hq)
      clear hq hr
      go_enter Try.func39, Try.ntmps39
      go_wp2_with fail
      go_loopw [7, 18] (fun d i wr => wr = w ∧ i = .int .i64 0 ∧ d = .bool true) (fun _ _ _ => 0)
      case atStart => exact ⟨rfl, rfl, rfl⟩
      case round =>
        obtain ⟨rfl, rfl, rfl⟩ := hrel
        go_wp2_with fail
        go_ret
        exact ⟨rfl, HQ.out, Below.refl _ _⟩
    · obtain ⟨g, o, rfl, hrd⟩ := hr h0
      have g1 : decide (0 < f.len) = true := by simpa using h0
      rcases L with _ | L
      · have e1 : okF f 0 = false := by rcases f with _ | ⟨h, b, e, r⟩; (simp [Fo.len] at h0); rfl
        have e2 : cnF f 0 = 0 := by rcases f with _ | ⟨h, b, e, r⟩ <;> rfl
        have e3 : gdF post f 0 = true := by rcases f with _ | ⟨h, b, e, r⟩ <;> rfl
        rw [e1, e2, e3]
        have HQ := Lib.hid (show Jd q q2 q3 post (n + 0) (gd && true) w by simpa using hq)
        clear hq hrd e1 e2 e3
        go_enter Try.func39, Try.ntmps39
        go_wp2_with fail
        go_ret
        exact ⟨rfl, HQ.out, Below.refl _ _⟩
      · obtain ⟨LL, hLL⟩ : ∃ x, L + 1 = x := ⟨_, rfl⟩
        rw [hLL] at hn hL ⊢
        have hL1 : (1 : Int) ≤ (LL : Int) := by omega
        have hL3 : L ≤ 1000 := by omega
        have hL2 : (LL : Int) ≤ 1000 := by omega
        have hLI : (LL : Int) - 1 = (L : Int) := by omega
        have HLI := Lib.hid hLI
        have HLL := Lib.hid hLL
        clear hLI hLL
        have g2 : decide ((LL : Int) < 1) = false := by simp; omega
        have hst : AtJ B q q2 q3 post g o f LL n gd w (.bool true) (.int .i64 0) w := ⟨⟨0, f, true, n, gd, by omega, rfl, rfl, by simpa using hrd, Nat.le_refl _, by simp, rfl, rfl, hq⟩, Below.refl _ _⟩
        have HST := Lib.hid hst
        clear hst hrd hq
        obtain ⟨len, hlen⟩ : ∃ len, f.len = len := ⟨_, rfl⟩
        rw [hlen] at h0 g1 hc hl ⊢
        have HLN := Lib.hid hlen
        clear hlen
        unfold lenMost at hl
        go_enter Try.func39, Try.ntmps39
        go_wp2_with fail
        go_loopw [7, 18] (fun d i wr => AtJ B q q2 q3 post g o f LL n gd w d i wr) (fun _ i _ => len - (intOf i).toNat)
        case atStart => exact HST.out
        case round =>
          obtain ⟨⟨k, r, dn, m, gm, hk, rfl, rfl, hrd, htot, hok, hcn, hgn, hq⟩, hlow⟩ := hrel
          have hlw := hlow.size
          rcases r with _ | ⟨h, b, e, r⟩
          · have hkl : k = len := by simp only [Fo.len] at hk; have := HLN.out; omega
            subst hkl
            have hfin : DoneJ B q q2 q3 post (n + cnF f LL) (gd && gdF post f LL) (okF f LL) w (.returned (.bool dn)) wr := ⟨by rw [hok]; simp [okF], by rw [hcn, hgn]; simpa [cnF, gdF] using hq, hlow⟩
            have HFN := Lib.hid hfin
            have g3 : decide (k < k) = false := by simp
            clear hok hcn hgn hq hrd hfin hk htot hlow HST
            go_wp2_with fail
            go_ret
            exact HFN.out
          · obtain ⟨hdok, hg, ⟨Ab, cb, Ae, ce, hcl, hbl, hel, hb, he⟩, hrest⟩ := hrd
            simp only [Fo.len] at hk
            rw [show okF (.cons h b e r) LL = okF (.cons h b e r) (L + 1) by rw [HLL.out]] at hok
            rw [show cnF (.cons h b e r) LL = cnF (.cons h b e r) (L + 1) by rw [HLL.out]] at hcn
            rw [show gdF post (.cons h b e r) LL = gdF post (.cons h b e r) (L + 1) by rw [HLL.out]] at hgn
            simp only [gdF] at hgn
            simp only [okF] at hok
            simp only [cnF] at hcn
            simp only [Fo.tot] at htot
            have hkl : k < len := by have := HLN.out; omega
            have hkI : (k : Int) < (len : Int) := by omega
            have hk0 : (0 : Int) ≤ (k : Int) := by omega
            have g3 : decide (k < len) = true := by simpa using hkl
            have hcells := Cells.of hcl
            have HCL := Lib.hid hcells
            have hmb : m ≤ 1000000 := by omega
            have htl := tellJ B q q2 q3 m post gm g (o + k * 13) h Ab Ae cb ce b.len e.len wr hq hB hmb hcells hg hdok hbl.2.2 hel.2.2
            obtain ⟨xb, hxb⟩ : ∃ x, okF b L = x := ⟨_, rfl⟩
            obtain ⟨xe, hxe⟩ : ∃ x, okF e L = x := ⟨_, rfl⟩
            obtain ⟨nb, hnb⟩ : ∃ x, cnF b L = x := ⟨_, rfl⟩
            obtain ⟨ne, hne⟩ : ∃ x, cnF e L = x := ⟨_, rfl⟩
            obtain ⟨gb, hgb⟩ : ∃ x, gdF post b L = x := ⟨_, rfl⟩
            obtain ⟨ge, hge⟩ : ∃ x, gdF post e L = x := ⟨_, rfl⟩
            obtain ⟨gh, hgh⟩ : ∃ x, rtH post h b.len e.len = x := ⟨_, rfl⟩
            rw [hgb, hge, hgh, HLL.out] at hgn
            rw [hgh] at htl
            rw [hxb, hxe, HLL.out] at hok
            rw [hnb, hne, HLL.out] at hcn
            have hbr : ∀ W, RdS B W Ab b → Jd q q2 q3 post (m + 1) (gm && gh) W → B ≤ W.heap.size → Calls Try.prog 39 #[.slice Ab b.len cb, .int .i64 L, .func (.func 40) #[] #[.pointer (some ⟨q, 0, none⟩), .pointer (some ⟨q2, 0, none⟩), .pointer (some ⟨q3, 0, none⟩)]] W (DoneJ B q q2 q3 post (m + 1 + nb) ((gm && gh) && gb) xb W) := fun W h1 h2 h3 => by
              have := IH.out b (by omega) B q q2 q3 post (m + 1) (gm && gh) cb L Ab W h1 h2 hB h3 (by omega) hbl.1 hbl.2.2 (by omega)
              rwa [hxb, hnb, hgb] at this
            have her : ∀ W, RdS B W Ae e → Jd q q2 q3 post (m + 1 + nb) ((gm && gh) && gb) W → B ≤ W.heap.size → Calls Try.prog 39 #[.slice Ae e.len ce, .int .i64 L, .func (.func 40) #[] #[.pointer (some ⟨q, 0, none⟩), .pointer (some ⟨q2, 0, none⟩), .pointer (some ⟨q3, 0, none⟩)]] W (DoneJ B q q2 q3 post (m + 1 + nb + ne) (((gm && gh) && gb) && ge) xe W) := fun W h1 h2 h3 => by
              have := IH.out e (by omega) B q q2 q3 post (m + 1 + nb) ((gm && gh) && gb) ce L Ae W h1 h2 hB h3 (by omega) hel.1 hel.2.2 (by omega)
              rwa [hxe, hne, hge] at this
            have hBR := Lib.hid hbr
            have hER := Lib.hid her
            have HTL := Lib.hid htl
            have HRS := Lib.hid hrest
            have HB := Lib.hid (show RdS B wr Ab b from hb)
            have HE := Lib.hid (show RdS B wr Ae e from he)
            have HOK := Lib.hid hok
            have HCN := Lib.hid hcn
            have HGN := Lib.hid hgn
            have HLW := Lib.hid hlow
            have hB2 : B ≤ wr.heap.size := by omega
            generalize hbn : b.len = bn at *
            generalize hen : e.len = en at *
            clear hbr her htl hrest hb he hok hcn hgn hlow hcl hcells hq hxb hxe hnb hne hbn hen hgb hge hgh HST
            have hend : ∀ (W : World) (dn' : Bool), Below B wr W → Jd q q2 q3 post (m + 1 + nb + ne) (((gm && gh) && gb) && ge) W → dn' = (xe && (xb && dn)) → AtJ B q q2 q3 post g o f LL n gd w (.bool dn') (.int .i64 ((k : Int) + 1)) W := fun W dn' h1 h2 h3 =>
              ⟨⟨k + 1, r, dn', m + 1 + nb + ne, ((gm && gh) && gb) && ge, by have := HLN.out; omega, by go_num, rfl, by have := HRS.out.below h1; rwa [show o + k * 13 + 13 = o + (k + 1) * 13 by omega] at this, by omega, by rw [HOK.out, h3]; cases xe <;> cases xb <;> cases dn <;> simp, by have := HCN.out; omega, by rw [HGN.out]; simp [Bool.and_assoc], h2⟩, HLW.out.trans h1⟩
            have HEND := Lib.hid hend
            clear hend
            cases dn <;> cases xb <;> cases xe
            all_goals
              go_wp2_with fail
              refine (HTL.out).mono ?_
              rintro e1 w1 ⟨rfl, hq1, hb1⟩
              have d10 := (HCL.out.below hb1 hg).c10
              have hs1 := hb1.size
              have H1 := Lib.hid hb1
              have Q1 := Lib.hid hq1
              clear hb1 hq1
              go_wp2_with fail
              rw [HLI.out]
              refine (hBR.out _ (HB.out.below H1.out) Q1.out (by omega)).mono ?_
              rintro e2 w2 ⟨rfl, hq2, hb2⟩
              have d11 := ((HCL.out.below H1.out hg).below hb2 hg).c11
              have hs2 := hb2.size
              have H2 := Lib.hid (H1.out.trans hb2)
              have Q2 := Lib.hid hq2
              clear hb2 hq2 d10
              go_wp2_with fail
              rw [HLI.out]
              refine (hER.out _ (HE.out.below H2.out) Q2.out (by omega)).mono ?_
              rintro e3 w3 ⟨rfl, hq3, hb3⟩
              have H3 := Lib.hid (H2.out.trans hb3)
              have Q3 := Lib.hid hq3
              clear hb3 hq3 d11
              go_wp2_with fail
              exact ⟨HEND.out _ _ H3.out Q3.out rfl, by simp [intOf]; omega⟩
end Go.Proofs.Ytebmgladdgmmeaa
