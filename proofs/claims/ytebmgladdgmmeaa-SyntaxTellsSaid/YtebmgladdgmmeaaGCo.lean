/- CopyStmts: the walk. Condition: at most a hundred thousand statements. -/
import Derived.Test.YtebmgladdgmmeaaGCp
namespace Go.Proofs.Ytebmgladdgmmeaa
open Go.RowKit Go.WideShapes
set_option linter.unusedVariables false
set_option linter.unusedSimpArgs false
theorem tStmts : SlS Try.prog 22 35 (.agg #[.int .u8 0, .int .u8 0, .int .i64 0, .int .i64 0, .int .i64 0, .bool false, .int .u8 0, .int .i64 0, .int .i64 0, .int .i64 0, .slice none 0 0, .slice none 0 0, .int .i64 0]) 13 136 := ⟨Try.underlying22, by kernel_rfl, rfl, by decide⟩
def NewP (w0 w : World) (g : Nat) : Prop := w0.heap.size ≤ g ∧ g < w.heap.size
structure IsCopy (f : Fo) (w0 : World) (e : Ending) (w : World) : Prop where
  ex : ∃ A c, e = .returned (.slice A f.len c) ∧ (f.len ≤ c ∧ c ≤ maxLen ∧ f.len ≤ lenMost) ∧ RpS (NewP w0 w) w A f
  low : Below w0.heap.size w0 w
def OutP (w0 w : World) (v : Value) (g : Nat) : Prop := w0.heap.size ≤ g ∧ g < w.heap.size ∧ v.ownBlock ≠ some g
/-- Where the loop stands. -/
structure AtC (B g o : Nat) (f : Fo) (w0 : World) (v i : Value) (w : World) : Prop where
  ex : ∃ (k : Nat) (p r : Fo) (xs : List Value), p.app r = f ∧ p.len = k ∧ i = .int .i64 k ∧ RdF B w r g (o + k * 13) ∧ r.tot ≤ f.tot ∧ w.ownsRow w0.heap.size 35 13 v k xs ∧ RowF (OutP w0 w v) w p xs
  low : Below w0.heap.size w0 w
theorem own_max {w : World} {base n : Nat} {e : TypeId} {size c : Nat} {A : Option Addr} {xs : List Value} (h : w.ownsRow base e size (.slice A n c) n xs) : n ≤ c ∧ c ≤ maxLen := by
  rcases h.2 with ⟨h0, hn⟩ | ⟨g, cap, cur, hv, _, _, hc, hm, _⟩
  · injection h0 with _ h1 h2
    subst h2
    exact ⟨by omega, by simp [maxLen]⟩
  · injection hv with _ _ h2
    subst h2
    exact ⟨hc, hm⟩
theorem AtC.done {B g o : Nat} {f p : Fo} {w0 w : World} {v : Value} {xs : List Value} (hown : w.ownsRow w0.heap.size 35 13 v f.len xs) (hrow : RowF (OutP w0 w v) w f xs) (hlow : Below w0.heap.size w0 w) (hl : f.len ≤ lenMost) : IsCopy f w0 (.returned v) w := by
  have hv : ∃ A c, v = .slice A f.len c := by
    rcases hown.2 with ⟨rfl, h0⟩ | ⟨g, cap, cur, rfl, _⟩
    · exact ⟨none, 0, by rw [h0]⟩
    · exact ⟨_, _, rfl⟩
  obtain ⟨A, c, rfl⟩ := hv
  have hm := own_max hown
  refine ⟨⟨A, c, rfl, ⟨hm.1, hm.2, hl⟩, fun hn => ?_⟩, hlow⟩
  obtain ⟨b, off, rfl, hlt, hc⟩ := rd_own hown (by have := hown.1; omega)
  have hge : w0.heap.size ≤ b := own_ge hown b rfl
  exact ⟨b, off, rfl, RowF.rd (Q := NewP w0 w) ⟨hge, hlt⟩ (fun k hk => ⟨hk.1, hk.2.1⟩) (fun k hk => hk.2.1) f xs off hrow fun j u hu => hc j u hu⟩
theorem AtC.step {B g o k : Nat} {f p r b e : Fo} {h : Hd} {w0 w w1 w2 : World} {v v2 : Value} {xs : List Value} {Ab Ae : Option Addr} {cb ce : Nat} {us : Array Value}
    (hpr : p.app (.cons h b e r) = f) (hpl : p.len = k) (hrd : RdF B w r g (o + k * 13 + 13)) (hrt : r.tot ≤ f.tot) (hrow : RowF (OutP w0 w v) w p xs) (hlow : Below w0.heap.size w0 w) (hok : h.ok)
    (hB : B ≤ w0.heap.size) (hw1 : Below w.heap.size w w1) (hvlt : ∀ x, v.ownBlock = some x → w0.heap.size ≤ x ∧ x < w.heap.size)
    (hb : RpS (NewP w w1) w1 Ab b) (he : RpS (NewP w w1) w1 Ae e) (hbl : b.len ≤ cb ∧ cb ≤ maxLen ∧ b.len ≤ lenMost) (hel : e.len ≤ ce ∧ ce ≤ maxLen ∧ e.len ≤ lenMost)
    (hus : us.toList = h.cells (.slice Ab b.len cb) (.slice Ae e.len ce)) (hown : w2.ownsRow w0.heap.size 35 13 v2 (k + 1) (xs ++ us.toList)) (hg : (w1.alloc (.cells us 35)).grownBy w2 v.ownBlock) (hv : v2.ownBlock = v.ownBlock ∨ v2.ownBlock = some (w1.heap.size + 1)) :
    AtC B g o f w0 v2 (.int .i64 ((k : Int) + 1)) w2 := by
  have hs1 := hw1.size
  have hs0 := hlow.size
  have hf1 : Frm (fun _ => False) w w1 := Frm.mono (Frm.of_below hw1) (fun k hk hs => by first | exact hs | omega)
  have hga : Frm (fun x => v.ownBlock = some x) (w1.alloc (.cells us 35)) w2 := Frm.of_grown hg (fun x hx => hx)
  have hf2 : Frm (fun x => v.ownBlock = some x) w1 w2 := ((Frm.refl _ w1).alloc (.cells us 35)).trans hga (fun x _ hx => hx)
  have hs2 := hga.size
  simp only [World.size_alloc] at hs2
  have hb2 : Below w0.heap.size w1 w2 := hf2.to_below (by omega) (fun x hx => (hvlt x hx).1)
  refine ⟨⟨k + 1, p.app (.cons h b e .nil), r, xs ++ us.toList, by rw [Fo.app_assoc]; exact hpr, by rw [Fo.app_len, hpl]; rfl, by go_num, ?_, hrt, hown, ?_⟩, (hlow.trans (hw1.mono (by omega))).trans hb2⟩
  · have := (hrd.below (hw1.mono (show B ≤ w.heap.size by omega))).below (hb2.mono hB)
    rwa [show o + k * 13 + 13 = o + (k + 1) * 13 by omega] at this
  · have r1 : RowF (fun x => w0.heap.size ≤ x ∧ x < w1.heap.size ∧ v.ownBlock ≠ some x) w1 p xs := hrow.frm hf1 (fun x hx => ⟨hx.2.1, fun h => h⟩) (fun x hx => ⟨hx.1, by have := hx.2.1; omega, hx.2.2⟩)
    have hnew : ∀ x, NewP w w1 x → w0.heap.size ≤ x ∧ x < w1.heap.size ∧ v.ownBlock ≠ some x := fun x hx => ⟨by have := hx.1; omega, hx.2, fun he => by have := (hvlt x he).2; have := hx.1; omega⟩
    have hb' := hb.frm (Q := fun x => w0.heap.size ≤ x ∧ x < w1.heap.size ∧ v.ownBlock ≠ some x) (Frm.refl (fun _ => False) w1) (fun x hx => ⟨hx.2, fun h => h⟩) hnew
    have he' := he.frm (Q := fun x => w0.heap.size ≤ x ∧ x < w1.heap.size ∧ v.ownBlock ≠ some x) (Frm.refl (fun _ => False) w1) (fun x hx => ⟨hx.2, fun h => h⟩) hnew
    have r2 := RowF.snoc hok hbl hel hb' he' p xs r1
    rw [← hus] at r2
    exact r2.frm hf2 (fun x hx => ⟨hx.2.1, hx.2.2⟩) (fun x hx => ⟨hx.1, by have := hx.2.1; omega, fun hx2 => by
      rcases hv with h2 | h2
      · exact hx.2.2 (h2 ▸ hx2)
      · rw [h2] at hx2
        have := Option.some.inj hx2
        have := hx.2.1
        omega⟩)
theorem kept3 {wr w1 w2 W3 : World} {o : Obj} {A3 A4 : Option Addr} {b e : Fo} (hb3 : Below (wr.alloc o).drew.heap.size (wr.alloc o).drew w1) (hr3 : RpS (NewP (wr.alloc o).drew w1) w1 A3 b) (hb4 : Below w1.heap.size w1 w2) (hr4 : RpS (NewP w1 w2) w2 A4 e) (hf : Frm (fun k => k = wr.heap.size) w2 W3) :
    RpS (NewP wr W3) W3 A3 b ∧ RpS (NewP wr W3) W3 A4 e ∧ Below wr.heap.size wr W3 := by
  have s1 : wr.heap.size + 1 = (wr.alloc o).drew.heap.size := by simp
  have s3 := hb3.size
  have s4 := hb4.size
  have s5 := hf.size
  have f4 : Frm (fun k => k = wr.heap.size) w1 w2 := Frm.of_below hb4
  have f5 : Frm (fun k => k = wr.heap.size) w1 W3 := f4.trans hf (fun k _ h => h)
  refine ⟨hr3.frm f5 (fun x hx => ⟨hx.2, fun h => by have := hx.1; omega⟩) (fun x hx => ⟨by have := hx.1; omega, by have := hx.2; omega⟩), hr4.frm hf (fun x hx => ⟨hx.2, fun h => by have := hx.1; omega⟩) (fun x hx => ⟨by have := hx.1; omega, by have := hx.2; omega⟩), ?_⟩
  exact ((((Below.refl wr.heap.size wr).alloc (Nat.le_refl _) o).drew.trans (hb3.mono (by omega))).trans (hb4.mono (by omega))).trans (hf.to_below (by omega) (fun k hk => by omega))
def CpN (N : Nat) : Prop := ∀ (f : Fo), f.tot ≤ N → ∀ (B c : Nat) (A : Option Addr) (w : World), RdS B w A f → B ≤ w.heap.size → f.len ≤ c → f.tot ≤ 100000 → Calls Try.prog 14 #[.slice A f.len c] w (IsCopy f w)
set_option maxRecDepth 100000 in
set_option maxHeartbeats 8000000 in
theorem copyN : ∀ N, CpN N := by
  intro N
  induction N with
  | zero =>
    intro f hf B c A w hr hB hc ht
    have hfl := f.len_tot
    obtain rfl : f = .nil := Fo.nil_of (by omega)
    clear hr
    go_enter Try.func14, Try.ntmps14
    go_wp2_with fail
    go_loopw [3, 4] (fun v i wr => wr = w ∧ i = .int .i64 0 ∧ v = .slice none 0 0) (fun _ _ _ => 0)
    case atStart => exact ⟨rfl, rfl, rfl⟩
    case round =>
      obtain ⟨rfl, rfl, rfl⟩ := hrel
      go_wp2_with fail
      go_ret
      exact ⟨⟨none, 0, rfl, ⟨Nat.le_refl _, by simp [maxLen], by simp [Fo.len, lenMost]⟩, fun h => absurd h (by simp [Fo.len])⟩, Below.refl _ _⟩
  | succ N ih =>
    have IH := Lib.hid ih
    clear ih
    intro f hf B c A w hr hB hc ht
    have hg : ∃ g o, (0 < f.len → A = some ⟨g, o, none⟩) ∧ RdF B w f g o := by
      rcases Nat.eq_zero_or_pos f.len with h0 | h0
      · obtain rfl := Fo.nil_of h0
        exact ⟨0, 0, fun h => absurd h (by simp [Fo.len]), trivial⟩
      · obtain ⟨g, o, e, h⟩ := hr h0
        exact ⟨g, o, fun _ => e, h⟩
    obtain ⟨g, o, hA, hrd⟩ := hg
    have hfl := f.len_tot
    have hst : AtC B g o f w (.slice none 0 0) (.int .i64 0) w := ⟨⟨0, .nil, f, [], rfl, rfl, rfl, by simpa using hrd, Nat.le_refl _, ⟨rfl, .inl ⟨rfl, rfl⟩⟩, rfl⟩, Below.refl _ _⟩
    have HST := Lib.hid hst
    have HA := Lib.hid hA
    clear hst hrd hr hA
    obtain ⟨len, hlen⟩ : ∃ len, f.len = len := ⟨_, rfl⟩
    rw [hlen] at hc hfl ⊢
    have HLN := Lib.hid hlen
    clear hlen
    go_enter Try.func14, Try.ntmps14
    go_wp2_with fail
    go_loopw [3, 4] (fun v i wr => AtC B g o f w v i wr) (fun _ i _ => len - (intOf i).toNat)
    case atStart => exact HST.out
    case round =>
      obtain ⟨⟨k, p, r, xs, hpr, hpl, rfl, hrd, htot, hown, hrow⟩, hlow⟩ := hrel
      have hlw := hlow.size
      have hlen2 : k + r.len = len := by rw [← HLN.out, ← hpr, Fo.app_len, hpl]
      rcases r with _ | ⟨h, b, e, r⟩
      · have hkl : k = len := by simpa [Fo.len] using hlen2
        subst hkl
        rw [Fo.app_nil] at hpr
        subst hpr
        rw [← HLN.out] at hown
        have hfin := AtC.done (B := B) (g := g) (o := o) (p := p) hown hrow hlow (by unfold lenMost; rw [HLN.out]; omega)
        have HFN := Lib.hid hfin
        have g3 : decide (k < k) = false := by simp
        clear hfin hown hrow hlow hrd htot hlen2 HST
        go_wp2_with fail
        go_ret
        exact HFN.out
      · obtain ⟨hdok, hg, ⟨Ab, cb, Ae, ce, hcl, hbl, hel, hb, he⟩, hrest⟩ := hrd
        simp only [Fo.len] at hlen2
        simp only [Fo.tot] at htot
        have hkl : k < len := by omega
        have hkI : (k : Int) < (len : Int) := by omega
        have hk0 : (0 : Int) ≤ (k : Int) := by omega
        have g3 : decide (k < len) = true := by simpa using hkl
        have hcells := Cells.of hcl
        obtain ⟨c0, c1, c2, c3, c4, c5, c6, c7, c8, c9, c10, c11, c12⟩ := hcells
        have hA := HA.out (by rw [HLN.out]; omega)
        subst hA
        have hvs : ∃ A2 c2, u3 = .slice A2 k c2 := by
          rcases hown.2 with ⟨h1, h0⟩ | ⟨g', cap, cur, h1, _⟩
          · exact ⟨none, 0, by rw [h1, h0]⟩
          · exact ⟨_, _, h1⟩
        obtain ⟨A2, c2', rfl⟩ := hvs
        have hvl : ∀ x, (Value.slice A2 k c2').ownBlock = some x → w.heap.size ≤ x ∧ x < wr.heap.size := fun x hx => ⟨own_ge hown x hx, by
          rcases hown.2 with ⟨h1, h0⟩ | ⟨g', cap, cur, h1, _, hgg, _⟩
          · rw [h1] at hx; simp [Value.ownBlock] at hx
          · rw [h1] at hx
            simp [Value.ownBlock] at hx
            subst hx
            exact (Array.getElem?_eq_some_iff.1 hgg).1⟩
        have hbt := b.len_tot
        have het := e.len_tot
        have hbr : ∀ W, Below wr.heap.size wr W → Calls Try.prog 14 #[.slice Ab b.len cb] W (IsCopy b W) := fun W hW =>
          IH.out b (by omega) B cb Ab W ((show RdS B wr Ab b from hb).below (hW.mono (by omega))) (by have := hW.size; omega) hbl.1 (by omega)
        have her : ∀ W, Below wr.heap.size wr W → Calls Try.prog 14 #[.slice Ae e.len ce] W (IsCopy e W) := fun W hW =>
          IH.out e (by omega) B ce Ae W ((show RdS B wr Ae e from he).below (hW.mono (by omega))) (by have := hW.size; omega) hel.1 (by omega)
        have hstep := fun (w1 w2 : World) (v2 : Value) (Ab' Ae' : Option Addr) (cb' ce' : Nat) (us : Array Value) (hw1 : Below wr.heap.size wr w1) (h1 : RpS (NewP wr w1) w1 Ab' b) (h2 : RpS (NewP wr w1) w1 Ae' e) (h3 : b.len ≤ cb' ∧ cb' ≤ maxLen ∧ b.len ≤ lenMost) (h4 : e.len ≤ ce' ∧ ce' ≤ maxLen ∧ e.len ≤ lenMost) (h5 : us.toList = h.cells (.slice Ab' b.len cb') (.slice Ae' e.len ce')) h6 h7 h8 =>
          AtC.step (w2 := w2) (v2 := v2) (us := us) hpr hpl hrest (by omega) hrow hlow hdok hB hw1 hvl h1 h2 h3 h4 h5 h6 h7 h8
        have HSTEP := Lib.hid hstep
        have HBR := Lib.hid hbr
        have HER := Lib.hid her
        have HOWN := Lib.hid hown
        have HLW := Lib.hid hlow
        obtain ⟨kd, ⟨io, id_, is_, in_⟩, nt, ⟨co, cd, cs, cn⟩, ln⟩ := h
        simp only at *
        have hbx := Blk.new wr 35 #[.int .u8 kd, .int .u8 io, .int .i64 id_, .int .i64 is_, .int .i64 in_, .bool nt, .int .u8 co, .int .i64 cd, .int .i64 cs, .int .i64 cn, .slice Ab b.len cb, .slice Ae e.len ce, .int .i64 ln]
        have HBX := Lib.hid hbx
        have x10 := hbx.cell 10
        have x11 := hbx.cell 11
        simp at x10 x11
        clear hstep hbr her hown hlow hrow hrest hb he hcl hbx HST hpr hdok
        go_wp2_with fail
        go_region_with (first
          | (go_at_call 14; ((with_reducible refine (HBR.out _ (((Below.refl _ _).alloc (Nat.le_refl _) _).drew)).mono ?_)); rintro e1 w1 ⟨⟨A3, c3', rfl, hm3, hr3⟩, hb3⟩; have y11 := (HBX.out.drew.below hb3).cell 11; simp at y11; have K1 := Lib.hid ((((Below.refl wr.heap.size wr).alloc (Nat.le_refl _) _).drew).trans (hb3.mono (by simp))); have HB3 := Lib.hid hb3; clear hb3)
          | (go_at_call 14; ((with_reducible refine (HER.out _ K1.out).mono ?_)); rintro e2 w2 ⟨⟨A4, c4', rfl, hm4, hr4⟩, hb4⟩; have BX2 := (HBX.out.drew.below HB3.out).below hb4; have z10 := BX2.cell 10; have z11 := BX2.cell 11; have f10 := BX2.frozen 10; have f11 := BX2.frozen 11; simp at z10 z11; have HB4 := Lib.hid hb4; have HBX2 := Lib.hid BX2; clear hb4 BX2))
        all_goals
          have z0 := HBX2.out.cell 0
          have z1 := HBX2.out.cell 1
          have z2 := HBX2.out.cell 2
          have z3 := HBX2.out.cell 3
          have z4 := HBX2.out.cell 4
          have z5 := HBX2.out.cell 5
          have z6 := HBX2.out.cell 6
          have z7 := HBX2.out.cell 7
          have z8 := HBX2.out.cell 8
          have z9 := HBX2.out.cell 9
          have z12 := HBX2.out.cell 12
          simp at z0 z1 z2 z3 z4 z5 z6 z7 z8 z9 z12
          have HR3 := Lib.hid hr3
          have HR4 := Lib.hid hr4
          have hk1 := kept3 HB3.out hr3 HB4.out hr4 (W3 := (w2.setCell ⟨wr.heap.size, 10, none⟩ (.slice A3 b.len c3')).setCell ⟨wr.heap.size, 11, none⟩ (.slice A4 e.len c4')) (((Frm.refl (fun k => k = wr.heap.size) w2).setCell (fun _ => rfl) _).setCell (fun _ => rfl) _)
          have HK1 := Lib.hid hk1
          have o1 := Lib.hid (own_below HOWN.out hk1.2.2)
          have b1 := Lib.hid (HLW.out.trans (hk1.2.2.mono hlw)).size
          clear hk1 hr3 hr4
          have hone : ∀ u ∈ (#[.int .u8 kd, .int .u8 io, .int .i64 id_, .int .i64 is_, .int .i64 in_, .bool nt, .int .u8 co, .int .i64 cd, .int .i64 cs, .int .i64 cn, .slice A3 b.len c3', .slice A4 e.len c4', .int .i64 ln] : Array Value).toList, u.oneCell' = true := by
            intro u hu
            simp at hu
            rcases hu with rfl | rfl | rfl | rfl | rfl | rfl | rfl | rfl | rfl | rfl | rfl | rfl | rfl <;> rfl
          have HONE := Lib.hid hone
          clear hone
          have hsz1 : ((w2.setCell ⟨wr.heap.size, 10, none⟩ (.slice A3 b.len c3')).setCell ⟨wr.heap.size, 11, none⟩ (.slice A4 e.len c4')).heap.size = w2.heap.size := by simp [World.setCell]
          have HSZ1 := Lib.hid hsz1
          clear hsz1
          go_wp2_with (at_builtin; refine wpList_appG tStmts rfl (.tmp 24) (.tmp 26) rfl w.heap.size _ k _ rfl o1.out #[.int .u8 kd, .int .u8 io, .int .i64 id_, .int .i64 is_, .int .i64 in_, .bool nt, .int .u8 co, .int .i64 cd, .int .i64 cs, .int .i64 cn, .slice A3 b.len c3', .slice A4 e.len c4', .int .i64 ln] rfl HONE.out w2.heap.size rfl HSZ1.out.symm (by omega) (by unfold maxLen; omega) b1.out ?_; intro v2 w4 hown4 hg4 hv4; have hend := HSTEP.out _ w4 v2 A3 A4 c3' c4' _ HK1.out.2.2 HK1.out.1 HK1.out.2.1 hm3 hm4 rfl hown4 hg4 hv4; have HEND := Lib.hid hend; clear hend hown4 hg4 hv4)
        all_goals
          refine ⟨HEND.out, ?_⟩
          simp [intOf]
          omega
/-- CopyStmts. -/
theorem copy_any {f : Fo} {B c : Nat} {A : Option Addr} {w : World} (hr : RdS B w A f) (hB : B ≤ w.heap.size) (hc : f.len ≤ c) (ht : f.tot ≤ 100000) : Calls Try.prog 14 #[.slice A f.len c] w (IsCopy f w) :=
  copyN f.tot f (Nat.le_refl _) B c A w hr hB hc ht
end Go.Proofs.Ytebmgladdgmmeaa
