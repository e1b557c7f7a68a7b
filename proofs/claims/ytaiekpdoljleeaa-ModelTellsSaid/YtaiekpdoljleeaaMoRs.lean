/- The model that bytes say, as the reference reads it: the walk. -/
import Derived.Test.YtaiekpdoljleeaaMoRt
import Derived.Test.YtaiekpdoljleeaaMoRr
import Derived.BigRegion
namespace Go.Proofs.Ytaiekpdoljleeaa
open Go.RowKit Go.WideShapes
set_option linter.unusedVariables false
set_option linter.unusedSimpArgs false
/-- What is kept: the result's box g, the model's box gm, its parts v, programs vc, vp. -/
structure GR (g gm : Nat) (bs : List Int) (A : Option Addr) (x0 x1 x2 x3 : Int) (w0 : World) (v vc vp : Value) (acc : List Pt) (w : World) : Prop where
  mb : Blk w gm 58 (mdC x0 x1 x2 x3 v vc vp)
  own : w.ownsRow g 32 7 v acc.length (flat_pts acc)
  low : Below g w0 w
  res : Blk w g 58 (mdC 0 0 0 0 (.slice none 0 0) (.slice none 0 0) (.slice none 0 0))
  rd : Rd w A (octs bs)
section
variable {g gm q k : Nat} {bs : List Int} {A : Option Addr} {x0 x1 x2 x3 : Int} {w0 w w' : World} {v v' vc vp : Value} {acc : List Pt}
theorem GR.below (h : GR g gm bs A x0 x1 x2 x3 w0 v vc vp acc w) (hb : Below w.heap.size w w') : GR g gm bs A x0 x1 x2 x3 w0 v vc vp acc w' := by
  have hg := h.res.lt
  exact ⟨h.mb.below hb, own_below h.own hb, h.low.trans (hb.mono (by omega)), h.res.below hb, h.rd.below hb rfl⟩
theorem GR.alloc (h : GR g gm bs A x0 x1 x2 x3 w0 v vc vp acc w) (o : Obj) : GR g gm bs A x0 x1 x2 x3 w0 v vc vp acc (w.alloc o) := h.below ((Below.refl _ _).alloc (Nat.le_refl _) o)
theorem GR.drew (h : GR g gm bs A x0 x1 x2 x3 w0 v vc vp acc w) : GR g gm bs A x0 x1 x2 x3 w0 v vc vp acc w.drew := h.below (Below.drew' (Below.refl _ _))
theorem GR.drewN (h : GR g gm bs A x0 x1 x2 x3 w0 v vc vp acc w) (n : Nat) : GR g gm bs A x0 x1 x2 x3 w0 v vc vp acc (w.drewN n) := h.below (below_drewN (Below.refl _ _) n)
theorem GR.far (h : GR g gm bs A x0 x1 x2 x3 w0 v vc vp acc w) (hA : 0 < bs.length → ∀ q, A = some q → q.block < g) (hq : g < q) (hqm : q ≠ gm) (hv : v.ownBlock ≠ some q) (hf : Frm (fun k => k = q) w w') : GR g gm bs A x0 x1 x2 x3 w0 v vc vp acc w' := by
  have hg := h.res.lt
  exact ⟨h.mb.frm hf (fun e => hqm e.symm), hf.own h.own (fun k hk e => hv (by rw [hk, e])), h.low.trans (hf.to_below (by omega) (fun k hk => by omega)), h.res.frm hf (by omega), rd_far h.rd hA hf (fun k hk e => by omega)⟩
theorem GR.put (h : GR g gm bs A x0 x1 x2 x3 w0 v vc vp acc w) (hgm : g < gm) (hA : 0 < bs.length → ∀ q, A = some q → q.block < g) (j : Nat) (u vc' vp' : Value) (he : (mdC x0 x1 x2 x3 v vc vp).setIfInBounds j u = mdC x0 x1 x2 x3 v vc' vp') : GR g gm bs A x0 x1 x2 x3 w0 v vc' vp' acc (w.setCell ⟨gm, j, none⟩ u) := by
  have hg := h.res.lt
  have hf : Frm (fun k => k = gm) w (w.setCell ⟨gm, j, none⟩ u) := Frm.setCell (S := fun k => k = gm) (p := ⟨gm, j, none⟩) (Frm.refl _ _) (fun _ => rfl) _
  exact ⟨by rw [← he]; exact h.mb.set j u, hf.own h.own (fun k hk e => h.mb.apart h.own (by decide) _ hk e), h.low.trans (hf.to_below (by omega) (fun k hk => by omega)), h.res.frm hf (by omega), rd_far h.rd hA hf (fun k hk e => by omega)⟩
theorem GR.grow {t : Pt} (h : GR g gm bs A x0 x1 x2 x3 w0 v vc vp acc w) (hgm : g < gm) (hA : 0 < bs.length → ∀ q, A = some q → q.block < g) (hg : w.grownBy w' v.ownBlock) (ho : w'.ownsRow g 32 7 v' (acc.length + 1) (flat_pts acc ++ t.cells)) (hb : Below g w w') : GR g gm bs A x0 x1 x2 x3 w0 v' vc vp (acc ++ [t]) (w'.setCell ⟨gm, 4, none⟩ v') := by
  have hs := h.res.lt
  have hf1 : Frm (fun k => v.ownBlock = some k) w w' := Frm.of_grown hg (fun k hk => hk)
  have hf2 : Frm (fun k => k = gm) w' (w'.setCell ⟨gm, 4, none⟩ v') := Frm.setCell (S := fun k => k = gm) (p := ⟨gm, 4, none⟩) (Frm.refl _ _) (fun _ => rfl) _
  have hm : Blk w' gm 58 (mdC x0 x1 x2 x3 v vc vp) := h.mb.grown h.own (by decide) hg
  have hs2 := hb.size
  refine ⟨by simpa [mdC] using hm.set 4 v', ?_, (h.low.trans hb).trans (hf2.to_below (by omega) (fun k hk => by omega)), (h.res.grown h.own (by decide) hg).frm hf2 (by omega), rd_far (rd_far h.rd hA hf1 (fun k hk e => by have := own_ge h.own k e; omega)) hA hf2 (fun k hk e => by omega)⟩
  have e1 : flat_pts (acc ++ [t]) = flat_pts acc ++ t.cells := flat_pts_snoc acc t
  rw [e1, List.length_append]
  exact hf2.own ho fun k hk e => hm.apart ho (by decide) _ hk e
end
theorem p_five {g : Nat} {w : World} {k z1 z2 z3 z4 z5 z6 : Value} (h : Blk w g 32 #[k, z1, z2, z3, z4, z5, z6]) (s a b r l : Value) : Blk (((((w.setCell ⟨g, 1, none⟩ s).setCell ⟨g, 2, none⟩ a).setCell ⟨g, 3, none⟩ b).setCell ⟨g, 5, none⟩ r).setCell ⟨g, 6, none⟩ l) g 32 #[k, s, a, b, z4, r, l] ∧ Frm (fun q => q = g) w (((((w.setCell ⟨g, 1, none⟩ s).setCell ⟨g, 2, none⟩ a).setCell ⟨g, 3, none⟩ b).setCell ⟨g, 5, none⟩ r).setCell ⟨g, 6, none⟩ l) :=
  ⟨((((h.set 1 s).set 2 a).set 3 b).set 5 r).set 6 l, (((((Frm.refl (fun q => q = g) w).setCell (p := ⟨g, 1, none⟩) (fun _ => rfl) s).setCell (p := ⟨g, 2, none⟩) (fun _ => rfl) a).setCell (p := ⟨g, 3, none⟩) (fun _ => rfl) b).setCell (p := ⟨g, 5, none⟩) (fun _ => rfl) r).setCell (p := ⟨g, 6, none⟩) (fun _ => rfl) l⟩
theorem valF_range {bs : List Int} (h : Oct bs) (a j : Nat) : 0 ≤ valF bs a j ∧ valF bs a j ≤ 65535 := by
  have h1 := h.getD a
  have h2 := h.getD (a + 1)
  unfold valF
  cases wide j
  · simp only [Bool.false_eq_true, if_false]; omega
  · simp only [if_true]; omega
theorem vset_set (A : Array Value) (u : Nat) (x y : Value) : (A.setIfInBounds u x).setIfInBounds u y = A.setIfInBounds u y := by simp
def TailP (bs : List Int) (a p a1 : Nat) (vc vp : Value) (B : Nat) (w : World) : Prop :=
  (p = 0 ∧ a1 = a ∧ vc = .slice none 0 0 ∧ vp = .slice none 0 0) ∨
  (p = 1 ∧ vp = .slice none 0 0 ∧ ∃ C : List Int, codeG (some (bs.drop a)) = (some (bs.drop a1), C) ∧ C.length ≤ 65535 ∧ w.ownsRow B 5 1 vc C.length (octs C)) ∨
  (p = 2 ∧ ∃ (C D : List Int) (a' : Nat), codeG (some (bs.drop a)) = (some (bs.drop a'), C) ∧ codeG (some (bs.drop a')) = (some (bs.drop a1), D) ∧ C.length ≤ 65535 ∧ D.length ≤ 65535 ∧ w.ownsRow B 5 1 vc C.length (octs C) ∧ w.ownsRow B 5 1 vp D.length (octs D))
theorem app_below {wr w7 : World} (o : Obj) (hg : ((wr.alloc o).drew).grownBy w7 (Value.slice (some ⟨wr.heap.size, 0, none⟩) 0 0).ownBlock) : Below wr.heap.size wr w7 :=
  (Below.drew' ((Below.refl _ _).alloc (Nat.le_refl _) o)).trans ((Frm.of_grown (S := fun k => k = wr.heap.size) hg (fun k hk => by simp [Value.ownBlock] at hk; exact hk.symm)).to_below (by simp) (fun k hk => by omega))
theorem own_lit {w : World} {g : Nat} (h : g = w.heap.size) {B : Nat} (hB : B ≤ g) : (w.alloc (.cells #[] 5)).ownsRow B 5 1 (.slice (some ⟨g, 0, none⟩) 0 0) 0 [] := by
  subst h
  exact own_of_blk (C := []) (Blk.new w 5 #[]) hB (by simp)
theorem byte_at {w : World} {b0 off0 : Nat} {bs : List Int} (h : Rd w (some ⟨b0, off0, none⟩) (octs bs)) {a : Nat} (ha : a < bs.length) : w.cell? ⟨b0, off0 + a, none⟩ = some (.int .u8 (bs.getD a 0)) := by
  obtain ⟨b1, o1, e, _, hc⟩ := h.at (octs_at ha)
  injection e with e
  injection e with e1 e2
  subst e1 e2
  exact hc
theorem keep4 {w : World} {b0 off0 : Nat} {bs : List Int} {x0 x1 x2 x3 : Int} (h : Rd w (some ⟨b0, off0, none⟩) (octs bs)) (h5 : 5 ≤ bs.length) (h0 : bs.getD 0 0 = x0) (h1 : bs.getD 1 0 = x1) (h2 : bs.getD 2 0 = x2) (h3 : bs.getD 3 0 = x3) :
    w.cell? ⟨b0, off0, none⟩ = some (.int .u8 x0) ∧ w.cell? ⟨b0, off0 + 1, none⟩ = some (.int .u8 x1) ∧ w.cell? ⟨b0, off0 + 2, none⟩ = some (.int .u8 x2) ∧ w.cell? ⟨b0, off0 + 3, none⟩ = some (.int .u8 x3) := by
  subst h0 h1 h2 h3
  exact ⟨byte_at h (a := 0) (by omega), byte_at h (a := 1) (by omega), byte_at h (a := 2) (by omega), byte_at h (a := 3) (by omega)⟩
set_option maxRecDepth 100000 in
set_option maxHeartbeats 4000000 in
theorem get38_short (bs : List Int) (A : Option Addr) (n c : Nat) (w : World) (hn : n = bs.length) (h5 : n < 5) : Calls Try.prog 38 #[.slice A n c] w (IsModel (getM bs) w) := by
  rw [get_short5 bs (by omega)]
  have g1 : decide ((n : Int) < 5) = true := by simp; omega
  clear hn
  go_enter Try.func38, Try.ntmps38
  go_wp2_with fail
  exact bodyPost_ret (v := .tuple #[mdV 0 0 0 0 (.slice none 0 0) (.slice none 0 0) (.slice none 0 0), .int .i64 0, .int .i64 12]) (by simp [results, Try.results38, go_sem, mdV]) rfl (zero_model _ _ _ ((Below.refl _ _).alloc (Nat.le_refl _) _))
set_option maxRecDepth 100000 in
set_option maxHeartbeats 16000000 in
theorem get38_long (bs : List Int) (b0 off0 : Nat) (n c : Nat) (w : World) (hn : n = bs.length) (hnc : n ≤ c) (hr : Rd w (some ⟨b0, off0, none⟩) (octs bs)) (ho : Oct bs) (hm : n ≤ 1000000000) (hcm : c ≤ 9223372036854775807) (h5 : 5 ≤ n) (hb0 : b0 < w.heap.size) :
    Calls Try.prog 38 #[.slice (some ⟨b0, off0, none⟩) n c] w (IsModel (getM bs) w) := by
  have hA : 0 < bs.length → ∀ q, (some (⟨b0, off0, none⟩ : Addr)) = some q → q.block < w.heap.size := fun _ q hq => by
    obtain rfl := Option.some.inj hq
    exact hb0
  have hdef := get_head bs (by omega)
  have HAA := Lib.hid hA
  have HN := Lib.hid hn
  have HR := Lib.hid hr
  have HO := Lib.hid ho
  have y0 := ho.getD 0
  have y1 := ho.getD 1
  have y2 := ho.getD 2
  have y3 := ho.getD 3
  have y4 := ho.getD 4
  obtain ⟨R, hR⟩ : ∃ R, getM bs = R := ⟨_, rfl⟩
  rw [hR] at hdef ⊢
  obtain ⟨x0, hx0⟩ : ∃ x, bs.getD 0 0 = x := ⟨_, rfl⟩
  obtain ⟨x1, hx1⟩ : ∃ x, bs.getD 1 0 = x := ⟨_, rfl⟩
  obtain ⟨x2, hx2⟩ : ∃ x, bs.getD 2 0 = x := ⟨_, rfl⟩
  obtain ⟨x3, hx3⟩ : ∃ x, bs.getD 3 0 = x := ⟨_, rfl⟩
  rw [hx0] at y0 hdef
  have HX0 := Lib.hid hx0
  rw [hx1] at y1 hdef
  have HX1 := Lib.hid hx1
  rw [hx2] at y2 hdef
  have HX2 := Lib.hid hx2
  rw [hx3] at y3 hdef
  have HX3 := Lib.hid hx3
  obtain ⟨X4, hX4⟩ : ∃ X4 : Nat, bs.getD 4 0 = X4 := ⟨(bs.getD 4 0).toNat, by omega⟩
  rw [hX4] at y4 hdef
  simp only [Int.toNat_natCast] at hdef
  obtain ⟨PR, hPR⟩ : ∃ x, partsG X4 (some (bs.drop 5)) [] = x := ⟨_, rfl⟩
  rw [hPR] at hdef
  have HDEF := Lib.hid hdef
  have HPR := Lib.hid hPR
  have H5 := Lib.hid (show 5 ≤ bs.length by omega)
  have HX4 := Lib.hid hX4
  have v0 : IntKind.i64.wrap x0 = x0 := IntWalk.i64_in _ (by omega)
  have v1 : IntKind.i64.wrap x1 = x1 := IntWalk.i64_in _ (by omega)
  have v2 : IntKind.i64.wrap x2 = x2 := IntWalk.i64_in _ (by omega)
  have v3 : IntKind.i64.wrap x3 = x3 := IntWalk.i64_in _ (by omega)
  have g1 : decide ((n : Int) < 5) = false := by simp; omega
  have HRES := Lib.hid (Blk.new w 58 (mdC 0 0 0 0 (.slice none 0 0) (.slice none 0 0) (.slice none 0 0)))
  clear hA hdef hn hr ho hR hx0 hx1 hx2 hx3 hX4 hPR
  have i0 : 0 < n := by omega
  have k0 : (0 : Int) < (n : Int) := by omega
  have i1 : 1 < n := by omega
  have k1 : (1 : Int) < (n : Int) := by omega
  have i2 : 2 < n := by omega
  have k2 : (2 : Int) < (n : Int) := by omega
  have i3 : 3 < n := by omega
  have k3 : (3 : Int) < (n : Int) := by omega
  have i4 : 4 < n := by omega
  have k4 : (4 : Int) < (n : Int) := by omega
  go_enter Try.func38, Try.ntmps38
  go_wp2_with fail
  go_region_held3 (fun w' => w'.cell? ⟨b0, off0, none⟩ = some (.int .u8 x0) ∧ w'.cell? ⟨b0, off0 + 1, none⟩ = some (.int .u8 x1) ∧ w'.cell? ⟨b0, off0 + 2, none⟩ = some (.int .u8 x2) ∧ w'.cell? ⟨b0, off0 + 3, none⟩ = some (.int .u8 x3)) (first | exact keep4 (HR.out.alloc _).drew H5.out HX0.out HX1.out HX2.out HX3.out | exact keep4 ((HR.out.alloc _).alloc _).drew H5.out HX0.out HX1.out HX2.out HX3.out | exact keep4 ((HR.out.alloc _).drew.alloc _) H5.out HX0.out HX1.out HX2.out HX3.out) (fail)
  rename_i hHeld
  clear hHeld v0 v1 v2 v3
  have hgr0 : GR w.heap.size (w.heap.size + 1) bs (some ⟨b0, off0, none⟩) x0 x1 x2 x3 w (.slice none 0 0) (.slice none 0 0) (.slice none 0 0) [] ((w.alloc (.cells (mdC 0 0 0 0 (.slice none 0 0) (.slice none 0 0) (.slice none 0 0)) 58)).alloc (.cells (mdC x0 x1 x2 x3 (.slice none 0 0) (.slice none 0 0) (.slice none 0 0)) 58)).drew := by
    have hm := Blk.new (w.alloc (.cells (mdC 0 0 0 0 (.slice none 0 0) (.slice none 0 0) (.slice none 0 0)) 58)) 58 (mdC x0 x1 x2 x3 (.slice none 0 0) (.slice none 0 0) (.slice none 0 0))
    rw [World.size_alloc] at hm
    exact ⟨hm.drew, ⟨rfl, .inl ⟨rfl, rfl⟩⟩, Below.drew' (((Below.refl _ _).alloc (Nat.le_refl _) _).alloc (by simp) _), (HRES.out.alloc _).drew, ((HR.out.alloc _).alloc _).drew⟩
  unfold mdC at hgr0
  have HGR0 := Lib.hid hgr0
  have hA := HAA.out
  have hgm : w.heap.size < w.heap.size + 1 := by omega
  clear hgr0
  go_wp2_with fail
  go_loopw [6, 7] (fun s6 s7 wr => ∃ (q a : Nat) (v : Value) (acc : List Pt), q ≤ X4 ∧ a ≤ n ∧ s7 = .int .i64 q ∧ s6 = .int .i64 a ∧ GR w.heap.size (w.heap.size + 1) bs (some ⟨b0, off0, none⟩) x0 x1 x2 x3 w v (.slice none 0 0) (.slice none 0 0) acc wr ∧ partsG (X4 - q) (some (bs.drop a)) acc = PR ∧ acc.length = q) (fun _ i _ => X4 - (intOf i).toNat)
  case atStart => exact ⟨0, 5, _, [], by omega, by omega, rfl, rfl, HGR0.out, HPR.out, rfl⟩
  case round =>
    obtain ⟨q, a, v, acc, hq, ha, rfl, rfl, hgr, hpt, hal⟩ := hrel
    obtain ⟨WR, rfl⟩ : ∃ x : World, x = wr := ⟨_, rfl⟩
    have HGR := Lib.hid hgr
    have HPT := Lib.hid hpt
    have HAL := Lib.hid hal
    have j4 := byte_at hgr.rd (a := 4) (by have := HN.out; omega)
    rw [HX4.out] at j4
    have w4 : IntKind.i64.wrap (X4 : Int) = (X4 : Int) := IntWalk.i64_in _ (by omega)
    by_cases hlt : q < X4
    · have qlt : decide ((q : Int) < (X4 : Int)) = true := by simp; omega
      obtain ⟨m, hm⟩ : ∃ m, X4 - q = m + 1 := ⟨X4 - q - 1, by omega⟩
      have hpt2 := hpt
      rw [hm, partsG] at hpt2
      by_cases hend : a < n
      · rw [nx1_at bs a (by have := HN.out; omega)] at hpt2
        simp only [List.headD_cons] at hpt2
        have hk := HO.out.getD a
        have ja := byte_at hgr.rd (a := a) (by have := HN.out; omega)
        obtain ⟨k, hkk⟩ : ∃ k, bs.getD a 0 = k := ⟨_, rfl⟩
        rw [hkk] at hk ja hpt2
        have hge : decide ((n : Int) ≤ (a : Int)) = false := by simp; omega
        have hai : (a : Int) < (n : Int) := by omega
        have HM := Lib.hid hm
        have HPT2 := Lib.hid hpt2
        have hrlt := hgr.res.lt
        have hmlt := hgr.mb.lt
        have hvb : ∀ b, v.ownBlock = some b → b < WR.heap.size := fun b hb => by
          rcases hgr.own.2 with ⟨rfl, _⟩ | ⟨g', cap, cur, rfl, _, hg', _⟩
          · simp [Value.ownBlock] at hb
          · simp [Value.ownBlock] at hb; subst hb; exact (Array.getElem?_eq_some_iff.1 hg').1
        have HVB := Lib.hid hvb
        have HPB := Lib.hid (Blk.new WR 32 (ptZ k).cells.toArray)
        have HGP := Lib.hid (hgr.alloc (.cells (ptZ k).cells.toArray 32))
        clear hpt hpt2 hm hkk hal hgr hvb
        go_wp2_with fail
        refine (has57 k _).mono ?_
        rintro e w2 ⟨rfl, hb2⟩
        have hgr2 := HGP.out.below hb2
        have hp2 := HPB.out.below hb2
        have HHB := Lib.hid (Blk.new w2 91 #[.bool (hasK k 1), .bool (hasK k 2), .bool (hasK k 3), .bool (hasK k 4), .bool (hasK k 5), .bool (hasK k 6)])
        have plt := hp2.lt
        have HP2 := Lib.hid hp2
        have HG2 := Lib.hid hgr2
        clear hb2 hp2 j4 ja
        unfold hasV
        cases hok : okK k with
        | false =>
          have HE : Hid (R = (Md.zero, 0, 131)) := Lib.hid (by
            have h1 := HPT2.out
            rw [hok] at h1
            have h2 := HDEF.out
            rw [← h1] at h2
            exact h2)
          have hgx := hgr2
          have z0 := hgx.res.cell 0
          have y0 := hgx.res.frozen 0
          have z1 := hgx.res.cell 1
          have y1 := hgx.res.frozen 1
          have z2 := hgx.res.cell 2
          have y2 := hgx.res.frozen 2
          have z3 := hgx.res.cell 3
          have y3 := hgx.res.frozen 3
          have z4 := hgx.res.cell 4
          have y4 := hgx.res.frozen 4
          have z5 := hgx.res.cell 5
          have y5 := hgx.res.frozen 5
          have z6 := hgx.res.cell 6
          have y6 := hgx.res.frozen 6
          simp [mdC] at z0 z1 z2 z3 z4 z5 z6
          have glt := hgx.res.lt
          clear hgx hgr2 hok
          go_wp2_with fail
          rw [HE.out]
          have hblk0 := (blk_seven HG2.out.res (.int .i64 0) (.int .i64 0) (.int .i64 0) (.int .i64 0) (.slice none 0 0) (.slice none 0 0) (.slice none 0 0))
          have hlow0 := (below_zero HG2.out.low (Nat.le_refl _) (.int .i64 0) (.int .i64 0) (.int .i64 0) (.int .i64 0) (.slice none 0 0) (.slice none 0 0) (.slice none 0 0))
          have hblk1 := hblk0.alloc (.cells #[.bool (hasK k 1), .bool (hasK k 2), .bool (hasK k 3), .bool (hasK k 4), .bool (hasK k 5), .bool (hasK k 6)] 91)
          have hlow1 := hlow0.alloc hlow0.size (.cells #[.bool (hasK k 1), .bool (hasK k 2), .bool (hasK k 3), .bool (hasK k 4), .bool (hasK k 5), .bool (hasK k 6)] 91)
          have hmod := zero_model w _ 131 hlow1
          have hblk := hblk1
          clear z0 z1 z2 z3 z4 z5 z6 y0 y1 y2 y3 y4 y5 y6 hblk0 hlow0 hblk1 hlow1
          obtain ⟨WE, hWE⟩ : ∃ x, ((((((((w2.setCell ⟨w.heap.size, 0, none⟩ (.int .i64 0)).setCell ⟨w.heap.size, 1, none⟩ (.int .i64 0)).setCell ⟨w.heap.size, 2, none⟩ (.int .i64 0)).setCell ⟨w.heap.size, 3, none⟩ (.int .i64 0)).setCell ⟨w.heap.size, 4, none⟩ (.slice none 0 0)).setCell ⟨w.heap.size, 5, none⟩ (.slice none 0 0)).setCell ⟨w.heap.size, 6, none⟩ (.slice none 0 0)).alloc (.cells #[.bool (hasK k 1), .bool (hasK k 2), .bool (hasK k 3), .bool (hasK k 4), .bool (hasK k 5), .bool (hasK k 6)] 91)) = x := ⟨_, rfl⟩
          rw [hWE] at hblk hmod ⊢
          have r0 := hblk.cell 0
          have r1 := hblk.cell 1
          have r2 := hblk.cell 2
          have r3 := hblk.cell 3
          have r4 := hblk.cell 4
          have r5 := hblk.cell 5
          have r6 := hblk.cell 6
          simp at r0 r1 r2 r3 r4 r5 r6
          exact bodyPost_ret (v := .tuple #[mdV 0 0 0 0 (.slice none 0 0) (.slice none 0 0) (.slice none 0 0), .int .i64 0, .int .i64 131]) (by simp [results, Try.results38, go_sem, mdV, r0, r1, r2, r3, r4, r5, r6]) rfl hmod
        | true =>
          rw [hok] at HPT2
          have hp3 : partsG m (ptG (bs.drop (a + 1)) k).1 (acc ++ [(ptG (bs.drop (a + 1)) k).2]) = PR := HPT2.out
          have HPT3 := Lib.hid hp3
          have hv0 := Blk.new (w2.alloc (.cells #[.bool (hasK k 1), .bool (hasK k 2), .bool (hasK k 3), .bool (hasK k 4), .bool (hasK k 5), .bool (hasK k 6)] 91)) 97 #[.int .i64 0, .int .i64 0, .int .i64 0, .int .i64 0, .int .i64 0, .int .i64 0]
          rw [World.size_alloc] at hv0
          have HV0 := Lib.hid hv0
          have HGA := Lib.hid ((hgr2.alloc (.cells #[.bool (hasK k 1), .bool (hasK k 2), .bool (hasK k 3), .bool (hasK k 4), .bool (hasK k 5), .bool (hasK k 6)] 91)).alloc (.cells #[.int .i64 0, .int .i64 0, .int .i64 0, .int .i64 0, .int .i64 0, .int .i64 0] 97))
          have hai1 : (a : Int) + 1 ≤ 1000000000 := by omega
          clear hp3 hv0 hgr2 hok
          go_wp2_with fail
          go_loopw [6, 12] (fun s6 s12 wr => ∃ (u a2 : Nat) (t2 : Pt), u ≤ 6 ∧ a2 ≤ n ∧ s12 = .int .i64 u ∧ s6 = .int .i64 a2 ∧ fq k (bs.drop (a + 1)) u = (some (bs.drop a2), t2) ∧ FqI k u t2 ∧ (0 ≤ vq k u t2 4 ∧ vq k u t2 4 ≤ 65535) ∧ GR w.heap.size (w.heap.size + 1) bs (some ⟨b0, off0, none⟩) x0 x1 x2 x3 w v (.slice none 0 0) (.slice none 0 0) acc wr ∧ Blk wr WR.heap.size 32 (ptZ k).cells.toArray ∧ Blk wr w2.heap.size 91 #[.bool (hasK k 1), .bool (hasK k 2), .bool (hasK k 3), .bool (hasK k 4), .bool (hasK k 5), .bool (hasK k 6)] ∧ Blk wr (w2.heap.size + 1) 97 (vqs k u t2)) (fun _ i _ => 6 - (intOf i).toNat)
          case atStart => exact ⟨0, a + 1, ptZ k, by omega, by omega, rfl, by go_num, fq_zero _ _, fqi_zero k, (by unfold vq; rw [if_neg (by omega)]; omega), HGA.out, (HP2.out.alloc _).alloc _, HHB.out.alloc _, by rw [vqs_zero]; exact HV0.out⟩
          case round =>
            obtain ⟨u, a2, t2, hu, ha2, rfl, rfl, hfq, hfi, hvq, hg2, hp2, hh2, hv2⟩ := hrel
            have HVQ := Lib.hid hvq
            clear hvq
            by_cases hu6 : u < 6
            · have hui : (u : Int) < 6 := by omega
              rcases (show u = 3 ∨ u = 5 ∨ (u ≠ 3 ∧ u ≠ 5) from by omega) with hu3 | hu5 | ⟨hu3, hu5⟩
              · have q3 : ((u : Int) == 3) = true := by simp; omega
                have hwid : widN (u + 1) = 2 := by subst hu3; rfl
                have HWID := Lib.hid hwid
                clear hu3
                have hcell : wr.cell? ⟨w2.heap.size, u, none⟩ = some (.bool (hasK k (u + 1))) := by
                  rw [hh2.cell u]
                  exact has_at k u (by omega)
                obtain ⟨H, hH⟩ : ∃ x, hasK k (u + 1) = x := ⟨_, rfl⟩
                rw [hH] at hcell

                cases H
                · have HG := Lib.hid hg2
                  have HP := Lib.hid hp2
                  have HHh := Lib.hid hh2
                  have HV := Lib.hid hv2
                  have HFQ := Lib.hid hfq
                  have HFI := Lib.hid hfi
                  have HHH := Lib.hid hH
                  clear hg2 hp2 hh2 hv2 hfq hfi hH
                  go_wp2_with fail
                  go_roundw
                  case rel =>
                    refine ⟨u + 1, a2, t2, by omega, by omega, by go_num, rfl, ?_, fqi_skip HFI.out HHH.out, (by rw [vq_skip HHH.out]; exact HVQ.out), HG.out, HP.out, HHh.out, by rw [vqs_skip HHH.out]; exact HV.out⟩
                    rw [fq_step k _ u (by omega), HHH.out]
                    exact HFQ.out
                  case measure => simp [intOf]; try omega
                · by_cases hsh : n < a2 + 2
                  · have gsh : decide ((n : Int) < (a2 : Int) + 2) = true := by simp; omega
                    have HE : Hid (R = (Md.zero, 0, 12)) := Lib.hid (by
                      have h1 := fq_none k (bs.drop (a + 1)) u (by omega) hH (by rw [hfq]; exact fdG_end bs a2 (u + 1) t2 (by rw [hwid]; have := HN.out; omega))
                      have h2 := HPT3.out
                      rw [h1, parts_none] at h2
                      have h3 := HDEF.out
                      rw [← h2] at h3
                      exact h3)
                    have HG := Lib.hid hg2
                    have z0 := hg2.res.cell 0
                    have y0 := hg2.res.frozen 0
                    have z1 := hg2.res.cell 1
                    have y1 := hg2.res.frozen 1
                    have z2 := hg2.res.cell 2
                    have y2 := hg2.res.frozen 2
                    have z3 := hg2.res.cell 3
                    have y3 := hg2.res.frozen 3
                    have z4 := hg2.res.cell 4
                    have y4 := hg2.res.frozen 4
                    have z5 := hg2.res.cell 5
                    have y5 := hg2.res.frozen 5
                    have z6 := hg2.res.cell 6
                    have y6 := hg2.res.frozen 6
                    simp [mdC] at z0 z1 z2 z3 z4 z5 z6
                    clear hg2 hp2 hh2 hv2 hfq hfi hH
                    go_wp2_with fail
                    rw [HE.out]
                    have hblk0 := (blk_seven HG.out.res (.int .i64 0) (.int .i64 0) (.int .i64 0) (.int .i64 0) (.slice none 0 0) (.slice none 0 0) (.slice none 0 0))
                    have hlow0 := (below_zero HG.out.low (Nat.le_refl _) (.int .i64 0) (.int .i64 0) (.int .i64 0) (.int .i64 0) (.slice none 0 0) (.slice none 0 0) (.slice none 0 0))
                    have hmod := zero_model w _ 12 hlow0
                    have hblk := hblk0
                    clear z0 z1 z2 z3 z4 z5 z6 y0 y1 y2 y3 y4 y5 y6 hblk0 hlow0
                    obtain ⟨WE, hWE⟩ : ∃ x, (((((((wr.setCell ⟨w.heap.size, 0, none⟩ (.int .i64 0)).setCell ⟨w.heap.size, 1, none⟩ (.int .i64 0)).setCell ⟨w.heap.size, 2, none⟩ (.int .i64 0)).setCell ⟨w.heap.size, 3, none⟩ (.int .i64 0)).setCell ⟨w.heap.size, 4, none⟩ (.slice none 0 0)).setCell ⟨w.heap.size, 5, none⟩ (.slice none 0 0)).setCell ⟨w.heap.size, 6, none⟩ (.slice none 0 0)) = x := ⟨_, rfl⟩
                    rw [hWE] at hblk hmod ⊢
                    have r0 := hblk.cell 0
                    have r1 := hblk.cell 1
                    have r2 := hblk.cell 2
                    have r3 := hblk.cell 3
                    have r4 := hblk.cell 4
                    have r5 := hblk.cell 5
                    have r6 := hblk.cell 6
                    simp at r0 r1 r2 r3 r4 r5 r6
                    exact bodyPost_ret (v := .tuple #[mdV 0 0 0 0 (.slice none 0 0) (.slice none 0 0) (.slice none 0 0), .int .i64 0, .int .i64 12]) (by simp [results, Try.results38, go_sem, mdV, r0, r1, r2, r3, r4, r5, r6]) rfl hmod
                  · have gsh : decide ((n : Int) < (a2 : Int) + 2) = false := by simp; omega
                    have hna : (a2 : Int) + 2 ≤ 1000000000 := by omega
                    have HG := Lib.hid hg2
                    have HP := Lib.hid hp2
                    have HHh := Lib.hid hh2
                    have HV := Lib.hid hv2
                    have HFQ := Lib.hid hfq
                    have HFI := Lib.hid hfi
                    have HHH := Lib.hid hH
                    clear hg2 hp2 hh2 hv2 hfq hfi hH
                    go_wp2_with fail
                    go_loopw [14] (fun s14 wr => ∃ s : Nat, s ≤ 2 ∧ s14 = .int .i64 s ∧ GR w.heap.size (w.heap.size + 1) bs (some ⟨b0, off0, none⟩) x0 x1 x2 x3 w v (.slice none 0 0) (.slice none 0 0) acc wr ∧ Blk wr WR.heap.size 32 (ptZ k).cells.toArray ∧ Blk wr w2.heap.size 91 #[.bool (hasK k 1), .bool (hasK k 2), .bool (hasK k 3), .bool (hasK k 4), .bool (hasK k 5), .bool (hasK k 6)] ∧ Blk wr (w2.heap.size + 1) 97 ((vqs k u t2).setIfInBounds u (.int .i64 (pvF bs a2 s)))) (fun s14 _ => 2 - (intOf s14).toNat)
                    case atStart => exact ⟨0, by omega, rfl, HG.out, HP.out, HHh.out, by rw [vset_zero k u t2 bs a2 (by omega)]; exact HV.out⟩
                    case round =>
                      obtain ⟨s, hs, rfl, hg3, hp3, hh3, hv3⟩ := hrel
                      have HG3 := Lib.hid hg3
                      have HP3 := Lib.hid hp3
                      have HH3 := Lib.hid hh3
                      have HV3 := Lib.hid hv3
                      rcases (show s = 0 ∨ s = 1 ∨ s = 2 from by omega) with rfl | rfl | rfl
                      · have vc : wr.cell? ⟨w2.heap.size + 1, u, none⟩ = some (.int .i64 (pvF bs a2 0)) := by rw [hv3.cell u]; exact vset_at _ _ _ _ _ (by omega)
                        have vf := hv3.frozen u
                        have bc := byte_at hg3.rd (a := a2) (by have := HN.out; omega)
                        have hby := HO.out.getD (a2)
                        obtain ⟨y, hy⟩ : ∃ y, bs.getD (a2) 0 = y := ⟨_, rfl⟩
                        rw [hy] at bc hby
                        have wy : IntKind.i64.wrap y = y := IntWalk.i64_in _ (by omega)
                        have hpv : pvF bs a2 0 = 0 := by rfl
                        rw [hpv] at vc
                        have hpv2 : pvF bs a2 1 = y := by rw [← hy]; rfl
                        have HPV2 := Lib.hid hpv2
                        have glt3 := hp3.lt
                        have hai2 : (a2 : Int) < (n : Int) := by omega
                        have hain : a2 < n := by omega

                        clear hg3 hp3 hh3 hv3 hy hpv hpv2 
                        go_wp2_with fail
                        go_region
                        all_goals
                          go_wp2_with fail
                          go_roundw
                          case rel =>
                            have hfs : ∀ x, Frm (fun k => k = w2.heap.size + 1) wr (wr.setCell ⟨w2.heap.size + 1, u, none⟩ x) := fun x => Frm.setCell (S := fun k => k = w2.heap.size + 1) (p := ⟨w2.heap.size + 1, u, none⟩) (Frm.refl _ _) (fun _ => rfl) _
                            refine ⟨1, by omega, by go_num, (HG3.out.far HAA.out (by omega) (by omega) (fun e => by have := HVB.out _ e; omega) (hfs _)).drew, (HP3.out.frm (hfs _) (by omega)).drew, (HH3.out.frm (hfs _) (by omega)).drew, ?_⟩
                            have h9 := HV3.out.set u (.int .i64 (y))
                            rw [vset_set] at h9
                            rw [HPV2.out]
                            exact h9.drew
                          case measure => simp [intOf]
                      · have vc : wr.cell? ⟨w2.heap.size + 1, u, none⟩ = some (.int .i64 (pvF bs a2 1)) := by rw [hv3.cell u]; exact vset_at _ _ _ _ _ (by omega)
                        have vf := hv3.frozen u
                        have bc := byte_at hg3.rd (a := a2 + 1) (by have := HN.out; omega)
                        have hby := HO.out.getD (a2 + 1)
                        obtain ⟨y, hy⟩ : ∃ y, bs.getD (a2 + 1) 0 = y := ⟨_, rfl⟩
                        rw [hy] at bc hby
                        have wy : IntKind.i64.wrap y = y := IntWalk.i64_in _ (by omega)
                        obtain ⟨yp, hyp⟩ : ∃ y, bs.getD a2 0 = y := ⟨_, rfl⟩
                        have hypb := HO.out.getD a2
                        rw [hyp] at hypb
                        have hpv : pvF bs a2 1 = yp := by rw [← hyp]; rfl
                        rw [hpv] at vc
                        have hpv2 : pvF bs a2 2 = yp * 256 + y := by rw [← hyp, ← hy]; rfl
                        have HPV2 := Lib.hid hpv2
                        have glt3 := hp3.lt
                        have hai2 : (a2 : Int) + 1 < (n : Int) := by omega
                        have hain : a2 + 1 < n := by omega
                        have htn : ((a2 : Int) + 1).toNat = a2 + 1 := by omega
                        clear hg3 hp3 hh3 hv3 hy hpv hpv2 hyp
                        go_wp2_with fail
                        go_region
                        all_goals
                          go_wp2_with fail
                          go_roundw
                          case rel =>
                            have hfs : ∀ x, Frm (fun k => k = w2.heap.size + 1) wr (wr.setCell ⟨w2.heap.size + 1, u, none⟩ x) := fun x => Frm.setCell (S := fun k => k = w2.heap.size + 1) (p := ⟨w2.heap.size + 1, u, none⟩) (Frm.refl _ _) (fun _ => rfl) _
                            refine ⟨2, by omega, by go_num, (HG3.out.far HAA.out (by omega) (by omega) (fun e => by have := HVB.out _ e; omega) (hfs _)).drew, (HP3.out.frm (hfs _) (by omega)).drew, (HH3.out.frm (hfs _) (by omega)).drew, ?_⟩
                            have h9 := HV3.out.set u (.int .i64 (yp * 256 + y))
                            rw [vset_set] at h9
                            rw [HPV2.out]
                            exact h9.drew
                          case measure => simp [intOf]
                      · clear hg3 hp3 hh3 hv3
                        go_wp2_with fail
                        go_roundw
                        case rel =>
                          refine ⟨u + 1, a2 + 2, t2.set (u + 1) (valF bs a2 (u + 1) - moreF (u + 1)), by omega, by omega, by go_num, by go_num, ?_, fqi_set HFI.out (by omega) _ HHH.out, ?_, HG3.out, HP3.out, HH3.out, ?_⟩
                          · rw [fq_step k _ u (by omega), HHH.out, if_pos rfl, HFQ.out, fdG_at bs a2 (u + 1) t2 (by rw [HWID.out]; have := HN.out; omega), HWID.out]
                          · rw [vq_set (by omega) _ HHH.out 4 (by omega) (by omega)]
                            split
                            · exact valF_range HO.out _ _
                            · exact HVQ.out
                          · rw [vqs_set (by omega) _ HHH.out, ← pvF_val, HWID.out]
                            exact HV3.out
                        case measure => simp [intOf]; try omega
              · have q3 : ((u : Int) == 3) = false := by simp; omega
                have q5 : ((u : Int) == 5) = true := by simp; omega
                have hwid : widN (u + 1) = 2 := by subst hu5; rfl
                have HWID := Lib.hid hwid
                clear hu5
                have hcell : wr.cell? ⟨w2.heap.size, u, none⟩ = some (.bool (hasK k (u + 1))) := by
                  rw [hh2.cell u]
                  exact has_at k u (by omega)
                obtain ⟨H, hH⟩ : ∃ x, hasK k (u + 1) = x := ⟨_, rfl⟩
                rw [hH] at hcell

                cases H
                · have HG := Lib.hid hg2
                  have HP := Lib.hid hp2
                  have HHh := Lib.hid hh2
                  have HV := Lib.hid hv2
                  have HFQ := Lib.hid hfq
                  have HFI := Lib.hid hfi
                  have HHH := Lib.hid hH
                  clear hg2 hp2 hh2 hv2 hfq hfi hH
                  go_wp2_with fail
                  go_roundw
                  case rel =>
                    refine ⟨u + 1, a2, t2, by omega, by omega, by go_num, rfl, ?_, fqi_skip HFI.out HHH.out, (by rw [vq_skip HHH.out]; exact HVQ.out), HG.out, HP.out, HHh.out, by rw [vqs_skip HHH.out]; exact HV.out⟩
                    rw [fq_step k _ u (by omega), HHH.out]
                    exact HFQ.out
                  case measure => simp [intOf]; try omega
                · by_cases hsh : n < a2 + 2
                  · have gsh : decide ((n : Int) < (a2 : Int) + 2) = true := by simp; omega
                    have HE : Hid (R = (Md.zero, 0, 12)) := Lib.hid (by
                      have h1 := fq_none k (bs.drop (a + 1)) u (by omega) hH (by rw [hfq]; exact fdG_end bs a2 (u + 1) t2 (by rw [hwid]; have := HN.out; omega))
                      have h2 := HPT3.out
                      rw [h1, parts_none] at h2
                      have h3 := HDEF.out
                      rw [← h2] at h3
                      exact h3)
                    have HG := Lib.hid hg2
                    have z0 := hg2.res.cell 0
                    have y0 := hg2.res.frozen 0
                    have z1 := hg2.res.cell 1
                    have y1 := hg2.res.frozen 1
                    have z2 := hg2.res.cell 2
                    have y2 := hg2.res.frozen 2
                    have z3 := hg2.res.cell 3
                    have y3 := hg2.res.frozen 3
                    have z4 := hg2.res.cell 4
                    have y4 := hg2.res.frozen 4
                    have z5 := hg2.res.cell 5
                    have y5 := hg2.res.frozen 5
                    have z6 := hg2.res.cell 6
                    have y6 := hg2.res.frozen 6
                    simp [mdC] at z0 z1 z2 z3 z4 z5 z6
                    clear hg2 hp2 hh2 hv2 hfq hfi hH
                    go_wp2_with fail
                    rw [HE.out]
                    have hblk0 := (blk_seven HG.out.res (.int .i64 0) (.int .i64 0) (.int .i64 0) (.int .i64 0) (.slice none 0 0) (.slice none 0 0) (.slice none 0 0))
                    have hlow0 := (below_zero HG.out.low (Nat.le_refl _) (.int .i64 0) (.int .i64 0) (.int .i64 0) (.int .i64 0) (.slice none 0 0) (.slice none 0 0) (.slice none 0 0))
                    have hmod := zero_model w _ 12 hlow0
                    have hblk := hblk0
                    clear z0 z1 z2 z3 z4 z5 z6 y0 y1 y2 y3 y4 y5 y6 hblk0 hlow0
                    obtain ⟨WE, hWE⟩ : ∃ x, (((((((wr.setCell ⟨w.heap.size, 0, none⟩ (.int .i64 0)).setCell ⟨w.heap.size, 1, none⟩ (.int .i64 0)).setCell ⟨w.heap.size, 2, none⟩ (.int .i64 0)).setCell ⟨w.heap.size, 3, none⟩ (.int .i64 0)).setCell ⟨w.heap.size, 4, none⟩ (.slice none 0 0)).setCell ⟨w.heap.size, 5, none⟩ (.slice none 0 0)).setCell ⟨w.heap.size, 6, none⟩ (.slice none 0 0)) = x := ⟨_, rfl⟩
                    rw [hWE] at hblk hmod ⊢
                    have r0 := hblk.cell 0
                    have r1 := hblk.cell 1
                    have r2 := hblk.cell 2
                    have r3 := hblk.cell 3
                    have r4 := hblk.cell 4
                    have r5 := hblk.cell 5
                    have r6 := hblk.cell 6
                    simp at r0 r1 r2 r3 r4 r5 r6
                    exact bodyPost_ret (v := .tuple #[mdV 0 0 0 0 (.slice none 0 0) (.slice none 0 0) (.slice none 0 0), .int .i64 0, .int .i64 12]) (by simp [results, Try.results38, go_sem, mdV, r0, r1, r2, r3, r4, r5, r6]) rfl hmod
                  · have gsh : decide ((n : Int) < (a2 : Int) + 2) = false := by simp; omega
                    have hna : (a2 : Int) + 2 ≤ 1000000000 := by omega
                    have HG := Lib.hid hg2
                    have HP := Lib.hid hp2
                    have HHh := Lib.hid hh2
                    have HV := Lib.hid hv2
                    have HFQ := Lib.hid hfq
                    have HFI := Lib.hid hfi
                    have HHH := Lib.hid hH
                    clear hg2 hp2 hh2 hv2 hfq hfi hH
                    go_wp2_with fail
                    go_loopw [14] (fun s14 wr => ∃ s : Nat, s ≤ 2 ∧ s14 = .int .i64 s ∧ GR w.heap.size (w.heap.size + 1) bs (some ⟨b0, off0, none⟩) x0 x1 x2 x3 w v (.slice none 0 0) (.slice none 0 0) acc wr ∧ Blk wr WR.heap.size 32 (ptZ k).cells.toArray ∧ Blk wr w2.heap.size 91 #[.bool (hasK k 1), .bool (hasK k 2), .bool (hasK k 3), .bool (hasK k 4), .bool (hasK k 5), .bool (hasK k 6)] ∧ Blk wr (w2.heap.size + 1) 97 ((vqs k u t2).setIfInBounds u (.int .i64 (pvF bs a2 s)))) (fun s14 _ => 2 - (intOf s14).toNat)
                    case atStart => exact ⟨0, by omega, rfl, HG.out, HP.out, HHh.out, by rw [vset_zero k u t2 bs a2 (by omega)]; exact HV.out⟩
                    case round =>
                      obtain ⟨s, hs, rfl, hg3, hp3, hh3, hv3⟩ := hrel
                      have HG3 := Lib.hid hg3
                      have HP3 := Lib.hid hp3
                      have HH3 := Lib.hid hh3
                      have HV3 := Lib.hid hv3
                      rcases (show s = 0 ∨ s = 1 ∨ s = 2 from by omega) with rfl | rfl | rfl
                      · have vc : wr.cell? ⟨w2.heap.size + 1, u, none⟩ = some (.int .i64 (pvF bs a2 0)) := by rw [hv3.cell u]; exact vset_at _ _ _ _ _ (by omega)
                        have vf := hv3.frozen u
                        have bc := byte_at hg3.rd (a := a2) (by have := HN.out; omega)
                        have hby := HO.out.getD (a2)
                        obtain ⟨y, hy⟩ : ∃ y, bs.getD (a2) 0 = y := ⟨_, rfl⟩
                        rw [hy] at bc hby
                        have wy : IntKind.i64.wrap y = y := IntWalk.i64_in _ (by omega)
                        have hpv : pvF bs a2 0 = 0 := by rfl
                        rw [hpv] at vc
                        have hpv2 : pvF bs a2 1 = y := by rw [← hy]; rfl
                        have HPV2 := Lib.hid hpv2
                        have glt3 := hp3.lt
                        have hai2 : (a2 : Int) < (n : Int) := by omega
                        have hain : a2 < n := by omega

                        clear hg3 hp3 hh3 hv3 hy hpv hpv2 
                        go_wp2_with fail
                        go_region
                        all_goals
                          go_wp2_with fail
                          go_roundw
                          case rel =>
                            have hfs : ∀ x, Frm (fun k => k = w2.heap.size + 1) wr (wr.setCell ⟨w2.heap.size + 1, u, none⟩ x) := fun x => Frm.setCell (S := fun k => k = w2.heap.size + 1) (p := ⟨w2.heap.size + 1, u, none⟩) (Frm.refl _ _) (fun _ => rfl) _
                            refine ⟨1, by omega, by go_num, (HG3.out.far HAA.out (by omega) (by omega) (fun e => by have := HVB.out _ e; omega) (hfs _)).drew, (HP3.out.frm (hfs _) (by omega)).drew, (HH3.out.frm (hfs _) (by omega)).drew, ?_⟩
                            have h9 := HV3.out.set u (.int .i64 (y))
                            rw [vset_set] at h9
                            rw [HPV2.out]
                            exact h9.drew
                          case measure => simp [intOf]
                      · have vc : wr.cell? ⟨w2.heap.size + 1, u, none⟩ = some (.int .i64 (pvF bs a2 1)) := by rw [hv3.cell u]; exact vset_at _ _ _ _ _ (by omega)
                        have vf := hv3.frozen u
                        have bc := byte_at hg3.rd (a := a2 + 1) (by have := HN.out; omega)
                        have hby := HO.out.getD (a2 + 1)
                        obtain ⟨y, hy⟩ : ∃ y, bs.getD (a2 + 1) 0 = y := ⟨_, rfl⟩
                        rw [hy] at bc hby
                        have wy : IntKind.i64.wrap y = y := IntWalk.i64_in _ (by omega)
                        obtain ⟨yp, hyp⟩ : ∃ y, bs.getD a2 0 = y := ⟨_, rfl⟩
                        have hypb := HO.out.getD a2
                        rw [hyp] at hypb
                        have hpv : pvF bs a2 1 = yp := by rw [← hyp]; rfl
                        rw [hpv] at vc
                        have hpv2 : pvF bs a2 2 = yp * 256 + y := by rw [← hyp, ← hy]; rfl
                        have HPV2 := Lib.hid hpv2
                        have glt3 := hp3.lt
                        have hai2 : (a2 : Int) + 1 < (n : Int) := by omega
                        have hain : a2 + 1 < n := by omega
                        have htn : ((a2 : Int) + 1).toNat = a2 + 1 := by omega
                        clear hg3 hp3 hh3 hv3 hy hpv hpv2 hyp
                        go_wp2_with fail
                        go_region
                        all_goals
                          go_wp2_with fail
                          go_roundw
                          case rel =>
                            have hfs : ∀ x, Frm (fun k => k = w2.heap.size + 1) wr (wr.setCell ⟨w2.heap.size + 1, u, none⟩ x) := fun x => Frm.setCell (S := fun k => k = w2.heap.size + 1) (p := ⟨w2.heap.size + 1, u, none⟩) (Frm.refl _ _) (fun _ => rfl) _
                            refine ⟨2, by omega, by go_num, (HG3.out.far HAA.out (by omega) (by omega) (fun e => by have := HVB.out _ e; omega) (hfs _)).drew, (HP3.out.frm (hfs _) (by omega)).drew, (HH3.out.frm (hfs _) (by omega)).drew, ?_⟩
                            have h9 := HV3.out.set u (.int .i64 (yp * 256 + y))
                            rw [vset_set] at h9
                            rw [HPV2.out]
                            exact h9.drew
                          case measure => simp [intOf]
                      · clear hg3 hp3 hh3 hv3
                        go_wp2_with fail
                        go_roundw
                        case rel =>
                          refine ⟨u + 1, a2 + 2, t2.set (u + 1) (valF bs a2 (u + 1) - moreF (u + 1)), by omega, by omega, by go_num, by go_num, ?_, fqi_set HFI.out (by omega) _ HHH.out, ?_, HG3.out, HP3.out, HH3.out, ?_⟩
                          · rw [fq_step k _ u (by omega), HHH.out, if_pos rfl, HFQ.out, fdG_at bs a2 (u + 1) t2 (by rw [HWID.out]; have := HN.out; omega), HWID.out]
                          · rw [vq_set (by omega) _ HHH.out 4 (by omega) (by omega)]
                            split
                            · exact valF_range HO.out _ _
                            · exact HVQ.out
                          · rw [vqs_set (by omega) _ HHH.out, ← pvF_val, HWID.out]
                            exact HV3.out
                        case measure => simp [intOf]; try omega
              · have q3 : ((u : Int) == 3) = false := by simp; omega
                have q5 : ((u : Int) == 5) = false := by simp; omega
                have hwid : widN (u + 1) = 1 := by unfold widN wide; rw [if_neg]; simp; omega
                have HWID := Lib.hid hwid
                have hcell : wr.cell? ⟨w2.heap.size, u, none⟩ = some (.bool (hasK k (u + 1))) := by
                  rw [hh2.cell u]
                  exact has_at k u (by omega)
                obtain ⟨H, hH⟩ : ∃ x, hasK k (u + 1) = x := ⟨_, rfl⟩
                rw [hH] at hcell

                cases H
                · have HG := Lib.hid hg2
                  have HP := Lib.hid hp2
                  have HHh := Lib.hid hh2
                  have HV := Lib.hid hv2
                  have HFQ := Lib.hid hfq
                  have HFI := Lib.hid hfi
                  have HHH := Lib.hid hH
                  clear hg2 hp2 hh2 hv2 hfq hfi hH
                  go_wp2_with fail
                  go_roundw
                  case rel =>
                    refine ⟨u + 1, a2, t2, by omega, by omega, by go_num, rfl, ?_, fqi_skip HFI.out HHH.out, (by rw [vq_skip HHH.out]; exact HVQ.out), HG.out, HP.out, HHh.out, by rw [vqs_skip HHH.out]; exact HV.out⟩
                    rw [fq_step k _ u (by omega), HHH.out]
                    exact HFQ.out
                  case measure => simp [intOf]; try omega
                · by_cases hsh : n < a2 + 1
                  · have gsh : decide ((n : Int) < (a2 : Int) + 1) = true := by simp; omega
                    have HE : Hid (R = (Md.zero, 0, 12)) := Lib.hid (by
                      have h1 := fq_none k (bs.drop (a + 1)) u (by omega) hH (by rw [hfq]; exact fdG_end bs a2 (u + 1) t2 (by rw [hwid]; have := HN.out; omega))
                      have h2 := HPT3.out
                      rw [h1, parts_none] at h2
                      have h3 := HDEF.out
                      rw [← h2] at h3
                      exact h3)
                    have HG := Lib.hid hg2
                    have z0 := hg2.res.cell 0
                    have y0 := hg2.res.frozen 0
                    have z1 := hg2.res.cell 1
                    have y1 := hg2.res.frozen 1
                    have z2 := hg2.res.cell 2
                    have y2 := hg2.res.frozen 2
                    have z3 := hg2.res.cell 3
                    have y3 := hg2.res.frozen 3
                    have z4 := hg2.res.cell 4
                    have y4 := hg2.res.frozen 4
                    have z5 := hg2.res.cell 5
                    have y5 := hg2.res.frozen 5
                    have z6 := hg2.res.cell 6
                    have y6 := hg2.res.frozen 6
                    simp [mdC] at z0 z1 z2 z3 z4 z5 z6
                    clear hg2 hp2 hh2 hv2 hfq hfi hH
                    go_wp2_with fail
                    rw [HE.out]
                    have hblk0 := (blk_seven HG.out.res (.int .i64 0) (.int .i64 0) (.int .i64 0) (.int .i64 0) (.slice none 0 0) (.slice none 0 0) (.slice none 0 0))
                    have hlow0 := (below_zero HG.out.low (Nat.le_refl _) (.int .i64 0) (.int .i64 0) (.int .i64 0) (.int .i64 0) (.slice none 0 0) (.slice none 0 0) (.slice none 0 0))
                    have hmod := zero_model w _ 12 hlow0
                    have hblk := hblk0
                    clear z0 z1 z2 z3 z4 z5 z6 y0 y1 y2 y3 y4 y5 y6 hblk0 hlow0
                    obtain ⟨WE, hWE⟩ : ∃ x, (((((((wr.setCell ⟨w.heap.size, 0, none⟩ (.int .i64 0)).setCell ⟨w.heap.size, 1, none⟩ (.int .i64 0)).setCell ⟨w.heap.size, 2, none⟩ (.int .i64 0)).setCell ⟨w.heap.size, 3, none⟩ (.int .i64 0)).setCell ⟨w.heap.size, 4, none⟩ (.slice none 0 0)).setCell ⟨w.heap.size, 5, none⟩ (.slice none 0 0)).setCell ⟨w.heap.size, 6, none⟩ (.slice none 0 0)) = x := ⟨_, rfl⟩
                    rw [hWE] at hblk hmod ⊢
                    have r0 := hblk.cell 0
                    have r1 := hblk.cell 1
                    have r2 := hblk.cell 2
                    have r3 := hblk.cell 3
                    have r4 := hblk.cell 4
                    have r5 := hblk.cell 5
                    have r6 := hblk.cell 6
                    simp at r0 r1 r2 r3 r4 r5 r6
                    exact bodyPost_ret (v := .tuple #[mdV 0 0 0 0 (.slice none 0 0) (.slice none 0 0) (.slice none 0 0), .int .i64 0, .int .i64 12]) (by simp [results, Try.results38, go_sem, mdV, r0, r1, r2, r3, r4, r5, r6]) rfl hmod
                  · have gsh : decide ((n : Int) < (a2 : Int) + 1) = false := by simp; omega
                    have hna : (a2 : Int) + 1 ≤ 1000000000 := by omega
                    have HG := Lib.hid hg2
                    have HP := Lib.hid hp2
                    have HHh := Lib.hid hh2
                    have HV := Lib.hid hv2
                    have HFQ := Lib.hid hfq
                    have HFI := Lib.hid hfi
                    have HHH := Lib.hid hH
                    clear hg2 hp2 hh2 hv2 hfq hfi hH
                    go_wp2_with fail
                    go_loopw [14] (fun s14 wr => ∃ s : Nat, s ≤ 1 ∧ s14 = .int .i64 s ∧ GR w.heap.size (w.heap.size + 1) bs (some ⟨b0, off0, none⟩) x0 x1 x2 x3 w v (.slice none 0 0) (.slice none 0 0) acc wr ∧ Blk wr WR.heap.size 32 (ptZ k).cells.toArray ∧ Blk wr w2.heap.size 91 #[.bool (hasK k 1), .bool (hasK k 2), .bool (hasK k 3), .bool (hasK k 4), .bool (hasK k 5), .bool (hasK k 6)] ∧ Blk wr (w2.heap.size + 1) 97 ((vqs k u t2).setIfInBounds u (.int .i64 (pvF bs a2 s)))) (fun s14 _ => 1 - (intOf s14).toNat)
                    case atStart => exact ⟨0, by omega, rfl, HG.out, HP.out, HHh.out, by rw [vset_zero k u t2 bs a2 (by omega)]; exact HV.out⟩
                    case round =>
                      obtain ⟨s, hs, rfl, hg3, hp3, hh3, hv3⟩ := hrel
                      have HG3 := Lib.hid hg3
                      have HP3 := Lib.hid hp3
                      have HH3 := Lib.hid hh3
                      have HV3 := Lib.hid hv3
                      rcases (show s = 0 ∨ s = 1 from by omega) with rfl | rfl
                      · have vc : wr.cell? ⟨w2.heap.size + 1, u, none⟩ = some (.int .i64 (pvF bs a2 0)) := by rw [hv3.cell u]; exact vset_at _ _ _ _ _ (by omega)
                        have vf := hv3.frozen u
                        have bc := byte_at hg3.rd (a := a2) (by have := HN.out; omega)
                        have hby := HO.out.getD (a2)
                        obtain ⟨y, hy⟩ : ∃ y, bs.getD (a2) 0 = y := ⟨_, rfl⟩
                        rw [hy] at bc hby
                        have wy : IntKind.i64.wrap y = y := IntWalk.i64_in _ (by omega)
                        have hpv : pvF bs a2 0 = 0 := by rfl
                        rw [hpv] at vc
                        have hpv2 : pvF bs a2 1 = y := by rw [← hy]; rfl
                        have HPV2 := Lib.hid hpv2
                        have glt3 := hp3.lt
                        have hai2 : (a2 : Int) < (n : Int) := by omega
                        have hain : a2 < n := by omega

                        clear hg3 hp3 hh3 hv3 hy hpv hpv2 
                        go_wp2_with fail
                        go_region
                        all_goals
                          go_wp2_with fail
                          go_roundw
                          case rel =>
                            have hfs : ∀ x, Frm (fun k => k = w2.heap.size + 1) wr (wr.setCell ⟨w2.heap.size + 1, u, none⟩ x) := fun x => Frm.setCell (S := fun k => k = w2.heap.size + 1) (p := ⟨w2.heap.size + 1, u, none⟩) (Frm.refl _ _) (fun _ => rfl) _
                            refine ⟨1, by omega, by go_num, (HG3.out.far HAA.out (by omega) (by omega) (fun e => by have := HVB.out _ e; omega) (hfs _)).drew, (HP3.out.frm (hfs _) (by omega)).drew, (HH3.out.frm (hfs _) (by omega)).drew, ?_⟩
                            have h9 := HV3.out.set u (.int .i64 (y))
                            rw [vset_set] at h9
                            rw [HPV2.out]
                            exact h9.drew
                          case measure => simp [intOf]
                      · clear hg3 hp3 hh3 hv3
                        go_wp2_with fail
                        go_roundw
                        case rel =>
                          refine ⟨u + 1, a2 + 1, t2.set (u + 1) (valF bs a2 (u + 1) - moreF (u + 1)), by omega, by omega, by go_num, by go_num, ?_, fqi_set HFI.out (by omega) _ HHH.out, ?_, HG3.out, HP3.out, HH3.out, ?_⟩
                          · rw [fq_step k _ u (by omega), HHH.out, if_pos rfl, HFQ.out, fdG_at bs a2 (u + 1) t2 (by rw [HWID.out]; have := HN.out; omega), HWID.out]
                          · rw [vq_set (by omega) _ HHH.out 4 (by omega) (by omega)]
                            split
                            · exact valF_range HO.out _ _
                            · exact HVQ.out
                          · rw [vqs_set (by omega) _ HHH.out, ← pvF_val, HWID.out]
                            exact HV3.out
                        case measure => simp [intOf]; try omega
            · have hui : ¬ (u : Int) < 6 := by omega
              have hu66 : u = 6 := by omega
              have hfi6 := hfi
              rw [hu66] at hfi6
              have hpt6 : partsG m (some (bs.drop a2)) (acc ++ [t2]) = PR := by
                have h1 := HPT3.out
                have h2 := hfq
                rw [hu66, fq_six] at h2
                rw [h2] at h1
                exact h1
              have hvr := HVQ.out
              rw [hu66] at hv2 hvr
              have e0 : wr.cell? ⟨w2.heap.size + 1, 0, none⟩ = some (.int .i64 t2.s) := by rw [hv2.cell 0, vqs_at 0 (by omega), vq_get hfi6 1 (by omega) (by omega) (by omega)]; rfl
              have e1 : wr.cell? ⟨w2.heap.size + 1, 1, none⟩ = some (.int .i64 t2.a) := by rw [hv2.cell 1, vqs_at 1 (by omega), vq_get hfi6 2 (by omega) (by omega) (by omega)]; rfl
              have e2 : wr.cell? ⟨w2.heap.size + 1, 2, none⟩ = some (.int .i64 t2.b) := by rw [hv2.cell 2, vqs_at 2 (by omega), vq_get hfi6 3 (by omega) (by omega) (by omega)]; rfl
              have e4 : wr.cell? ⟨w2.heap.size + 1, 4, none⟩ = some (.int .i64 t2.r) := by rw [hv2.cell 4, vqs_at 4 (by omega), vq_get hfi6 5 (by omega) (by omega) (by omega)]; rfl
              have e5 : wr.cell? ⟨w2.heap.size + 1, 5, none⟩ = some (.int .i64 t2.l) := by rw [hv2.cell 5, vqs_at 5 (by omega), vq_get hfi6 6 (by omega) (by omega) (by omega)]; rfl
              have e3 : wr.cell? ⟨w2.heap.size + 1, 3, none⟩ = some (.int .i64 (vq k 6 t2 4)) := by rw [hv2.cell 3, vqs_at 3 (by omega)]
              have hc3 := vq_c hfi6
              obtain ⟨V4, hV4⟩ : ∃ x, vq k 6 t2 4 = x := ⟨_, rfl⟩
              rw [hV4] at e3 hvr hc3
              have h3 : wr.cell? ⟨w2.heap.size, 3, none⟩ = some (.bool (hasK k 4)) := by
                rw [hh2.cell 3]
                exact has_at k 3 (by omega)
              have hn1 : ¬ (WR.heap.size = w2.heap.size + 1) := by have := hp2.lt; omega
              have hn2 : ¬ (w2.heap.size + 1 = WR.heap.size) := by omega
              have hn3 : ¬ (WR.heap.size = w2.heap.size) := by omega
              have hn4 : ¬ (w2.heap.size = WR.heap.size) := by omega
              have hn7 : ¬ (w2.heap.size = w2.heap.size + 1) := by omega
              cases hH : hasK k 4
              · have HHH : Hid (hasK k 4 = false) := Lib.hid hH
                rw [hH] at h3 hc3
                have hc4 : t2.c = 0 := by simpa using hc3
                have HT1 := Lib.hid t2.cells_one
                clear hvr
                have pe : (ptZ k).cells.toArray = #[.int .u8 t2.k, .int .i64 0, .int .i64 0, .int .i64 0, .int .i64 t2.c, .int .i64 0, .int .i64 0] := by rw [hfi6.kind, hc4]; rfl
                have hpp := hp2
                rw [pe] at hpp
                have p0 := hpp.cell 0
                have p1 := hpp.cell 1
                have p2 := hpp.cell 2
                have p3 := hpp.cell 3
                have p4 := hpp.cell 4
                have p5 := hpp.cell 5
                have p6 := hpp.cell 6
                simp at p0 p1 p2 p3 p4 p5 p6
                have f1 := hpp.frozen 1
                have f2 := hpp.frozen 2
                have f3 := hpp.frozen 3
                have f4 := hpp.frozen 4
                have f5 := hpp.frozen 5
                have f6 := hpp.frozen 6
                have h55 := p_five hpp (.int .i64 t2.s) (.int .i64 t2.a) (.int .i64 t2.b) (.int .i64 t2.r) (.int .i64 t2.l)
                have hp6 := h55.1.drew
                have hg6 := (hg2.far HAA.out (by omega) (by omega) (fun e => by have := HVB.out _ e; omega) h55.2).drew
                have hh6 := (hh2.frm h55.2 (by omega)).drew
                have hv6 := (hv2.frm h55.2 (by omega)).drew
                have h36 := hh6.cell 3
                rw [has_at k 3 (by omega), HHH.out] at h36
                have e36 := hv6.cell 3
                rw [vqs_at 3 (by omega), hV4] at e36
                have HP6 := Lib.hid hp6
                have HG6 := Lib.hid hg6
                have HPT6 := Lib.hid hpt6
                have glt := hp2.lt
                clear hu66 hfi hfi6 hfq hpt6 hv2 hh2 hp2 hpp hg2 hH hc3 hV4 pe HPT3 HVQ h55 hp6 hg6 hh6 hv6 hc4 h3 
                go_wp2_with fail
                go_region_held3 (fun w' => w'.cell? ⟨w2.heap.size + 1, 0, none⟩ = some (.int .i64 t2.s) ∧ w'.cell? ⟨w2.heap.size + 1, 1, none⟩ = some (.int .i64 t2.a) ∧ w'.cell? ⟨w2.heap.size + 1, 2, none⟩ = some (.int .i64 t2.b) ∧ w'.cell? ⟨w2.heap.size + 1, 4, none⟩ = some (.int .i64 t2.r) ∧ w'.cell? ⟨w2.heap.size + 1, 5, none⟩ = some (.int .i64 t2.l)) (go_keep) (fail)
                rename_i hHeld
                clear hHeld e0 e1 e2 e3 e4 e5 p0 p1 p2 p3 p4 p5 p6 f1 f2 f3 f4 f5 f6
                obtain ⟨W6, hW6⟩ : ∃ x, (((((wr.setCell ⟨WR.heap.size, 1, none⟩ (.int .i64 t2.s)).setCell ⟨WR.heap.size, 2, none⟩ (.int .i64 t2.a)).setCell ⟨WR.heap.size, 3, none⟩ (.int .i64 t2.b)).setCell ⟨WR.heap.size, 5, none⟩ (.int .i64 t2.r)).setCell ⟨WR.heap.size, 6, none⟩ (.int .i64 t2.l)).drew = x := ⟨_, rfl⟩
                rw [hW6] at h36 e36 HP6 HG6 ⊢
                clear hW6
                have hp7 := HP6.out
                have hg7 := HG6.out
                have p0 := hp7.cell 0
                have p1 := hp7.cell 1
                have p2 := hp7.cell 2
                have p3 := hp7.cell 3
                have p4 := hp7.cell 4
                have p5 := hp7.cell 5
                have p6 := hp7.cell 6
                have f4 := hp7.frozen 4
                simp at p0 p1 p2 p3 p4 p5 p6
                have hg8 := hg7
                have HG8 := Lib.hid hg8
                obtain ⟨Av, cv, rfl, hcv⟩ := own_slice hg8.own
                have m4 := hg7.mb.cell 4
                have mlt := hg7.mb.lt
                have plt6 := hp7.lt
                have hgs := hg8.res.lt
                simp [mdC] at m4
                have hal := HAL.out
                have hal255 : acc.length ≤ 255 := by omega
                have hn5 : ¬ (WR.heap.size = w.heap.size + 1) := by omega
                have hn6 : ¬ (w.heap.size + 1 = WR.heap.size) := by omega
                clear hp7 hg7 hg8 hcv hal 
                go_wp2_with (at_builtin; refine wpList_appS2 tPts rfl (.tmp 132) (.tmp 134) rfl w.heap.size _ acc.length _ rfl HG8.out.own #[.int .u8 t2.k, .int .i64 t2.s, .int .i64 t2.a, .int .i64 t2.b, .int .i64 t2.c, .int .i64 t2.r, .int .i64 t2.l] rfl HT1.out _ rfl rfl (by omega) (by unfold maxLen; omega) (Nat.le_of_lt HG8.out.res.lt) ?_; intro v7 w7 o7 hg7 hb7; have hm7 := HG8.out.mb.grown HG8.out.own (by decide) hg7; have k4 := hm7.cell 4; have fz4 := hm7.frozen 4; simp [mdC] at k4; have HG7 := Lib.hid hg7; have HO7 := Lib.hid o7; have HB7 := Lib.hid hb7; obtain ⟨A7, c7, rfl, hc7⟩ := own_slice o7; clear hg7 o7 hb7 hm7 hc7)
                go_roundw
                case rel =>
                  refine ⟨q + 1, a2, _, acc ++ [t2], by omega, by omega, by go_num, by go_num, HG8.out.grow hgm HAA.out HG7.out HO7.out HB7.out, ?_, ?_⟩
                  · have hm := HM.out
                    rw [show X4 - (q + 1) = m by omega]
                    exact HPT6.out
                  · have := HAL.out; simp; omega
                case measure => simp [intOf]; omega
              · have HHH : Hid (hasK k 4 = true) := Lib.hid hH
                rw [hH] at h3 hc3
                have hc4 : t2.c = V4 - 2048 := by simpa using hc3
                have HC4 := Lib.hid hc4
                have wc : IntKind.i64.wrap (V4 - 2048) = V4 - 2048 := IntWalk.i64_in _ (by omega)
                have ht1 : ∀ u ∈ (#[.int .u8 t2.k, .int .i64 t2.s, .int .i64 t2.a, .int .i64 t2.b, .int .i64 (V4 - 2048), .int .i64 t2.r, .int .i64 t2.l] : Array Value).toList, u.oneCell' = true := by rw [← hc4]; exact t2.cells_one
                have HT1 := Lib.hid ht1
                clear hvr ht1
                have pe : (ptZ k).cells.toArray = #[.int .u8 t2.k, .int .i64 0, .int .i64 0, .int .i64 0, .int .i64 0, .int .i64 0, .int .i64 0] := by rw [hfi6.kind]; rfl
                have hpp := hp2
                rw [pe] at hpp
                have p0 := hpp.cell 0
                have p1 := hpp.cell 1
                have p2 := hpp.cell 2
                have p3 := hpp.cell 3
                have p4 := hpp.cell 4
                have p5 := hpp.cell 5
                have p6 := hpp.cell 6
                simp at p0 p1 p2 p3 p4 p5 p6
                have f1 := hpp.frozen 1
                have f2 := hpp.frozen 2
                have f3 := hpp.frozen 3
                have f4 := hpp.frozen 4
                have f5 := hpp.frozen 5
                have f6 := hpp.frozen 6
                have h55 := p_five hpp (.int .i64 t2.s) (.int .i64 t2.a) (.int .i64 t2.b) (.int .i64 t2.r) (.int .i64 t2.l)
                have hp6 := h55.1.drew
                have hg6 := (hg2.far HAA.out (by omega) (by omega) (fun e => by have := HVB.out _ e; omega) h55.2).drew
                have hh6 := (hh2.frm h55.2 (by omega)).drew
                have hv6 := (hv2.frm h55.2 (by omega)).drew
                have h36 := hh6.cell 3
                rw [has_at k 3 (by omega), HHH.out] at h36
                have e36 := hv6.cell 3
                rw [vqs_at 3 (by omega), hV4] at e36
                have HP6 := Lib.hid hp6
                have HG6 := Lib.hid hg6
                have HPT6 := Lib.hid hpt6
                have glt := hp2.lt
                clear hu66 hfi hfi6 hfq hpt6 hv2 hh2 hp2 hpp hg2 hH hc3 hV4 pe HPT3 HVQ h55 hp6 hg6 hh6 hv6 hc4 h3 
                go_wp2_with fail
                go_region_held3 (fun w' => w'.cell? ⟨w2.heap.size + 1, 0, none⟩ = some (.int .i64 t2.s) ∧ w'.cell? ⟨w2.heap.size + 1, 1, none⟩ = some (.int .i64 t2.a) ∧ w'.cell? ⟨w2.heap.size + 1, 2, none⟩ = some (.int .i64 t2.b) ∧ w'.cell? ⟨w2.heap.size + 1, 4, none⟩ = some (.int .i64 t2.r) ∧ w'.cell? ⟨w2.heap.size + 1, 5, none⟩ = some (.int .i64 t2.l)) (go_keep) (fail)
                rename_i hHeld
                clear hHeld e0 e1 e2 e3 e4 e5 p0 p1 p2 p3 p4 p5 p6 f1 f2 f3 f4 f5 f6
                obtain ⟨W6, hW6⟩ : ∃ x, (((((wr.setCell ⟨WR.heap.size, 1, none⟩ (.int .i64 t2.s)).setCell ⟨WR.heap.size, 2, none⟩ (.int .i64 t2.a)).setCell ⟨WR.heap.size, 3, none⟩ (.int .i64 t2.b)).setCell ⟨WR.heap.size, 5, none⟩ (.int .i64 t2.r)).setCell ⟨WR.heap.size, 6, none⟩ (.int .i64 t2.l)).drew = x := ⟨_, rfl⟩
                rw [hW6] at h36 e36 HP6 HG6 ⊢
                clear hW6
                have hp7 := HP6.out
                have hg7 := HG6.out
                have p0 := hp7.cell 0
                have p1 := hp7.cell 1
                have p2 := hp7.cell 2
                have p3 := hp7.cell 3
                have p4 := hp7.cell 4
                have p5 := hp7.cell 5
                have p6 := hp7.cell 6
                have f4 := hp7.frozen 4
                simp at p0 p1 p2 p3 p4 p5 p6
                have hfs : Frm (fun k => k = WR.heap.size) W6 (W6.setCell ⟨WR.heap.size, 4, none⟩ (.int .i64 (V4 - 2048))) := Frm.setCell (S := fun k => k = WR.heap.size) (p := ⟨WR.heap.size, 4, none⟩) (Frm.refl _ _) (fun _ => rfl) _
                have hg8 := hg7.far HAA.out (by omega) (by omega) (fun e => by have := HVB.out _ e; omega) hfs
                obtain ⟨W7, hW7⟩ : ∃ x, W6.setCell ⟨WR.heap.size, 4, none⟩ (.int .i64 (V4 - 2048)) = x := ⟨_, rfl⟩
                have hp8 := hp7.set 4 (.int .i64 (V4 - 2048))
                rw [hW7] at hp8 hg8
                have s0 := hp8.cell 0
                have s1 := hp8.cell 1
                have s2 := hp8.cell 2
                have s3 := hp8.cell 3
                have s4 := hp8.cell 4
                have s5 := hp8.cell 5
                have s6 := hp8.cell 6
                simp at s0 s1 s2 s3 s4 s5 s6
                have HG8 := Lib.hid hg8
                obtain ⟨Av, cv, rfl, hcv⟩ := own_slice hg8.own
                have m4 := hg8.mb.cell 4
                have mlt := hg7.mb.lt
                have plt6 := hp7.lt
                have hgs := hg8.res.lt
                simp [mdC] at m4
                have hal := HAL.out
                have hal255 : acc.length ≤ 255 := by omega
                have hn5 : ¬ (WR.heap.size = w.heap.size + 1) := by omega
                have hn6 : ¬ (w.heap.size + 1 = WR.heap.size) := by omega
                clear hp7 hg7 hg8 hcv hal hfs hp8 p0 p1 p2 p3 p5 p6
                go_wp2_with (at_builtin; refine wpList_appS2 tPts rfl (.tmp 132) (.tmp 134) rfl w.heap.size _ acc.length _ rfl HG8.out.own #[.int .u8 t2.k, .int .i64 t2.s, .int .i64 t2.a, .int .i64 t2.b, .int .i64 (V4 - 2048), .int .i64 t2.r, .int .i64 t2.l] rfl HT1.out _ rfl rfl (by omega) (by unfold maxLen; omega) (Nat.le_of_lt HG8.out.res.lt) ?_; intro v7 w7 o7 hg7 hb7; have hm7 := HG8.out.mb.grown HG8.out.own (by decide) hg7; have k4 := hm7.cell 4; have fz4 := hm7.frozen 4; simp [mdC] at k4; have HG7 := Lib.hid hg7; have HO7 := Lib.hid o7; have HB7 := Lib.hid hb7; obtain ⟨A7, c7, rfl, hc7⟩ := own_slice o7; clear hg7 o7 hb7 hm7 hc7)
                go_roundw
                case rel =>
                  refine ⟨q + 1, a2, _, acc ++ [t2], by omega, by omega, by go_num, by go_num, HG8.out.grow hgm HAA.out HG7.out (by have h := HO7.out; rw [← HC4.out] at h; exact h) HB7.out, ?_, ?_⟩
                  · have hm := HM.out
                    rw [show X4 - (q + 1) = m by omega]
                    exact HPT6.out
                  · have := HAL.out; simp; omega
                case measure => simp [intOf]; omega
      · have hae : a = n := by omega
        have hge : decide ((n : Int) ≤ (a : Int)) = true := by simp; omega
        rw [nx1_end bs a (by have := HN.out; omega)] at hpt2
        simp only at hpt2
        have HE : Hid (R = (Md.zero, 0, 12)) := Lib.hid (by
          have h2 := HDEF.out
          rw [← hpt2] at h2
          exact h2)
        have z0 := hgr.res.cell 0
        have y0 := hgr.res.frozen 0
        have z1 := hgr.res.cell 1
        have y1 := hgr.res.frozen 1
        have z2 := hgr.res.cell 2
        have y2 := hgr.res.frozen 2
        have z3 := hgr.res.cell 3
        have y3 := hgr.res.frozen 3
        have z4 := hgr.res.cell 4
        have y4 := hgr.res.frozen 4
        have z5 := hgr.res.cell 5
        have y5 := hgr.res.frozen 5
        have z6 := hgr.res.cell 6
        have y6 := hgr.res.frozen 6
        simp [mdC] at z0 z1 z2 z3 z4 z5 z6
        clear hpt hpt2 hal hgr hae hm
        go_wp2_with fail
        rw [HE.out]
        have hblk0 := (blk_seven HGR.out.res (.int .i64 0) (.int .i64 0) (.int .i64 0) (.int .i64 0) (.slice none 0 0) (.slice none 0 0) (.slice none 0 0))
        have hlow0 := (below_zero HGR.out.low (Nat.le_refl _) (.int .i64 0) (.int .i64 0) (.int .i64 0) (.int .i64 0) (.slice none 0 0) (.slice none 0 0) (.slice none 0 0))
        have hmod := zero_model w _ 12 hlow0
        have hblk := hblk0
        clear z0 z1 z2 z3 z4 z5 z6 y0 y1 y2 y3 y4 y5 y6 hblk0 hlow0
        obtain ⟨WE, hWE⟩ : ∃ x, (((((((WR.setCell ⟨w.heap.size, 0, none⟩ (.int .i64 0)).setCell ⟨w.heap.size, 1, none⟩ (.int .i64 0)).setCell ⟨w.heap.size, 2, none⟩ (.int .i64 0)).setCell ⟨w.heap.size, 3, none⟩ (.int .i64 0)).setCell ⟨w.heap.size, 4, none⟩ (.slice none 0 0)).setCell ⟨w.heap.size, 5, none⟩ (.slice none 0 0)).setCell ⟨w.heap.size, 6, none⟩ (.slice none 0 0)) = x := ⟨_, rfl⟩
        rw [hWE] at hblk hmod ⊢
        have r0 := hblk.cell 0
        have r1 := hblk.cell 1
        have r2 := hblk.cell 2
        have r3 := hblk.cell 3
        have r4 := hblk.cell 4
        have r5 := hblk.cell 5
        have r6 := hblk.cell 6
        simp at r0 r1 r2 r3 r4 r5 r6
        exact bodyPost_ret (v := .tuple #[mdV 0 0 0 0 (.slice none 0 0) (.slice none 0 0) (.slice none 0 0), .int .i64 0, .int .i64 12]) (by simp [results, Try.results38, go_sem, mdV, r0, r1, r2, r3, r4, r5, r6]) rfl hmod
    · obtain rfl : q = X4 := by omega
      rw [Nat.sub_self, partsG] at hpt
      have hdef := HDEF.out
      rw [← hpt] at hdef
      simp only at hdef
      have HDF := Lib.hid hdef
      have qlt : decide ((q : Int) < (q : Int)) = false := by simp
      clear hpt hdef
      have HG1 := Lib.hid HGR.out
      clear hgr hal
      go_wp2_with fail
      go_loopw [6, 15] (fun s6 s15 wr => ∃ (p a1 : Nat) (vc vp : Value), a1 ≤ n ∧ s15 = .int .i64 p ∧ s6 = .int .i64 a1 ∧ GR w.heap.size (w.heap.size + 1) bs (some ⟨b0, off0, none⟩) x0 x1 x2 x3 w v vc vp acc wr ∧ TailP bs a p a1 vc vp (w.heap.size + 2) wr) (fun _ i _ => 2 - (intOf i).toNat)
      case atStart => exact ⟨0, a, _, _, ha, by go_num, by go_num, HG1.out, .inl ⟨rfl, rfl, rfl, rfl⟩⟩
      case round =>
        obtain ⟨p, a1, vc, vp, ha1, rfl, rfl, hg, ht⟩ := hrel
        rcases ht with ⟨rfl, rfl, rfl, rfl⟩ | ⟨rfl, rfl, C, hC, hCl, hCo⟩ | ⟨rfl, C, D, a', hC, hD, hCl, hDl, hCo, hDo⟩
        · skip
          by_cases h2 : a1 + 2 ≤ n
          · have gsh : decide ((n : Int) < (a1 : Int) + 2) = false := by simp; omega
            have bc0 := byte_at hg.rd (a := a1) (by have := HN.out; omega)
            have bc1 := byte_at hg.rd (a := a1 + 1) (by have := HN.out; omega)
            have q0 := HO.out.getD a1
            have q1 := HO.out.getD (a1 + 1)
            obtain ⟨K, hK⟩ : ∃ K : Nat, bs.getD a1 0 * 256 + bs.getD (a1 + 1) 0 = (K : Int) := ⟨(bs.getD a1 0 * 256 + bs.getD (a1 + 1) 0).toNat, by omega⟩
            have HK0 := Lib.hid hK
            obtain ⟨y, hy⟩ : ∃ y, bs.getD a1 0 = y := ⟨_, rfl⟩
            obtain ⟨z, hz⟩ : ∃ z, bs.getD (a1 + 1) 0 = z := ⟨_, rfl⟩
            rw [hy] at bc0 q0 hK
            rw [hz] at bc1 q1 hK
            have wy : IntKind.i64.wrap y = y := IntWalk.i64_in _ (by omega)
            have wz : IntKind.i64.wrap z = z := IntWalk.i64_in _ (by omega)
            have wyy : IntKind.i64.wrap (y * 256) = y * 256 := IntWalk.i64_in _ (by omega)
            have HK := Lib.hid hK
            have HG := Lib.hid hg
            have hai : (a1 : Int) < (n : Int) := by omega
            have hain : a1 < n := by omega
            have hai2 : (a1 : Int) + 1 < (n : Int) := by omega
            have hain2 : a1 + 1 < n := by omega
            have htn : ((a1 : Int) + 1).toNat = a1 + 1 := by omega
            clear hK hy hz hg
            go_wp2_with fail
            go_region
            all_goals
              rw [HK.out]
              by_cases h3 : a1 + 2 + K ≤ n
              · have gs3 : decide ((n : Int) < (a1 : Int) + 2 + (K : Int)) = false := by simp; omega
                have hsc : (a1 : Int) + 2 + (K : Int) ≤ (c : Int) := by omega
                have hna : (a1 : Int) + 2 + (K : Int) ≤ 1000000000 := by omega
                clear bc0 bc1 wy wz wyy hai hain hai2 hain2 htn gsh
                have hrdK : Rd wr (some ⟨b0, off0 + (a1 + 2), none⟩) (octs ((bs.drop (a1 + 2)).take K)) := by
                  have h := (HG.out.rd.drop (a1 + 2)).take K
                  unfold octs at h ⊢
                  rw [← List.map_drop, ← List.map_take] at h
                  exact h
                have hlC : ((bs.drop (a1 + 2)).take K).length = K := by rw [List.length_take, List.length_drop]; have := HN.out; omega
                have ze0 : 0 + (a1 + 2 + K - (a1 + 2)) = K := by omega
                have hlK : a1 + 2 + K - (a1 + 2) = (octs ((bs.drop (a1 + 2)).take K)).length := by rw [octs_length, hlC]; omega
                have HLC := Lib.hid hlC
                have HRK := Lib.hid hrdK
                have HLK := Lib.hid hlK
                have hK6 : K ≤ 65535 := by have := HK.out; omega
                have hgl := HG.out.mb.lt
                clear hrdK hlK hlC
                have HOL := Lib.hid (own_drew (own_lit (w := wr) (g := wr.heap.size) rfl (show w.heap.size + 2 ≤ wr.heap.size by omega)))
                by_cases hcc : c = a1 + 2
                · have hcz : c - (a1 + 2) = 0 := by omega
                  have hke : octs ((bs.drop (a1 + 2)).take K) = [] := by rw [show K = 0 by omega]; rfl
                  have HKE := Lib.hid hke
                  clear hke hcc
                  go_wp2_with (at_builtin; go_must (refine wpList_app tBytes rfl (.tmp 171) (.tmp 177) rfl (w.heap.size + 2) _ 0 [] rfl HOL.out _ (a1 + 2 + K - (a1 + 2)) _ _ rfl HLK.out (by rw [HKE.out]; exact Rd.nil _ _) (octs_one _) (by omega) (by unfold maxLen; omega) (by simp; omega) ?_); intro v7 w7 o7 hg7 hb7; have HB7 := Lib.hid (app_below _ hg7); have HG7 := Lib.hid (HG.out.below HB7.out); have hm7 := HG7.out.mb; have k5 := hm7.cell 5; have fz5 := hm7.frozen 5; simp [mdC] at k5; rw [ze0, List.nil_append] at o7; have HO7 := Lib.hid o7; obtain ⟨A7, c7, rfl, hc7⟩ := own_slice o7; clear hg7 o7 hb7 hm7 hc7)
                  go_roundw
                  case rel =>
                    exact ⟨1, a1 + 2 + K, (.slice A7 K c7), (.slice none 0 0), h3, by go_num, by go_num, HG7.out.put hgm HAA.out 5 (.slice A7 K c7) (.slice A7 K c7) (.slice none 0 0) rfl, .inr (.inl ⟨rfl, rfl, (bs.drop (a1 + 2)).take K, code_at bs a1 K (by have := HN.out; omega) HK0.out (by have := HN.out; omega), by rw [HLC.out]; omega, by rw [HLC.out]; exact ((Frm.setCell (S := fun k => k = w.heap.size + 1) (p := ⟨w.heap.size + 1, 5, none⟩) (Frm.refl _ _) (fun _ => rfl) _)).own HO7.out (fun k hk e => by have := own_ge HO7.out k hk; omega)⟩)⟩
                  case measure => simp [intOf]
                · have hcz : ¬ (c - (a1 + 2) = 0) := by omega
                  go_wp2_with (at_builtin; go_must (refine wpList_app tBytes rfl (.tmp 171) (.tmp 177) rfl (w.heap.size + 2) _ 0 [] rfl HOL.out _ (a1 + 2 + K - (a1 + 2)) _ _ rfl HLK.out (by first | exact (HRK.out.alloc _).drew | (rw [if_neg hcc]; exact (HRK.out.alloc _).drew)) (octs_one _) (by omega) (by unfold maxLen; omega) (by simp; omega) ?_); intro v7 w7 o7 hg7 hb7; have HB7 := Lib.hid (app_below _ hg7); have HG7 := Lib.hid (HG.out.below HB7.out); have hm7 := HG7.out.mb; have k5 := hm7.cell 5; have fz5 := hm7.frozen 5; simp [mdC] at k5; rw [ze0, List.nil_append] at o7; have HO7 := Lib.hid o7; obtain ⟨A7, c7, rfl, hc7⟩ := own_slice o7; clear hg7 o7 hb7 hm7 hc7)
                  go_roundw
                  case rel =>
                    exact ⟨1, a1 + 2 + K, (.slice A7 K c7), (.slice none 0 0), h3, by go_num, by go_num, HG7.out.put hgm HAA.out 5 (.slice A7 K c7) (.slice A7 K c7) (.slice none 0 0) rfl, .inr (.inl ⟨rfl, rfl, (bs.drop (a1 + 2)).take K, code_at bs a1 K (by have := HN.out; omega) HK0.out (by have := HN.out; omega), by rw [HLC.out]; omega, by rw [HLC.out]; exact ((Frm.setCell (S := fun k => k = w.heap.size + 1) (p := ⟨w.heap.size + 1, 5, none⟩) (Frm.refl _ _) (fun _ => rfl) _)).own HO7.out (fun k hk e => by have := own_ge HO7.out k hk; omega)⟩)⟩
                  case measure => simp [intOf]
              · have gs3 : decide ((n : Int) < (a1 : Int) + 2 + (K : Int)) = true := by simp; omega
                have hK6 : K ≤ 65535 := by have := HK.out; omega
                have hna : (a1 : Int) + 2 + (K : Int) ≤ 2000000000 := by omega
                have hno := code_long bs a1 K (by have := HN.out; omega) HK0.out (by have := HN.out; omega)
                have hg := HG.out
                have HE : Hid (R = (Md.zero, 0, 12)) := Lib.hid (HDF.out.trans (end_none1 bs _ _ acc hno))
                have z0 := hg.res.cell 0
                have y0 := hg.res.frozen 0
                have z1 := hg.res.cell 1
                have y1 := hg.res.frozen 1
                have z2 := hg.res.cell 2
                have y2 := hg.res.frozen 2
                have z3 := hg.res.cell 3
                have y3 := hg.res.frozen 3
                have z4 := hg.res.cell 4
                have y4 := hg.res.frozen 4
                have z5 := hg.res.cell 5
                have y5 := hg.res.frozen 5
                have z6 := hg.res.cell 6
                have y6 := hg.res.frozen 6
                simp [mdC] at z0 z1 z2 z3 z4 z5 z6
                clear hg
                clear bc0 bc1 wy wz wyy hai hain hai2 hain2 htn gsh
                go_wp2_with fail
                rw [HE.out]
                have hblk0 := (blk_seven HG.out.res (.int .i64 0) (.int .i64 0) (.int .i64 0) (.int .i64 0) (.slice none 0 0) (.slice none 0 0) (.slice none 0 0))
                have hlow0 := (below_zero HG.out.low (Nat.le_refl _) (.int .i64 0) (.int .i64 0) (.int .i64 0) (.int .i64 0) (.slice none 0 0) (.slice none 0 0) (.slice none 0 0))
                have hblk1 := hblk0.drew
                have hlow1 := Below.drew' hlow0
                have hmod := zero_model w _ 12 hlow1
                have hblk := hblk1
                clear z0 z1 z2 z3 z4 z5 z6 y0 y1 y2 y3 y4 y5 y6 hblk0 hlow0 hblk1 hlow1
                obtain ⟨WE, hWE⟩ : ∃ x, (((((((wr.setCell ⟨w.heap.size, 0, none⟩ (.int .i64 0)).setCell ⟨w.heap.size, 1, none⟩ (.int .i64 0)).setCell ⟨w.heap.size, 2, none⟩ (.int .i64 0)).setCell ⟨w.heap.size, 3, none⟩ (.int .i64 0)).setCell ⟨w.heap.size, 4, none⟩ (.slice none 0 0)).setCell ⟨w.heap.size, 5, none⟩ (.slice none 0 0)).setCell ⟨w.heap.size, 6, none⟩ (.slice none 0 0)).drew = x := ⟨_, rfl⟩
                rw [hWE] at hblk hmod ⊢
                have r0 := hblk.cell 0
                have r1 := hblk.cell 1
                have r2 := hblk.cell 2
                have r3 := hblk.cell 3
                have r4 := hblk.cell 4
                have r5 := hblk.cell 5
                have r6 := hblk.cell 6
                simp at r0 r1 r2 r3 r4 r5 r6
                exact bodyPost_ret (v := .tuple #[mdV 0 0 0 0 (.slice none 0 0) (.slice none 0 0) (.slice none 0 0), .int .i64 0, .int .i64 12]) (by simp [results, Try.results38, go_sem, mdV, r0, r1, r2, r3, r4, r5, r6]) rfl hmod
          · have gsh : decide ((n : Int) < (a1 : Int) + 2) = true := by simp; omega
            have hno := code_short bs a1 (by have := HN.out; omega)
            have HE : Hid (R = (Md.zero, 0, 12)) := Lib.hid (HDF.out.trans (end_none1 bs _ _ acc hno))
            have z0 := hg.res.cell 0
            have y0 := hg.res.frozen 0
            have z1 := hg.res.cell 1
            have y1 := hg.res.frozen 1
            have z2 := hg.res.cell 2
            have y2 := hg.res.frozen 2
            have z3 := hg.res.cell 3
            have y3 := hg.res.frozen 3
            have z4 := hg.res.cell 4
            have y4 := hg.res.frozen 4
            have z5 := hg.res.cell 5
            have y5 := hg.res.frozen 5
            have z6 := hg.res.cell 6
            have y6 := hg.res.frozen 6
            simp [mdC] at z0 z1 z2 z3 z4 z5 z6
            have HG := Lib.hid hg
            clear hg
            go_wp2_with fail
            rw [HE.out]
            have hblk0 := (blk_seven HG.out.res (.int .i64 0) (.int .i64 0) (.int .i64 0) (.int .i64 0) (.slice none 0 0) (.slice none 0 0) (.slice none 0 0))
            have hlow0 := (below_zero HG.out.low (Nat.le_refl _) (.int .i64 0) (.int .i64 0) (.int .i64 0) (.int .i64 0) (.slice none 0 0) (.slice none 0 0) (.slice none 0 0))
            have hmod := zero_model w _ 12 hlow0
            have hblk := hblk0
            clear z0 z1 z2 z3 z4 z5 z6 y0 y1 y2 y3 y4 y5 y6 hblk0 hlow0
            obtain ⟨WE, hWE⟩ : ∃ x, (((((((wr.setCell ⟨w.heap.size, 0, none⟩ (.int .i64 0)).setCell ⟨w.heap.size, 1, none⟩ (.int .i64 0)).setCell ⟨w.heap.size, 2, none⟩ (.int .i64 0)).setCell ⟨w.heap.size, 3, none⟩ (.int .i64 0)).setCell ⟨w.heap.size, 4, none⟩ (.slice none 0 0)).setCell ⟨w.heap.size, 5, none⟩ (.slice none 0 0)).setCell ⟨w.heap.size, 6, none⟩ (.slice none 0 0)) = x := ⟨_, rfl⟩
            rw [hWE] at hblk hmod ⊢
            have r0 := hblk.cell 0
            have r1 := hblk.cell 1
            have r2 := hblk.cell 2
            have r3 := hblk.cell 3
            have r4 := hblk.cell 4
            have r5 := hblk.cell 5
            have r6 := hblk.cell 6
            simp at r0 r1 r2 r3 r4 r5 r6
            exact bodyPost_ret (v := .tuple #[mdV 0 0 0 0 (.slice none 0 0) (.slice none 0 0) (.slice none 0 0), .int .i64 0, .int .i64 12]) (by simp [results, Try.results38, go_sem, mdV, r0, r1, r2, r3, r4, r5, r6]) rfl hmod
        · have HC := Lib.hid hC
          have HCL := Lib.hid hCl
          have HCO := Lib.hid hCo
          clear hC hCl hCo
          by_cases h2 : a1 + 2 ≤ n
          · have gsh : decide ((n : Int) < (a1 : Int) + 2) = false := by simp; omega
            have bc0 := byte_at hg.rd (a := a1) (by have := HN.out; omega)
            have bc1 := byte_at hg.rd (a := a1 + 1) (by have := HN.out; omega)
            have q0 := HO.out.getD a1
            have q1 := HO.out.getD (a1 + 1)
            obtain ⟨K, hK⟩ : ∃ K : Nat, bs.getD a1 0 * 256 + bs.getD (a1 + 1) 0 = (K : Int) := ⟨(bs.getD a1 0 * 256 + bs.getD (a1 + 1) 0).toNat, by omega⟩
            have HK0 := Lib.hid hK
            obtain ⟨y, hy⟩ : ∃ y, bs.getD a1 0 = y := ⟨_, rfl⟩
            obtain ⟨z, hz⟩ : ∃ z, bs.getD (a1 + 1) 0 = z := ⟨_, rfl⟩
            rw [hy] at bc0 q0 hK
            rw [hz] at bc1 q1 hK
            have wy : IntKind.i64.wrap y = y := IntWalk.i64_in _ (by omega)
            have wz : IntKind.i64.wrap z = z := IntWalk.i64_in _ (by omega)
            have wyy : IntKind.i64.wrap (y * 256) = y * 256 := IntWalk.i64_in _ (by omega)
            have HK := Lib.hid hK
            have HG := Lib.hid hg
            have hai : (a1 : Int) < (n : Int) := by omega
            have hain : a1 < n := by omega
            have hai2 : (a1 : Int) + 1 < (n : Int) := by omega
            have hain2 : a1 + 1 < n := by omega
            have htn : ((a1 : Int) + 1).toNat = a1 + 1 := by omega
            clear hK hy hz hg
            go_wp2_with fail
            go_region
            all_goals
              rw [HK.out]
              by_cases h3 : a1 + 2 + K ≤ n
              · have gs3 : decide ((n : Int) < (a1 : Int) + 2 + (K : Int)) = false := by simp; omega
                have hsc : (a1 : Int) + 2 + (K : Int) ≤ (c : Int) := by omega
                have hna : (a1 : Int) + 2 + (K : Int) ≤ 1000000000 := by omega
                clear bc0 bc1 wy wz wyy hai hain hai2 hain2 htn gsh
                have hrdK : Rd wr (some ⟨b0, off0 + (a1 + 2), none⟩) (octs ((bs.drop (a1 + 2)).take K)) := by
                  have h := (HG.out.rd.drop (a1 + 2)).take K
                  unfold octs at h ⊢
                  rw [← List.map_drop, ← List.map_take] at h
                  exact h
                have hlC : ((bs.drop (a1 + 2)).take K).length = K := by rw [List.length_take, List.length_drop]; have := HN.out; omega
                have ze0 : 0 + (a1 + 2 + K - (a1 + 2)) = K := by omega
                have hlK : a1 + 2 + K - (a1 + 2) = (octs ((bs.drop (a1 + 2)).take K)).length := by rw [octs_length, hlC]; omega
                have HLC := Lib.hid hlC
                have HRK := Lib.hid hrdK
                have HLK := Lib.hid hlK
                have hK6 : K ≤ 65535 := by have := HK.out; omega
                have hgl := HG.out.mb.lt
                clear hrdK hlK hlC
                have HOL := Lib.hid (own_drew (own_lit (w := wr) (g := wr.heap.size) rfl (show w.heap.size + 2 ≤ wr.heap.size by omega)))
                by_cases hcc : c = a1 + 2
                · have hcz : c - (a1 + 2) = 0 := by omega
                  have hke : octs ((bs.drop (a1 + 2)).take K) = [] := by rw [show K = 0 by omega]; rfl
                  have HKE := Lib.hid hke
                  clear hke hcc
                  go_wp2_with (at_builtin; go_must (refine wpList_app tBytes rfl (.tmp 180) (.tmp 186) rfl (w.heap.size + 2) _ 0 [] rfl HOL.out _ (a1 + 2 + K - (a1 + 2)) _ _ rfl HLK.out (by rw [HKE.out]; exact Rd.nil _ _) (octs_one _) (by omega) (by unfold maxLen; omega) (by simp; omega) ?_); intro v7 w7 o7 hg7 hb7; have HB7 := Lib.hid (app_below _ hg7); have HG7 := Lib.hid (HG.out.below HB7.out); have hm7 := HG7.out.mb; have k5 := hm7.cell 6; have fz5 := hm7.frozen 6; simp [mdC] at k5; rw [ze0, List.nil_append] at o7; have HO7 := Lib.hid o7; obtain ⟨A7, c7, rfl, hc7⟩ := own_slice o7; clear hg7 o7 hb7 hm7 hc7)
                  go_roundw
                  case rel =>
                    exact ⟨2, a1 + 2 + K, vc, (.slice A7 K c7), h3, by go_num, by go_num, HG7.out.put hgm HAA.out 6 (.slice A7 K c7) vc (.slice A7 K c7) rfl, .inr (.inr ⟨rfl, C, (bs.drop (a1 + 2)).take K, a1, HC.out, code_at bs a1 K (by have := HN.out; omega) HK0.out (by have := HN.out; omega), HCL.out, by rw [HLC.out]; omega, ((Frm.setCell (S := fun k => k = w.heap.size + 1) (p := ⟨w.heap.size + 1, 6, none⟩) (Frm.refl _ _) (fun _ => rfl) _)).own (own_below HCO.out HB7.out) (fun k hk e => by have := own_ge HCO.out k hk; omega), by rw [HLC.out]; exact ((Frm.setCell (S := fun k => k = w.heap.size + 1) (p := ⟨w.heap.size + 1, 6, none⟩) (Frm.refl _ _) (fun _ => rfl) _)).own HO7.out (fun k hk e => by have := own_ge HO7.out k hk; omega)⟩)⟩
                  case measure => simp [intOf]
                · have hcz : ¬ (c - (a1 + 2) = 0) := by omega
                  go_wp2_with (at_builtin; go_must (refine wpList_app tBytes rfl (.tmp 180) (.tmp 186) rfl (w.heap.size + 2) _ 0 [] rfl HOL.out _ (a1 + 2 + K - (a1 + 2)) _ _ rfl HLK.out (by first | exact (HRK.out.alloc _).drew | (rw [if_neg hcc]; exact (HRK.out.alloc _).drew)) (octs_one _) (by omega) (by unfold maxLen; omega) (by simp; omega) ?_); intro v7 w7 o7 hg7 hb7; have HB7 := Lib.hid (app_below _ hg7); have HG7 := Lib.hid (HG.out.below HB7.out); have hm7 := HG7.out.mb; have k5 := hm7.cell 6; have fz5 := hm7.frozen 6; simp [mdC] at k5; rw [ze0, List.nil_append] at o7; have HO7 := Lib.hid o7; obtain ⟨A7, c7, rfl, hc7⟩ := own_slice o7; clear hg7 o7 hb7 hm7 hc7)
                  go_roundw
                  case rel =>
                    exact ⟨2, a1 + 2 + K, vc, (.slice A7 K c7), h3, by go_num, by go_num, HG7.out.put hgm HAA.out 6 (.slice A7 K c7) vc (.slice A7 K c7) rfl, .inr (.inr ⟨rfl, C, (bs.drop (a1 + 2)).take K, a1, HC.out, code_at bs a1 K (by have := HN.out; omega) HK0.out (by have := HN.out; omega), HCL.out, by rw [HLC.out]; omega, ((Frm.setCell (S := fun k => k = w.heap.size + 1) (p := ⟨w.heap.size + 1, 6, none⟩) (Frm.refl _ _) (fun _ => rfl) _)).own (own_below HCO.out HB7.out) (fun k hk e => by have := own_ge HCO.out k hk; omega), by rw [HLC.out]; exact ((Frm.setCell (S := fun k => k = w.heap.size + 1) (p := ⟨w.heap.size + 1, 6, none⟩) (Frm.refl _ _) (fun _ => rfl) _)).own HO7.out (fun k hk e => by have := own_ge HO7.out k hk; omega)⟩)⟩
                  case measure => simp [intOf]
              · have gs3 : decide ((n : Int) < (a1 : Int) + 2 + (K : Int)) = true := by simp; omega
                have hK6 : K ≤ 65535 := by have := HK.out; omega
                have hna : (a1 : Int) + 2 + (K : Int) ≤ 2000000000 := by omega
                have hno := code_long bs a1 K (by have := HN.out; omega) HK0.out (by have := HN.out; omega)
                have hg := HG.out
                have HE : Hid (R = (Md.zero, 0, 12)) := Lib.hid (HDF.out.trans (end_none2 bs _ _ acc (by rw [HC.out]; exact hno)))
                have z0 := hg.res.cell 0
                have y0 := hg.res.frozen 0
                have z1 := hg.res.cell 1
                have y1 := hg.res.frozen 1
                have z2 := hg.res.cell 2
                have y2 := hg.res.frozen 2
                have z3 := hg.res.cell 3
                have y3 := hg.res.frozen 3
                have z4 := hg.res.cell 4
                have y4 := hg.res.frozen 4
                have z5 := hg.res.cell 5
                have y5 := hg.res.frozen 5
                have z6 := hg.res.cell 6
                have y6 := hg.res.frozen 6
                simp [mdC] at z0 z1 z2 z3 z4 z5 z6
                clear hg
                clear bc0 bc1 wy wz wyy hai hain hai2 hain2 htn gsh
                go_wp2_with fail
                rw [HE.out]
                have hblk0 := (blk_seven HG.out.res (.int .i64 0) (.int .i64 0) (.int .i64 0) (.int .i64 0) (.slice none 0 0) (.slice none 0 0) (.slice none 0 0))
                have hlow0 := (below_zero HG.out.low (Nat.le_refl _) (.int .i64 0) (.int .i64 0) (.int .i64 0) (.int .i64 0) (.slice none 0 0) (.slice none 0 0) (.slice none 0 0))
                have hblk1 := hblk0.drew
                have hlow1 := Below.drew' hlow0
                have hmod := zero_model w _ 12 hlow1
                have hblk := hblk1
                clear z0 z1 z2 z3 z4 z5 z6 y0 y1 y2 y3 y4 y5 y6 hblk0 hlow0 hblk1 hlow1
                obtain ⟨WE, hWE⟩ : ∃ x, (((((((wr.setCell ⟨w.heap.size, 0, none⟩ (.int .i64 0)).setCell ⟨w.heap.size, 1, none⟩ (.int .i64 0)).setCell ⟨w.heap.size, 2, none⟩ (.int .i64 0)).setCell ⟨w.heap.size, 3, none⟩ (.int .i64 0)).setCell ⟨w.heap.size, 4, none⟩ (.slice none 0 0)).setCell ⟨w.heap.size, 5, none⟩ (.slice none 0 0)).setCell ⟨w.heap.size, 6, none⟩ (.slice none 0 0)).drew = x := ⟨_, rfl⟩
                rw [hWE] at hblk hmod ⊢
                have r0 := hblk.cell 0
                have r1 := hblk.cell 1
                have r2 := hblk.cell 2
                have r3 := hblk.cell 3
                have r4 := hblk.cell 4
                have r5 := hblk.cell 5
                have r6 := hblk.cell 6
                simp at r0 r1 r2 r3 r4 r5 r6
                exact bodyPost_ret (v := .tuple #[mdV 0 0 0 0 (.slice none 0 0) (.slice none 0 0) (.slice none 0 0), .int .i64 0, .int .i64 12]) (by simp [results, Try.results38, go_sem, mdV, r0, r1, r2, r3, r4, r5, r6]) rfl hmod
          · have gsh : decide ((n : Int) < (a1 : Int) + 2) = true := by simp; omega
            have hno := code_short bs a1 (by have := HN.out; omega)
            have HE : Hid (R = (Md.zero, 0, 12)) := Lib.hid (HDF.out.trans (end_none2 bs _ _ acc (by rw [HC.out]; exact hno)))
            have z0 := hg.res.cell 0
            have y0 := hg.res.frozen 0
            have z1 := hg.res.cell 1
            have y1 := hg.res.frozen 1
            have z2 := hg.res.cell 2
            have y2 := hg.res.frozen 2
            have z3 := hg.res.cell 3
            have y3 := hg.res.frozen 3
            have z4 := hg.res.cell 4
            have y4 := hg.res.frozen 4
            have z5 := hg.res.cell 5
            have y5 := hg.res.frozen 5
            have z6 := hg.res.cell 6
            have y6 := hg.res.frozen 6
            simp [mdC] at z0 z1 z2 z3 z4 z5 z6
            have HG := Lib.hid hg
            clear hg
            go_wp2_with fail
            rw [HE.out]
            have hblk0 := (blk_seven HG.out.res (.int .i64 0) (.int .i64 0) (.int .i64 0) (.int .i64 0) (.slice none 0 0) (.slice none 0 0) (.slice none 0 0))
            have hlow0 := (below_zero HG.out.low (Nat.le_refl _) (.int .i64 0) (.int .i64 0) (.int .i64 0) (.int .i64 0) (.slice none 0 0) (.slice none 0 0) (.slice none 0 0))
            have hmod := zero_model w _ 12 hlow0
            have hblk := hblk0
            clear z0 z1 z2 z3 z4 z5 z6 y0 y1 y2 y3 y4 y5 y6 hblk0 hlow0
            obtain ⟨WE, hWE⟩ : ∃ x, (((((((wr.setCell ⟨w.heap.size, 0, none⟩ (.int .i64 0)).setCell ⟨w.heap.size, 1, none⟩ (.int .i64 0)).setCell ⟨w.heap.size, 2, none⟩ (.int .i64 0)).setCell ⟨w.heap.size, 3, none⟩ (.int .i64 0)).setCell ⟨w.heap.size, 4, none⟩ (.slice none 0 0)).setCell ⟨w.heap.size, 5, none⟩ (.slice none 0 0)).setCell ⟨w.heap.size, 6, none⟩ (.slice none 0 0)) = x := ⟨_, rfl⟩
            rw [hWE] at hblk hmod ⊢
            have r0 := hblk.cell 0
            have r1 := hblk.cell 1
            have r2 := hblk.cell 2
            have r3 := hblk.cell 3
            have r4 := hblk.cell 4
            have r5 := hblk.cell 5
            have r6 := hblk.cell 6
            simp at r0 r1 r2 r3 r4 r5 r6
            exact bodyPost_ret (v := .tuple #[mdV 0 0 0 0 (.slice none 0 0) (.slice none 0 0) (.slice none 0 0), .int .i64 0, .int .i64 12]) (by simp [results, Try.results38, go_sem, mdV, r0, r1, r2, r3, r4, r5, r6]) rfl hmod
        · skip
          obtain ⟨Bv, cb, rfl, hcb⟩ := own_slice hCo
          obtain ⟨Dv, cd, rfl, hcd⟩ := own_slice hDo
          obtain ⟨Av, cv, rfl, hcv⟩ := own_slice hg.own
          have hdf := HDF.out.trans (endG_at bs x0 x1 x2 x3 _ acc _ C D a1 (by have := HN.out; omega) hC hD)
          have hal := HAL.out
          have hacc : acc.length ≤ 255 := by omega
          have hrt := right40 ⟨x0, x1, x2, x3, acc, C, D⟩ Av Bv Dv acc.length cv C.length cb D.length cd wr rfl rfl rfl (rd_own hg.own) (by omega) (by omega) (by omega)
          obtain ⟨T, hT⟩ : ∃ T, rightM ⟨x0, x1, x2, x3, acc, C, D⟩ = T := ⟨_, rfl⟩
          rw [hT] at hrt hdf
          have HRT := Lib.hid hrt
          have HDF2 := Lib.hid hdf
          have m0 := hg.mb.cell 0
          have m1 := hg.mb.cell 1
          have m2 := hg.mb.cell 2
          have m3 := hg.mb.cell 3
          have m4 := hg.mb.cell 4
          have m5 := hg.mb.cell 5
          have m6 := hg.mb.cell 6
          simp [mdC] at m0 m1 m2 m3 m4 m5 m6
          have HG := Lib.hid hg
          have HCO := Lib.hid hCo
          have HDO := Lib.hid hDo
          have hn5 : ¬ (w.heap.size + 1 = w.heap.size) := by omega
          have hn6 : ¬ (w.heap.size = w.heap.size + 1) := by omega
          clear hg hCo hDo hrt hdf hT hal hC hD
          go_wp2_with fail
          refine HRT.out.mono ?_
          rintro e w9 ⟨rfl, hb9⟩
          have HG9 := Lib.hid (HG.out.below hb9)
          have HC9 := Lib.hid (own_below HCO.out hb9)
          have HD9 := Lib.hid (own_below HDO.out hb9)
          have hg9 := HG9.out
          have z0 := hg9.res.cell 0
          have y0 := hg9.res.frozen 0
          have z1 := hg9.res.cell 1
          have y1 := hg9.res.frozen 1
          have z2 := hg9.res.cell 2
          have y2 := hg9.res.frozen 2
          have z3 := hg9.res.cell 3
          have y3 := hg9.res.frozen 3
          have z4 := hg9.res.cell 4
          have y4 := hg9.res.frozen 4
          have z5 := hg9.res.cell 5
          have y5 := hg9.res.frozen 5
          have z6 := hg9.res.cell 6
          have y6 := hg9.res.frozen 6
          simp [mdC] at z0 z1 z2 z3 z4 z5 z6
          clear hb9 m0 m1 m2 m3 m4 m5 m6 hg9
          by_cases hT0 : T = 0
          · subst hT0
            have HDF3 : Hid (R = (⟨x0, x1, x2, x3, acc, C, D⟩, (a1 : Int), 0)) := Lib.hid (by have := HDF2.out; rwa [if_pos rfl] at this)
            have hg9 := HG9.out
            have n0 := hg9.mb.cell 0
            have n1 := hg9.mb.cell 1
            have n2 := hg9.mb.cell 2
            have n3 := hg9.mb.cell 3
            have n4 := hg9.mb.cell 4
            have n5 := hg9.mb.cell 5
            have n6 := hg9.mb.cell 6
            simp [mdC] at n0 n1 n2 n3 n4 n5 n6
            clear hg9
            go_wp2_with fail
            rw [HDF3.out]
            have hfr := frm_seven (g := w.heap.size) w9 (.int .i64 x0) (.int .i64 x1) (.int .i64 x2) (.int .i64 x3) (.slice Av acc.length cv) (.slice Bv C.length cb) (.slice Dv D.length cd)
            have hown := hfr.own HG9.out.own (fun k hk e => HG9.out.res.apart HG9.out.own (by decide) _ hk e)
            have hba := own_base (b' := w.heap.size) (hfr.own HC9.out (fun k hk e => by have := own_ge HC9.out k hk; omega)) (by omega)
            have hbd := own_base (b' := w.heap.size) (hfr.own HD9.out (fun k hk e => by have := own_ge HD9.out k hk; omega)) (by omega)
            have hlow10 := below_zero HG9.out.low (Nat.le_refl _) (.int .i64 x0) (.int .i64 x1) (.int .i64 x2) (.int .i64 x3) (.slice Av acc.length cv) (.slice Bv C.length cb) (.slice Dv D.length cd)
            have hM : IsModel (⟨x0, x1, x2, x3, acc, C, D⟩, (a1 : Int), 0) w (.returned (.tuple #[mdV x0 x1 x2 x3 (.slice Av acc.length cv) (.slice Bv C.length cb) (.slice Dv D.length cd), .int .i64 (a1 : Int), .int .i64 0])) _ := ⟨⟨Av, Bv, Dv, cv, cb, cd, rfl, hcv, rd_own hown, hba, hbd⟩, hlow10⟩
            have hblk := blk_seven HG9.out.res (.int .i64 x0) (.int .i64 x1) (.int .i64 x2) (.int .i64 x3) (.slice Av acc.length cv) (.slice Bv C.length cb) (.slice Dv D.length cd)
            clear hfr hown hba hbd hlow10 z0 z1 z2 z3 z4 z5 z6 y0 y1 y2 y3 y4 y5 y6 n0 n1 n2 n3 n4 n5 n6
            obtain ⟨W11, hW11⟩ : ∃ x, (((((((w9.setCell ⟨w.heap.size, 0, none⟩ (.int .i64 x0)).setCell ⟨w.heap.size, 1, none⟩ (.int .i64 x1)).setCell ⟨w.heap.size, 2, none⟩ (.int .i64 x2)).setCell ⟨w.heap.size, 3, none⟩ (.int .i64 x3)).setCell ⟨w.heap.size, 4, none⟩ (.slice Av acc.length cv)).setCell ⟨w.heap.size, 5, none⟩ (.slice Bv C.length cb)).setCell ⟨w.heap.size, 6, none⟩ (.slice Dv D.length cd)) = x := ⟨_, rfl⟩
            rw [hW11] at hblk hM ⊢
            have r0 := hblk.cell 0
            have r1 := hblk.cell 1
            have r2 := hblk.cell 2
            have r3 := hblk.cell 3
            have r4 := hblk.cell 4
            have r5 := hblk.cell 5
            have r6 := hblk.cell 6
            simp at r0 r1 r2 r3 r4 r5 r6
            exact bodyPost_ret (v := .tuple #[mdV x0 x1 x2 x3 (.slice Av acc.length cv) (.slice Bv C.length cb) (.slice Dv D.length cd), .int .i64 (a1 : Int), .int .i64 0]) (by simp [results, Try.results38, go_sem, mdV, r0, r1, r2, r3, r4, r5, r6]) rfl hM
          · have q0 : (T != 0) = true := by simpa using hT0
            have HE : Hid (R = (Md.zero, 0, 131)) := Lib.hid (by have := HDF2.out; rwa [if_neg hT0] at this)
            clear hT0
            go_wp2_with fail
            rw [HE.out]
            have hblk0 := (blk_seven HG9.out.res (.int .i64 0) (.int .i64 0) (.int .i64 0) (.int .i64 0) (.slice none 0 0) (.slice none 0 0) (.slice none 0 0))
            have hlow0 := (below_zero HG9.out.low (Nat.le_refl _) (.int .i64 0) (.int .i64 0) (.int .i64 0) (.int .i64 0) (.slice none 0 0) (.slice none 0 0) (.slice none 0 0))
            have hmod := zero_model w _ 131 hlow0
            have hblk := hblk0
            clear z0 z1 z2 z3 z4 z5 z6 y0 y1 y2 y3 y4 y5 y6 hblk0 hlow0
            obtain ⟨WE, hWE⟩ : ∃ x, (((((((w9.setCell ⟨w.heap.size, 0, none⟩ (.int .i64 0)).setCell ⟨w.heap.size, 1, none⟩ (.int .i64 0)).setCell ⟨w.heap.size, 2, none⟩ (.int .i64 0)).setCell ⟨w.heap.size, 3, none⟩ (.int .i64 0)).setCell ⟨w.heap.size, 4, none⟩ (.slice none 0 0)).setCell ⟨w.heap.size, 5, none⟩ (.slice none 0 0)).setCell ⟨w.heap.size, 6, none⟩ (.slice none 0 0)) = x := ⟨_, rfl⟩
            rw [hWE] at hblk hmod ⊢
            have r0 := hblk.cell 0
            have r1 := hblk.cell 1
            have r2 := hblk.cell 2
            have r3 := hblk.cell 3
            have r4 := hblk.cell 4
            have r5 := hblk.cell 5
            have r6 := hblk.cell 6
            simp at r0 r1 r2 r3 r4 r5 r6
            exact bodyPost_ret (v := .tuple #[mdV 0 0 0 0 (.slice none 0 0) (.slice none 0 0) (.slice none 0 0), .int .i64 0, .int .i64 131]) (by simp [results, Try.results38, go_sem, mdV, r0, r1, r2, r3, r4, r5, r6]) rfl hmod

end Go.Proofs.Ytaiekpdoljleeaa
