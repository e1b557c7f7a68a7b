/- The coder's interval takes a bit, and sheds into an encoder: the walk. -/
import Derived.Test.YtbjbpbblalcpkaaCodTake
import Derived.Deep.LoopGhost
import Derived.RegionTactic
import Derived.BigRegion
namespace Go.Proofs.Ytbjbpbblalcpkaa
open Go.RowKit Go.WideShapes
set_option linter.unusedVariables false
theorem Enc.drewN {B : Nat} {w : World} {g : Nat} {x y : Int} {out : List Int} {v : Value} (h : Enc B w g x y out v) (n : Nat) : Enc B (w.drewN n) g x y out v := ⟨h.blk.drewN n, (Frm.refl (fun _ => False) w).drewN n |>.own h.own (fun _ _ h => h), h.ge⟩
structure TakeRel (B g bx : Nat) (X0 Y0 : Int) (out0 : List Int) (v0 : Value) (w0 : World) (k : Nat) (w : World) : Prop where
  ex : ∃ x y so v, need x y = k ∧ Ivl x y ∧ norm X0 Y0 = (so ++ (norm x y).1, (norm x y).2) ∧ so.length + k ≤ 4 ∧ Enc B w g x y (out0 ++ so) v ∧ (v.ownBlock = v0.ownBlock ∨ ∃ q, v.ownBlock = some q ∧ w0.heap.size ≤ q)
  bx : Blk w bx 23 #[.pointer (some ⟨g, 0, none⟩)]
  frm : Frm (own1 g v0) w0 w
structure Taken (B g : Nat) (X0 Y0 : Int) (out0 : List Int) (v0 : Value) (w0 : World) (e : Ending) (w : World) : Prop where
  ret : e = .returned (.tuple #[])
  ex : ∃ v, Enc B w g (norm X0 Y0).2.1 (norm X0 Y0).2.2 (out0 ++ (norm X0 Y0).1) v ∧ (v.ownBlock = v0.ownBlock ∨ ∃ q, v.ownBlock = some q ∧ w0.heap.size ≤ q)
  frm : Frm (own1 g v0) w0 w
theorem Enc.set2 {B : Nat} {w : World} {g : Nat} {x y x' y' : Int} {out : List Int} {v : Value} (h : Enc B w g x y out v) : Enc B ((w.setCell ⟨g, 0, none⟩ (.int .u32 x')).setCell ⟨g, 1, none⟩ (.int .u32 y')).drew g x' y' out v := by
  have h1 := (h.blk.set 0 (.int .u32 x')).set 1 (.int .u32 y')
  have f : Frm (fun k => k = g) w ((w.setCell ⟨g, 0, none⟩ (.int .u32 x')).setCell ⟨g, 1, none⟩ (.int .u32 y')).drew :=
    (((Frm.refl (fun k => k = g) w).setCell (p := ⟨g, 0, none⟩) (fun _ => rfl) _).setCell (p := ⟨g, 1, none⟩) (fun _ => rfl) _).drew
  refine ⟨Blk.drew (by simpa using h1), f.own h.own fun k hk e => h.blk.apart h.own (by decide) k hk e, h.ge⟩
theorem take_step {B g bx : Nat} {X0 Y0 X Y : Int} {out so : List Int} {v v1 v2 : Value} {w wr w2 : World} (hiv : Ivl X Y) (hn : norm X0 Y0 = (so ++ (norm X Y).1, (norm X Y).2)) (hsl : so.length + need X Y ≤ 4) (hq : X / 16777216 = Y / 16777216)
    (hd : v1.ownBlock = v.ownBlock ∨ ∃ q, v1.ownBlock = some q ∧ w.heap.size ≤ q) (hbx : Blk wr bx 23 #[.pointer (some ⟨g, 0, none⟩)]) (hf : Frm (own1 g v) w wr) (he1 : Enc B wr g X Y (out ++ so) v1)
    (he2 : Enc B w2 g X Y (out ++ so ++ [X / 16777216]) v2) (hd2 : v2.ownBlock = v1.ownBlock ∨ ∃ q, v2.ownBlock = some q ∧ wr.heap.size ≤ q) (hf2 : Frm (own1 g v1) wr w2) :
    TakeRel B g bx X0 Y0 out v w (need (nx X) (ny Y)) ((w2.setCell ⟨g, 0, none⟩ (.int .u32 (nx X))).setCell ⟨g, 1, none⟩ (.int .u32 (ny Y))).drew := by
  obtain ⟨h1, h2⟩ := need_succ hiv hq
  have hs := hf.size
  have h3 : Frm (fun k => k = g) w2 ((w2.setCell ⟨g, 0, none⟩ (.int .u32 (nx X))).setCell ⟨g, 1, none⟩ (.int .u32 (ny Y))).drew :=
    (((Frm.refl (fun k => k = g) w2).setCell (p := ⟨g, 0, none⟩) (fun _ => rfl) _).setCell (p := ⟨g, 1, none⟩) (fun _ => rfl) _).drew
  have nb := hbx.ne he1.blk (by decide)
  refine ⟨⟨nx X, ny Y, so ++ [X / 16777216], v2, rfl, h2, ?_, ?_, ?_, ?_⟩, ?_, ?_⟩
  · rw [hn, norm_more hiv hq, List.append_assoc]; rfl
  · rw [List.length_append, List.length_singleton]; omega
  · rw [← List.append_assoc]; exact he2.set2
  · rcases hd2 with h | ⟨q, h, hq⟩
    · rcases hd with h' | ⟨q, h', hq⟩
      · exact .inl (h.trans h')
      · exact .inr ⟨q, h.trans h', hq⟩
    · exact .inr ⟨q, h, by omega⟩
  · refine (hbx.frm hf2 ?_).frm h3 nb
    rintro (h | h)
    · exact nb h
    · exact hbx.apart he1.own (by decide) bx h rfl
  · refine (hf.trans hf2 ?_).trans h3 fun k _ h => .inl h
    rintro k hk (h | h)
    · exact .inl h
    · rcases hd with h' | ⟨q, h', hq⟩
      · exact .inr (h'.symm.trans h)
      · rw [h'] at h; injection h with h; omega
theorem taken_of {B g : Nat} {X0 Y0 X Y : Int} {out so : List Int} {v v1 : Value} {w wr : World} (hn : norm X0 Y0 = (so ++ (norm X Y).1, (norm X Y).2)) (hq : X / 16777216 ≠ Y / 16777216) (he : Enc B wr g X Y (out ++ so) v1)
    (hd : v1.ownBlock = v.ownBlock ∨ ∃ q, v1.ownBlock = some q ∧ w.heap.size ≤ q) (hf : Frm (own1 g v) w wr) (n : Nat) : Taken B g X0 Y0 out v w (.returned (.tuple #[])) (wr.drewN n) := by
  rw [norm_done hq] at hn
  simp only [List.append_nil] at hn
  refine ⟨rfl, ⟨v1, ?_, hd⟩, hf.drewN n⟩
  rw [hn]
  exact he.drewN n
set_option maxRecDepth 100000 in
set_option maxHeartbeats 4000000 in
theorem take_one (B g bx : Nat) (x y m : Int) (out : List Int) (v : Value) (w : World) (he : Enc B w g x y out v) (hbx : Blk w bx 23 #[.pointer (some ⟨g, 0, none⟩)]) (hl : out.length ≤ 100000) (hB : B ≤ w.heap.size) (hi : Ivl x m) :
    Calls Try.prog 27 #[.pointer (some ⟨g, 0, none⟩), .int .i64 1, .int .u32 m, .func (.func 29) #[] #[.pointer (some ⟨bx, 0, none⟩)]] w (Taken B g x m out v w) := by
  have c1 := he.blk.cell 1
  have f1 := he.blk.frozen 1
  simp at c1
  have HE := Lib.hid he
  have HX := Lib.hid hbx
  have HI := Lib.hid hi
  clear he hbx hi
  go_enter Try.func27, Try.ntmps27
  go_wp2_with fail
  have he1 : Enc B (w.setCell ⟨g, 1, none⟩ (.int .u32 m)) g x m out v := by
    refine ⟨by simpa using HE.out.blk.set 1 (.int .u32 m), ?_, HE.out.ge⟩
    have h2 : Frm (fun k => k = g) w (w.setCell ⟨g, 1, none⟩ (.int .u32 m)) := (Frm.refl (fun k => k = g) w).setCell (p := ⟨g, 1, none⟩) (fun _ => rfl) _
    exact h2.own HE.out.own fun k hk e => HE.out.blk.apart HE.out.own (by decide) k hk e
  have hf1 : Frm (own1 g v) w (w.setCell ⟨g, 1, none⟩ (.int .u32 m)) := (Frm.refl (own1 g v) w).setCell (p := ⟨g, 1, none⟩) (fun _ => .inl rfl) _
  have hx1 : Blk (w.setCell ⟨g, 1, none⟩ (.int .u32 m)) bx 23 #[.pointer (some ⟨g, 0, none⟩)] := HX.out.far (p := ⟨g, 1, none⟩) (HX.out.ne HE.out.blk (by decide)) _
  have H1 := Lib.hid he1
  have HF1 := Lib.hid hf1
  have HX1 := Lib.hid hx1
  clear he1 hf1 hx1 c1 f1
  go_loopg [] (need x m) (fun k wr => TakeRel B g bx x m out v w k wr)
  case atStart => exact ⟨⟨x, m, [], v, rfl, HI.out, by simp, by have := need_le x m; simp; omega, by simpa using H1.out, .inl rfl⟩, HX1.out, HF1.out⟩
  case round =>
    obtain ⟨⟨X, Y, so, v1, hk, hi, hn, hsl, he, hd⟩, hbx, hf⟩ := hrel
    have c0 := he.blk.cell 0
    have c1 := he.blk.cell 1
    have f0 := he.blk.frozen 0
    have f1 := he.blk.frozen 1
    simp at c0 c1
    have i0 := hi.x0
    have i1 := hi.y1
    have i2 := hi.xy
    have HK := Lib.hid hk
    have HIV := Lib.hid hi
    have HN := Lib.hid hn
    have HEN := Lib.hid he
    have HD := Lib.hid hd
    have HBX := Lib.hid hbx
    have HFR := Lib.hid hf
    clear hk hi hn he hd hbx hf
    have xz := xor_zero X Y i0 (by omega) (by omega) i1
    by_cases hq : X / 16777216 = Y / 16777216
    · rw [show (X / 16777216 == Y / 16777216) = true from beq_iff_eq.2 hq] at xz
      have HQ := Lib.hid hq
      clear hq
      go_wp2_with fail
      go_quiet (fail)
      go_wp2_with fail
      refine (shed_put B g bx X Y (X / 16777216) (out ++ so) v1 _ (HEN.out.drewN _) (HBX.out.drewN _) (by rw [List.length_append]; omega) (by have := HFR.out.size; simp; omega)).mono ?_
      rintro e w2 ⟨rfl, ⟨v2, he2, hd2⟩, hf2⟩
      have c0 := he2.blk.cell 0
      have c1 := he2.blk.cell 1
      have f0 := he2.blk.frozen 0
      have f1 := he2.blk.frozen 1
      simp at c0 c1
      have HE2 := Lib.hid he2
      have HD2 := Lib.hid hd2
      have HF2 := Lib.hid hf2
      clear he2 hd2 hf2
      have hor := or_255 Y (by omega) i1
      go_wp2_with fail
      go_region
      go_wp2
      go_roundg (need (nx X) (ny Y))
      case measure =>
        have := (need_succ HIV.out HQ.out).1
        have := HK.out
        omega
      case rel => exact take_step HIV.out HN.out (by rw [HK.out]; exact hsl) HQ.out HD.out (HBX.out.drewN nq) (HFR.out.drewN nq) (HEN.out.drewN nq) HE2.out HD2.out HF2.out
    · rw [show (X / 16777216 == Y / 16777216) = false from beq_eq_false_iff_ne.2 hq] at xz
      have HQ := Lib.hid hq
      clear hq
      go_wp2_with fail
      go_quiet (fail)
      go_wp2_with fail
      go_end0
      exact taken_of HN.out HQ.out HEN.out HD.out HFR.out nq
set_option maxRecDepth 100000 in
set_option maxHeartbeats 4000000 in
theorem take_zero (B g bx : Nat) (x y m : Int) (out : List Int) (v : Value) (w : World) (he : Enc B w g x y out v) (hbx : Blk w bx 23 #[.pointer (some ⟨g, 0, none⟩)]) (hl : out.length ≤ 100000) (hB : B ≤ w.heap.size) (hi : Ivl (m + 1) y) (hm0 : 0 ≤ m) (hm1 : m + 1 ≤ 4294967295) :
    Calls Try.prog 27 #[.pointer (some ⟨g, 0, none⟩), .int .i64 0, .int .u32 m, .func (.func 29) #[] #[.pointer (some ⟨bx, 0, none⟩)]] w (Taken B g (m + 1) y out v w) := by
  have c1 := he.blk.cell 0
  have f1 := he.blk.frozen 0
  simp at c1
  have HE := Lib.hid he
  have HX := Lib.hid hbx
  have HI := Lib.hid hi
  clear he hbx hi
  go_enter Try.func27, Try.ntmps27
  go_wp2_with fail
  have he1 : Enc B (w.setCell ⟨g, 0, none⟩ (.int .u32 (m + 1))) g (m + 1) y out v := by
    refine ⟨by simpa using HE.out.blk.set 0 (.int .u32 (m + 1)), ?_, HE.out.ge⟩
    have h2 : Frm (fun k => k = g) w (w.setCell ⟨g, 0, none⟩ (.int .u32 (m + 1))) := (Frm.refl (fun k => k = g) w).setCell (p := ⟨g, 0, none⟩) (fun _ => rfl) _
    exact h2.own HE.out.own fun k hk e => HE.out.blk.apart HE.out.own (by decide) k hk e
  have hf1 : Frm (own1 g v) w (w.setCell ⟨g, 0, none⟩ (.int .u32 (m + 1))) := (Frm.refl (own1 g v) w).setCell (p := ⟨g, 0, none⟩) (fun _ => .inl rfl) _
  have hx1 : Blk (w.setCell ⟨g, 0, none⟩ (.int .u32 (m + 1))) bx 23 #[.pointer (some ⟨g, 0, none⟩)] := HX.out.far (p := ⟨g, 0, none⟩) (HX.out.ne HE.out.blk (by decide)) _
  have H1 := Lib.hid he1
  have HF1 := Lib.hid hf1
  have HX1 := Lib.hid hx1
  clear he1 hf1 hx1 c1 f1
  go_loopg [] (need (m + 1) y) (fun k wr => TakeRel B g bx (m + 1) y out v w k wr)
  case atStart => exact ⟨⟨m + 1, y, [], v, rfl, HI.out, by simp, by have := need_le (m + 1) y; simp; omega, by simpa using H1.out, .inl rfl⟩, HX1.out, HF1.out⟩
  case round =>
    obtain ⟨⟨X, Y, so, v1, hk, hi, hn, hsl, he, hd⟩, hbx, hf⟩ := hrel
    have c0 := he.blk.cell 0
    have c1 := he.blk.cell 1
    have f0 := he.blk.frozen 0
    have f1 := he.blk.frozen 1
    simp at c0 c1
    have i0 := hi.x0
    have i1 := hi.y1
    have i2 := hi.xy
    have HK := Lib.hid hk
    have HIV := Lib.hid hi
    have HN := Lib.hid hn
    have HEN := Lib.hid he
    have HD := Lib.hid hd
    have HBX := Lib.hid hbx
    have HFR := Lib.hid hf
    clear hk hi hn he hd hbx hf
    have xz := xor_zero X Y i0 (by omega) (by omega) i1
    by_cases hq : X / 16777216 = Y / 16777216
    · rw [show (X / 16777216 == Y / 16777216) = true from beq_iff_eq.2 hq] at xz
      have HQ := Lib.hid hq
      clear hq
      go_wp2_with fail
      go_quiet (fail)
      go_wp2_with fail
      refine (shed_put B g bx X Y (X / 16777216) (out ++ so) v1 _ (HEN.out.drewN _) (HBX.out.drewN _) (by rw [List.length_append]; omega) (by have := HFR.out.size; simp; omega)).mono ?_
      rintro e w2 ⟨rfl, ⟨v2, he2, hd2⟩, hf2⟩
      have c0 := he2.blk.cell 0
      have c1 := he2.blk.cell 1
      have f0 := he2.blk.frozen 0
      have f1 := he2.blk.frozen 1
      simp at c0 c1
      have HE2 := Lib.hid he2
      have HD2 := Lib.hid hd2
      have HF2 := Lib.hid hf2
      clear he2 hd2 hf2
      have hor := or_255 Y (by omega) i1
      go_wp2_with fail
      go_region
      go_wp2
      go_roundg (need (nx X) (ny Y))
      case measure =>
        have := (need_succ HIV.out HQ.out).1
        have := HK.out
        omega
      case rel => exact take_step HIV.out HN.out (by rw [HK.out]; exact hsl) HQ.out HD.out (HBX.out.drewN nq) (HFR.out.drewN nq) (HEN.out.drewN nq) HE2.out HD2.out HF2.out
    · rw [show (X / 16777216 == Y / 16777216) = false from beq_eq_false_iff_ne.2 hq] at xz
      have HQ := Lib.hid hq
      clear hq
      go_wp2_with fail
      go_quiet (fail)
      go_wp2_with fail
      go_end0
      exact taken_of HN.out HQ.out HEN.out HD.out HFR.out nq
end Go.Proofs.Ytbjbpbblalcpkaa
