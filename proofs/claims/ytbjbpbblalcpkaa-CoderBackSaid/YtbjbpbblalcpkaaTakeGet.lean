/- The coder's interval takes a bit, and a decoder takes bytes: the walk. -/
import Derived.Test.YtbjbpbblalcpkaaNext
namespace Go.Proofs.Ytbjbpbblalcpkaa
open Go.RowKit Go.WideShapes
set_option linter.unusedVariables false
structure TakeRelD (B g bx : Nat) (X0 Y0 : Int) (bs : List Int) (s : Nat × Int) (v : Value) (w0 : World) (k : Nat) (w : World) : Prop where
  ex : ∃ x y so, need x y = k ∧ Ivl x y ∧ norm X0 Y0 = (so ++ (norm x y).1, (norm x y).2) ∧ so.length + k ≤ 4 ∧ Dec B w g x y bs (nexts bs so.length s) v
  bx : Blk w bx 43 #[.pointer (some ⟨g, 0, none⟩)]
  frm : Frm (fun k => k = g) w0 w
structure TakenD (B g : Nat) (X0 Y0 : Int) (bs : List Int) (s : Nat × Int) (v : Value) (w0 : World) (e : Ending) (w : World) : Prop where
  ret : e = .returned (.tuple #[])
  dec : Dec B w g (norm X0 Y0).2.1 (norm X0 Y0).2.2 bs (nexts bs (norm X0 Y0).1.length s) v
  frm : Frm (fun k => k = g) w0 w
theorem Dec.set2 {B : Nat} {w : World} {g : Nat} {x y x' y' : Int} {bs : List Int} {s : Nat × Int} {v : Value} (h : Dec B w g x y bs s v) : Dec B ((w.setCell ⟨g, 0, none⟩ (.int .u32 x')).setCell ⟨g, 1, none⟩ (.int .u32 y')).drew g x' y' bs s v := by
  have h1 := (h.blk.set 0 (.int .u32 x')).set 1 (.int .u32 y')
  have f : Frm (fun k => k = g) w ((w.setCell ⟨g, 0, none⟩ (.int .u32 x')).setCell ⟨g, 1, none⟩ (.int .u32 y')).drew :=
    (((Frm.refl (fun k => k = g) w).setCell (p := ⟨g, 0, none⟩) (fun _ => rfl) _).setCell (p := ⟨g, 1, none⟩) (fun _ => rfl) _).drew
  exact ⟨Blk.drew (by simpa using h1), f.own h.own fun k hk e => h.blk.apart h.own (by decide) k hk e, h.ge, h.oct, h.z0, h.z1, h.len⟩
theorem takeD_step {B g bx : Nat} {X0 Y0 X Y : Int} {bs so : List Int} {s : Nat × Int} {v : Value} {w wr w2 : World} (hiv : Ivl X Y) (hn : norm X0 Y0 = (so ++ (norm X Y).1, (norm X Y).2)) (hsl : so.length + need X Y ≤ 4) (hq : X / 16777216 = Y / 16777216)
    (hbx : Blk wr bx 43 #[.pointer (some ⟨g, 0, none⟩)]) (hf : Frm (fun k => k = g) w wr) (he1 : Dec B wr g X Y bs (nexts bs so.length s) v)
    (he2 : Dec B w2 g X Y bs (dnext bs (nexts bs so.length s)) v) (hf2 : Frm (fun k => k = g) wr w2) :
    TakeRelD B g bx X0 Y0 bs s v w (need (nx X) (ny Y)) ((w2.setCell ⟨g, 0, none⟩ (.int .u32 (nx X))).setCell ⟨g, 1, none⟩ (.int .u32 (ny Y))).drew := by
  obtain ⟨h1, h2⟩ := need_succ hiv hq
  have h3 : Frm (fun k => k = g) w2 ((w2.setCell ⟨g, 0, none⟩ (.int .u32 (nx X))).setCell ⟨g, 1, none⟩ (.int .u32 (ny Y))).drew :=
    (((Frm.refl (fun k => k = g) w2).setCell (p := ⟨g, 0, none⟩) (fun _ => rfl) _).setCell (p := ⟨g, 1, none⟩) (fun _ => rfl) _).drew
  have nb := hbx.ne he1.blk (by decide)
  refine ⟨⟨nx X, ny Y, so ++ [X / 16777216], rfl, h2, ?_, ?_, ?_⟩, (hbx.frm hf2 nb).frm h3 nb, (hf.trans hf2 fun _ _ h => h).trans h3 fun _ _ h => h⟩
  · rw [hn, norm_more hiv hq, List.append_assoc]; rfl
  · rw [List.length_append, List.length_singleton]; omega
  · rw [List.length_append, List.length_singleton]
    exact he2.set2
theorem takenD_of {B g : Nat} {X0 Y0 X Y : Int} {bs so : List Int} {s : Nat × Int} {v : Value} {w wr : World} (hn : norm X0 Y0 = (so ++ (norm X Y).1, (norm X Y).2)) (hq : X / 16777216 ≠ Y / 16777216) (he : Dec B wr g X Y bs (nexts bs so.length s) v)
    (hf : Frm (fun k => k = g) w wr) (n : Nat) : TakenD B g X0 Y0 bs s v w (.returned (.tuple #[])) (wr.drewN n) := by
  rw [norm_done hq] at hn
  simp only [List.append_nil] at hn
  refine ⟨rfl, ?_, hf.drewN n⟩
  rw [hn]
  exact he.drewN n
set_option maxRecDepth 100000 in
set_option maxHeartbeats 4000000 in
theorem takeD_one (B g bx : Nat) (x y m : Int) (bs : List Int) (s : Nat × Int) (v : Value) (w : World) (he : Dec B w g x y bs s v) (hbx : Blk w bx 43 #[.pointer (some ⟨g, 0, none⟩)]) (hl : bs.length ≤ 140737488351232) (hi : Ivl x m) :
    Calls Try.prog 27 #[.pointer (some ⟨g, 0, none⟩), .int .i64 1, .int .u32 m, .func (.func 33) #[] #[.pointer (some ⟨bx, 0, none⟩)]] w (TakenD B g x m bs s v w) := by
  have c1 := he.blk.cell 1
  have f1 := he.blk.frozen 1
  simp at c1
  have HE := Lib.hid he
  have HX := Lib.hid hbx
  have HI := Lib.hid hi
  clear he hbx hi
  go_enter Try.func27, Try.ntmps27
  go_wp2_with fail
  have he1 : Dec B (w.setCell ⟨g, 1, none⟩ (.int .u32 m)) g x m bs s v := by
    refine ⟨by simpa using HE.out.blk.set 1 (.int .u32 m), ?_, HE.out.ge, HE.out.oct, HE.out.z0, HE.out.z1, HE.out.len⟩
    have h2 : Frm (fun k => k = g) w (w.setCell ⟨g, 1, none⟩ (.int .u32 m)) := (Frm.refl (fun k => k = g) w).setCell (p := ⟨g, 1, none⟩) (fun _ => rfl) _
    exact h2.own HE.out.own fun k hk e => HE.out.blk.apart HE.out.own (by decide) k hk e
  have hf1 : Frm (fun k => k = g) w (w.setCell ⟨g, 1, none⟩ (.int .u32 m)) := (Frm.refl (fun k => k = g) w).setCell (p := ⟨g, 1, none⟩) (fun _ => rfl) _
  have hx1 : Blk (w.setCell ⟨g, 1, none⟩ (.int .u32 m)) bx 43 #[.pointer (some ⟨g, 0, none⟩)] := HX.out.far (p := ⟨g, 1, none⟩) (HX.out.ne HE.out.blk (by decide)) _
  have H1 := Lib.hid he1
  have HF1 := Lib.hid hf1
  have HX1 := Lib.hid hx1
  clear he1 hf1 hx1 c1 f1
  go_loopg [] (need x m) (fun k wr => TakeRelD B g bx x m bs s v w k wr)
  case atStart => exact ⟨⟨x, m, [], rfl, HI.out, by simp, by have := need_le x m; simp; omega, H1.out⟩, HX1.out, HF1.out⟩
  case round =>
    obtain ⟨⟨X, Y, so, hk, hi, hn, hsl, he⟩, hbx, hf⟩ := hrel
    have c0 := he.blk.cell 0
    have c1 := he.blk.cell 1
    have f0 := he.blk.frozen 0
    have f1 := he.blk.frozen 1
    simp at c0 c1
    have i0 := hi.x0
    have i1 := hi.y1
    have i2 := hi.xy
    have HK := Lib.hid hk
    have HIV := Lib.hid hi
    have HN := Lib.hid hn
    have HEN := Lib.hid he
    have HBX := Lib.hid hbx
    have HFR := Lib.hid hf
    clear hk hi hn he hbx hf
    have xz := xor_zero X Y i0 (by omega) (by omega) i1
    by_cases hq : X / 16777216 = Y / 16777216
    · rw [show (X / 16777216 == Y / 16777216) = true from beq_iff_eq.2 hq] at xz
      have HQ := Lib.hid hq
      clear hq
      go_wp2_with fail
      go_quiet (fail)
      go_wp2_with fail
      refine (nextc_any B g bx X Y (X / 16777216) bs (nexts bs so.length s) v _ (HEN.out.drewN _) (HBX.out.drewN _) hl).mono ?_
      rintro e w2 ⟨rfl, he2, hf2⟩
      have c0 := he2.blk.cell 0
      have c1 := he2.blk.cell 1
      have f0 := he2.blk.frozen 0
      have f1 := he2.blk.frozen 1
      simp at c0 c1
      have HE2 := Lib.hid he2
      have HF2 := Lib.hid hf2
      clear he2 hf2
      have hor := or_255 Y (by omega) i1
      go_wp2_with fail
      go_region
      go_wp2
      go_roundg (need (nx X) (ny Y))
      case measure =>
        have := (need_succ HIV.out HQ.out).1
        have := HK.out
        omega
      case rel => exact takeD_step HIV.out HN.out (by rw [HK.out]; exact hsl) HQ.out (HBX.out.drewN nq) (HFR.out.drewN nq) (HEN.out.drewN nq) HE2.out HF2.out
    · rw [show (X / 16777216 == Y / 16777216) = false from beq_eq_false_iff_ne.2 hq] at xz
      have HQ := Lib.hid hq
      clear hq
      go_wp2_with fail
      go_quiet (fail)
      go_wp2_with fail
      go_end0
      exact takenD_of HN.out HQ.out HEN.out HFR.out nq
set_option maxRecDepth 100000 in
set_option maxHeartbeats 4000000 in
theorem takeD_zero (B g bx : Nat) (x y m : Int) (bs : List Int) (s : Nat × Int) (v : Value) (w : World) (he : Dec B w g x y bs s v) (hbx : Blk w bx 43 #[.pointer (some ⟨g, 0, none⟩)]) (hl : bs.length ≤ 140737488351232) (hi : Ivl (m + 1) y) (hm0 : 0 ≤ m) (hm1 : m + 1 ≤ 4294967295) :
    Calls Try.prog 27 #[.pointer (some ⟨g, 0, none⟩), .int .i64 0, .int .u32 m, .func (.func 33) #[] #[.pointer (some ⟨bx, 0, none⟩)]] w (TakenD B g (m + 1) y bs s v w) := by
  have c1 := he.blk.cell 0
  have f1 := he.blk.frozen 0
  simp at c1
  have HE := Lib.hid he
  have HX := Lib.hid hbx
  have HI := Lib.hid hi
  clear he hbx hi
  go_enter Try.func27, Try.ntmps27
  go_wp2_with fail
  have he1 : Dec B (w.setCell ⟨g, 0, none⟩ (.int .u32 (m + 1))) g (m + 1) y bs s v := by
    refine ⟨by simpa using HE.out.blk.set 0 (.int .u32 (m + 1)), ?_, HE.out.ge, HE.out.oct, HE.out.z0, HE.out.z1, HE.out.len⟩
    have h2 : Frm (fun k => k = g) w (w.setCell ⟨g, 0, none⟩ (.int .u32 (m + 1))) := (Frm.refl (fun k => k = g) w).setCell (p := ⟨g, 0, none⟩) (fun _ => rfl) _
    exact h2.own HE.out.own fun k hk e => HE.out.blk.apart HE.out.own (by decide) k hk e
  have hf1 : Frm (fun k => k = g) w (w.setCell ⟨g, 0, none⟩ (.int .u32 (m + 1))) := (Frm.refl (fun k => k = g) w).setCell (p := ⟨g, 0, none⟩) (fun _ => rfl) _
  have hx1 : Blk (w.setCell ⟨g, 0, none⟩ (.int .u32 (m + 1))) bx 43 #[.pointer (some ⟨g, 0, none⟩)] := HX.out.far (p := ⟨g, 0, none⟩) (HX.out.ne HE.out.blk (by decide)) _
  have H1 := Lib.hid he1
  have HF1 := Lib.hid hf1
  have HX1 := Lib.hid hx1
  clear he1 hf1 hx1 c1 f1
  go_loopg [] (need (m + 1) y) (fun k wr => TakeRelD B g bx (m + 1) y bs s v w k wr)
  case atStart => exact ⟨⟨m + 1, y, [], rfl, HI.out, by simp, by have := need_le (m + 1) y; simp; omega, H1.out⟩, HX1.out, HF1.out⟩
  case round =>
    obtain ⟨⟨X, Y, so, hk, hi, hn, hsl, he⟩, hbx, hf⟩ := hrel
    have c0 := he.blk.cell 0
    have c1 := he.blk.cell 1
    have f0 := he.blk.frozen 0
    have f1 := he.blk.frozen 1
    simp at c0 c1
    have i0 := hi.x0
    have i1 := hi.y1
    have i2 := hi.xy
    have HK := Lib.hid hk
    have HIV := Lib.hid hi
    have HN := Lib.hid hn
    have HEN := Lib.hid he
    have HBX := Lib.hid hbx
    have HFR := Lib.hid hf
    clear hk hi hn he hbx hf
    have xz := xor_zero X Y i0 (by omega) (by omega) i1
    by_cases hq : X / 16777216 = Y / 16777216
    · rw [show (X / 16777216 == Y / 16777216) = true from beq_iff_eq.2 hq] at xz
      have HQ := Lib.hid hq
      clear hq
      go_wp2_with fail
      go_quiet (fail)
      go_wp2_with fail
      refine (nextc_any B g bx X Y (X / 16777216) bs (nexts bs so.length s) v _ (HEN.out.drewN _) (HBX.out.drewN _) hl).mono ?_
      rintro e w2 ⟨rfl, he2, hf2⟩
      have c0 := he2.blk.cell 0
      have c1 := he2.blk.cell 1
      have f0 := he2.blk.frozen 0
      have f1 := he2.blk.frozen 1
      simp at c0 c1
      have HE2 := Lib.hid he2
      have HF2 := Lib.hid hf2
      clear he2 hf2
      have hor := or_255 Y (by omega) i1
      go_wp2_with fail
      go_region
      go_wp2
      go_roundg (need (nx X) (ny Y))
      case measure =>
        have := (need_succ HIV.out HQ.out).1
        have := HK.out
        omega
      case rel => exact takeD_step HIV.out HN.out (by rw [HK.out]; exact hsl) HQ.out (HBX.out.drewN nq) (HFR.out.drewN nq) (HEN.out.drewN nq) HE2.out HF2.out
    · rw [show (X / 16777216 == Y / 16777216) = false from beq_eq_false_iff_ne.2 hq] at xz
      have HQ := Lib.hid hq
      clear hq
      go_wp2_with fail
      go_quiet (fail)
      go_wp2_with fail
      go_end0
      exact takenD_of HN.out HQ.out HEN.out HFR.out nq
end Go.Proofs.Ytbjbpbblalcpkaa
