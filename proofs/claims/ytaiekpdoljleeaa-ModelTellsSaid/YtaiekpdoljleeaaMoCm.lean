/- CopyModel: a model in memory of its own: the walk. Condition: at most 5000 parts, programs of at most 10^9 bytes. -/
import Derived.Test.YtaiekpdoljleeaaMoSm
namespace Go.Proofs.Ytaiekpdoljleeaa
open Go.RowKit Go.WideShapes
set_option linter.unusedVariables false
set_option linter.unusedSimpArgs false
/-- A model handed back, its memory made by the call. -/
structure IsCopyM (d : Md) (w0 : World) (e : Ending) (w : World) : Prop where
  ex : ∃ A B D c cc cp, e = .returned (d.val A B D c cc cp) ∧ MdR d A B D w
  low : Below w0.heap.size w0 w
theorem three_set {g : Nat} {w : World} {z0 z1 z2 z3 z4 z5 z6 : Value} (h : Blk w g 58 #[z0, z1, z2, z3, z4, z5, z6]) (v4 v5 v6 : Value) : Blk (((w.setCell ⟨g, 4, none⟩ v4).setCell ⟨g, 5, none⟩ v5).setCell ⟨g, 6, none⟩ v6) g 58 #[z0, z1, z2, z3, v4, v5, v6] ∧ Frm (fun k => k = g) w (((w.setCell ⟨g, 4, none⟩ v4).setCell ⟨g, 5, none⟩ v5).setCell ⟨g, 6, none⟩ v6) :=
  ⟨((h.set 4 v4).set 5 v5).set 6 v6, (((Frm.refl (fun k => k = g) w).setCell (p := ⟨g, 4, none⟩) (fun _ => rfl) v4).setCell (p := ⟨g, 5, none⟩) (fun _ => rfl) v5).setCell (p := ⟨g, 6, none⟩) (fun _ => rfl) v6⟩
set_option maxRecDepth 100000 in
set_option maxHeartbeats 8000000 in
theorem copy34 (d : Md) (A B D : Option Addr) (n c nc cc np cp : Nat) (w : World) (hn : n = d.ts.length) (hnc : nc = d.code.length) (hnp : np = d.post.length) (h : MdR d A B D w) (l1 : n ≤ 5000) (l2 : nc ≤ 1000000000) (l3 : np ≤ 1000000000) :
    Calls Try.prog 34 #[mdV d.h d.m d.ph d.pm (.slice A n c) (.slice B nc cc) (.slice D np cp)] w (IsCopyM d w) := by
  have hc1 : ∀ W, Below w.heap.size w W → Calls Try.prog 11 #[.slice A n c] W (OwnsP d.ts n W) := fun W hW => copy_any d.ts A n c W hn (h.p.below hW rfl) l1
  have hc2 : ∀ W, Below w.heap.size w W → Calls Try.prog 28 #[.slice B nc cc] W (OwnsV 5 (octs d.code) nc W) := fun W hW => copyB d.code B nc cc W hnc (h.c.below hW rfl) l2
  have hc3 : ∀ W, Below w.heap.size w W → Calls Try.prog 28 #[.slice D np cp] W (OwnsV 5 (octs d.post) np W) := fun W hW => copyB d.post D np cp W hnp (h.q.below hW rfl) l3
  have HC1 := Lib.hid hc1
  have HC2 := Lib.hid hc2
  have HC3 := Lib.hid hc3
  obtain ⟨a0, a1, a2, a3, ts, code, post⟩ := d
  unfold mdV
  simp only at *
  have hx0 := (Blk.new w 58 #[.int .i64 a0, .int .i64 a1, .int .i64 a2, .int .i64 a3, .slice A n c, .slice B nc cc, .slice D np cp]).alloc (.cells #[.int .i64 0, .int .i64 0, .int .i64 0, .int .i64 0, .slice none 0 0, .slice none 0 0, .slice none 0 0] 58)
  have hr0 := Blk.new (w.alloc (.cells #[.int .i64 a0, .int .i64 a1, .int .i64 a2, .int .i64 a3, .slice A n c, .slice B nc cc, .slice D np cp] 58)) 58 #[.int .i64 0, .int .i64 0, .int .i64 0, .int .i64 0, .slice none 0 0, .slice none 0 0, .slice none 0 0]
  rw [World.size_alloc] at hr0
  have HX0 := Lib.hid hx0
  have HR0 := Lib.hid hr0
  have HN := Lib.hid hn
  have HNC := Lib.hid hnc
  have HNP := Lib.hid hnp
  clear hc1 hc2 hc3 h hx0 hr0 hn hnc hnp
  go_enter Try.func34, Try.ntmps34
  go_upto_region 1 with fail
  go_cut [3] from 3 to 15 (fun s wx => ∃ A1 d1 A2 d2 A3 d3, Blk wx w.heap.size 58 #[.int .i64 a0, .int .i64 a1, .int .i64 a2, .int .i64 a3, .slice A1 n d1, .slice A2 nc d2, .slice A3 np d3] ∧ Blk wx (w.heap.size + 1) 58 #[.int .i64 0, .int .i64 0, .int .i64 0, .int .i64 0, .slice none 0 0, .slice none 0 0, .slice none 0 0] ∧ wx.ownsRow (w.heap.size + 2) 32 7 (.slice A1 n d1) n (flat_pts ts) ∧ wx.ownsRow (w.heap.size + 2) 5 1 (.slice A2 nc d2) nc (octs code) ∧ wx.ownsRow (w.heap.size + 2) 5 1 (.slice A3 np d3) np (octs post) ∧ Below w.heap.size w wx)
  case first =>
    go_region_with (first
      | (go_at_call 11; (with_reducible refine (HC1.out _ ((((Below.refl _ _).alloc (Nat.le_refl _) _).alloc (by simp) _).drew)).mono ?_); rintro e w1 ⟨⟨A1, d1, rfl, hd1, ho1⟩, hb1⟩; have K1 := Lib.hid ((((Below.refl w.heap.size w).alloc (Nat.le_refl _) _).alloc (by simp) _).drew.trans (hb1.mono (by simp; omega))); have X1 := Lib.hid (HX0.out.drew.below hb1); have R1 := Lib.hid (HR0.out.drew.below hb1); have S1 : Hid (w.heap.size + 2 ≤ w1.heap.size) := Lib.hid (by have := hb1.size; simp at this; omega); have O1 := Lib.hid (own_base (b' := w.heap.size + 2) ho1 (by simp)); have x15 : w1.cell? ⟨w.heap.size, 5, none⟩ = some (.slice B nc cc) := X1.out.cell 5; have x16 : w1.cell? ⟨w.heap.size, 6, none⟩ = some (.slice D np cp) := X1.out.cell 6; clear hb1 ho1)
      | (go_at_call 28; (with_reducible refine (HC2.out w1 K1.out).mono ?_); rintro e w2 ⟨⟨A2, d2, rfl, hd2, ho2⟩, hb2⟩; have K2 := Lib.hid (K1.out.trans (hb2.mono K1.out.size)); have X2 := Lib.hid (X1.out.below hb2); have R2 := Lib.hid (R1.out.below hb2); have O12 := Lib.hid (own_below O1.out hb2); have S2 := Lib.hid hb2.size; have O2 := Lib.hid (own_base (b' := w.heap.size + 2) ho2 S1.out); have x26 : w2.cell? ⟨w.heap.size, 6, none⟩ = some (.slice D np cp) := X2.out.cell 6; clear hb2 ho2 x15 x16)
      | (go_at_call 28; (with_reducible refine (HC3.out w2 K2.out).mono ?_); rintro e w3 ⟨⟨A3, d3, rfl, hd3, ho3⟩, hb3⟩; have K3 := Lib.hid (K2.out.trans (hb3.mono K2.out.size)); have X3 := Lib.hid (X2.out.below hb3); have R3 := Lib.hid (R2.out.below hb3); have O13 := Lib.hid (own_below O12.out hb3); have O23 := Lib.hid (own_below O2.out hb3); have S3 := Lib.hid hb3.size; have O3 := Lib.hid (own_base (b' := w.heap.size + 2) ho3 (by have := S1.out; have := S2.out; omega)); have x34 : w3.cell? ⟨w.heap.size, 4, none⟩ = some (.slice A n c) := X3.out.cell 4; have x35 : w3.cell? ⟨w.heap.size, 5, none⟩ = some (.slice B nc cc) := X3.out.cell 5; have x36 : w3.cell? ⟨w.heap.size, 6, none⟩ = some (.slice D np cp) := X3.out.cell 6; have f4 := X3.out.frozen 4; have f5 := X3.out.frozen 5; have f6 := X3.out.frozen 6; clear hb3 ho3 x26))
    all_goals
      go_wp2_with fail
      go_meet
      have h3 := three_set X3.out (.slice A1 n d1) (.slice A2 nc d2) (.slice A3 np d3)
      exact ⟨A1, d1, A2, d2, A3, d3, h3.1, R3.out.frm h3.2 (by omega), h3.2.own O13.out (fun k hk e => by have := own_ge O13.out k hk; omega), h3.2.own O23.out (fun k hk e => by have := own_ge O23.out k hk; omega), h3.2.own O3.out (fun k hk e => by have := own_ge O3.out k hk; omega), K3.out.trans (h3.2.to_below K3.out.size (fun k hk => by omega))⟩
  case rest =>
    obtain ⟨A1, d1, A2, d2, A3, d3, hb, hr, o1, o2, o3, hw⟩ := hcut
    have HB := Lib.hid hb
    have HRR := Lib.hid hr
    have O1 := Lib.hid o1
    have O2 := Lib.hid o2
    have O3 := Lib.hid o3
    have HW := Lib.hid hw
    have s0 := hb.cell 0
    have s1 := hb.cell 1
    have s2 := hb.cell 2
    have s3 := hb.cell 3
    have s4 := hb.cell 4
    have s5 := hb.cell 5
    have s6 := hb.cell 6
    have r0 := hr.cell 0
    have r1 := hr.cell 1
    have r2 := hr.cell 2
    have r3 := hr.cell 3
    have r4 := hr.cell 4
    have r5 := hr.cell 5
    have r6 := hr.cell 6
    have f0 := hr.frozen 0
    have f1 := hr.frozen 1
    have f2 := hr.frozen 2
    have f3 := hr.frozen 3
    have f4 := hr.frozen 4
    have f5 := hr.frozen 5
    have f6 := hr.frozen 6
    simp at s0 s1 s2 s3 s4 s5 s6 r0 r1 r2 r3 r4 r5 r6
    clear hb hr o1 o2 o3 hw
    go_wp2_with fail
    have hfr := frm_seven (g := w.heap.size + 1) wc (.int .i64 a0) (.int .i64 a1) (.int .i64 a2) (.int .i64 a3) (.slice A1 n d1) (.slice A2 nc d2) (.slice A3 np d3)
    have hblk := blk_seven HRR.out (.int .i64 a0) (.int .i64 a1) (.int .i64 a2) (.int .i64 a3) (.slice A1 n d1) (.slice A2 nc d2) (.slice A3 np d3)
    have hp := hfr.own O1.out (fun k hk e => by have := own_ge O1.out k hk; omega)
    have hc := hfr.own O2.out (fun k hk e => by have := own_ge O2.out k hk; omega)
    have hq := hfr.own O3.out (fun k hk e => by have := own_ge O3.out k hk; omega)
    have hlow := below_zero HW.out (show w.heap.size ≤ w.heap.size + 1 by omega) (.int .i64 a0) (.int .i64 a1) (.int .i64 a2) (.int .i64 a3) (.slice A1 n d1) (.slice A2 nc d2) (.slice A3 np d3)
    have hM : IsCopyM ⟨a0, a1, a2, a3, ts, code, post⟩ w (.returned (mdV a0 a1 a2 a3 (.slice A1 n d1) (.slice A2 nc d2) (.slice A3 np d3))) _ := ⟨⟨A1, A2, A3, d1, d2, d3, by rw [HN.out, HNC.out, HNP.out]; rfl, ⟨rd_own hp, rd_own hc, rd_own hq⟩⟩, hlow⟩
    clear hfr hp hc hq hlow s0 s1 s2 s3 s4 s5 s6 r0 r1 r2 r3 r4 r5 r6 f0 f1 f2 f3 f4 f5 f6
    obtain ⟨WE, hWE⟩ : ∃ x, (((((((wc.setCell ⟨w.heap.size + 1, 0, none⟩ (.int .i64 a0)).setCell ⟨w.heap.size + 1, 1, none⟩ (.int .i64 a1)).setCell ⟨w.heap.size + 1, 2, none⟩ (.int .i64 a2)).setCell ⟨w.heap.size + 1, 3, none⟩ (.int .i64 a3)).setCell ⟨w.heap.size + 1, 4, none⟩ (.slice A1 n d1)).setCell ⟨w.heap.size + 1, 5, none⟩ (.slice A2 nc d2)).setCell ⟨w.heap.size + 1, 6, none⟩ (.slice A3 np d3)) = x := ⟨_, rfl⟩
    rw [hWE] at hblk hM ⊢
    have r0 := hblk.cell 0
    have r1 := hblk.cell 1
    have r2 := hblk.cell 2
    have r3 := hblk.cell 3
    have r4 := hblk.cell 4
    have r5 := hblk.cell 5
    have r6 := hblk.cell 6
    simp at r0 r1 r2 r3 r4 r5 r6
    exact bodyPost_ret (v := mdV a0 a1 a2 a3 (.slice A1 n d1) (.slice A2 nc d2) (.slice A3 np d3)) (by simp [results, Try.results34, go_sem, mdV, r0, r1, r2, r3, r4, r5, r6]) rfl hM
end Go.Proofs.Ytaiekpdoljleeaa
