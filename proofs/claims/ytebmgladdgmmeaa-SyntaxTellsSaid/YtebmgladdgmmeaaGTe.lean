/- SyntaxTells: the law's walk. Condition: none. -/
import Derived.Test.YtebmgladdgmmeaaGRq
import Derived.Test.YtebmgladdgmmeaaGDp
import Derived.Test.YtebmgladdgmmeaaGCo
import Derived.Test.YtebmgladdgmmeaaGSm
import Derived.Test.YtebmgladdgmmeaaGAw
import Derived.Test.YtebmgladdgmmeaaGOp
namespace Go.Proofs.Ytebmgladdgmmeaa
open Go.RowKit Go.WideShapes
set_option linter.unusedVariables false
set_option linter.unusedSimpArgs false
/-- The box that holds the Config. -/
structure CfBox (t : Cf) (g : Nat) (w : World) : Prop where
  c0 : w.cell? ⟨g, 0, none⟩ = some (.int .i64 t.h)
  c1 : w.cell? ⟨g, 1, none⟩ = some (.int .i64 t.m)
  c2 : w.cell? ⟨g, 2, none⟩ = some (.int .i64 t.ph)
  c3 : w.cell? ⟨g, 3, none⟩ = some (.int .i64 t.pm)
  c4 : w.cell? ⟨g, 4, none⟩ = some (.slice t.Ap t.np t.cp)
  c5 : w.cell? ⟨g, 5, none⟩ = some (.slice t.Ac t.fc.len t.cc)
  c6 : w.cell? ⟨g, 6, none⟩ = some (.slice t.Ao t.fp.len t.co)
  c7 : w.cell? ⟨g, 7, none⟩ = some (.bool t.hp)
theorem CfBox.below {t : Cf} {w w' : World} {g : Nat} (h : CfBox t g w) (hg : g < w.heap.size) (hb : Below w.heap.size w w') : CfBox t g w' := by
  have k : ∀ j u, w.cell? ⟨g, j, none⟩ = some u → w'.cell? ⟨g, j, none⟩ = some u := fun j u hu => (hb.cell (p := ⟨g, j, none⟩) hg).trans hu
  exact ⟨k _ _ h.c0, k _ _ h.c1, k _ _ h.c2, k _ _ h.c3, k _ _ h.c4, k _ _ h.c5, k _ _ h.c6, k _ _ h.c7⟩
theorem CfBox.new (t : Cf) (w : World) : CfBox t w.heap.size (w.alloc (.cells t.cells 40)) := by
  have h := Blk.new w 40 t.cells
  exact ⟨h.cell 0, h.cell 1, h.cell 2, h.cell 3, h.cell 4, h.cell 5, h.cell 6, h.cell 7⟩
/-- Where the law stands: the box is there, all else is as it was. -/
structure LawAt (t : Cf) (w0 W : World) : Prop where
  box : CfBox t w0.heap.size W
  low : Below w0.heap.size w0 W
  far : w0.heap.size < W.heap.size
theorem LawAt.step {t : Cf} {w0 W W' : World} (h : LawAt t w0 W) (hb : Below W.heap.size W W') : LawAt t w0 W' := ⟨h.box.below h.far hb, h.low.trans (hb.mono h.low.size), Nat.lt_of_lt_of_le h.far hb.size⟩
theorem LawAt.drew {t : Cf} {w0 W : World} (h : LawAt t w0 W) : LawAt t w0 W.drew := ⟨⟨h.box.c0, h.box.c1, h.box.c2, h.box.c3, h.box.c4, h.box.c5, h.box.c6, h.box.c7⟩, h.low.drew, h.far⟩
set_option maxRecDepth 100000 in
set_option maxHeartbeats 8000000 in
theorem tells_any (fl : Fo) (Al : Option Addr) (cl : Nat) (post : Bool) (t : Cf) (w : World) (hrl : RdS w.heap.size w Al fl) (hll : fl.len ≤ cl ∧ cl ≤ maxLen ∧ fl.len ≤ lenMost) (hok : t.ok w) :
    Calls Try.prog 4 #[.slice Al fl.len cl, .bool post, .agg t.cells] w (Quiet (.bool true) w) := by
  have hla : LawAt t w (w.alloc (.cells t.cells 40)) := ⟨CfBox.new t w, (Below.refl _ _).alloc (Nat.le_refl _) _, by simp⟩
  have hd1 : ∀ W, LawAt t w W → Calls Try.prog 9 #[.slice Al fl.len cl, .int .i64 60, .int .i64 3000] W (IsDeep fl 3000 W) := fun W hW => deep_any fl Al cl 60 3000 W ((hrl.below hW.low).mono hW.low.size) hll.1 hll.2.2 (by omega) (by omega)
  have hd2 : ∀ W, LawAt t w W → Calls Try.prog 9 #[.slice t.Ac t.fc.len t.cc, .int .i64 60, .int .i64 3000] W (IsDeep t.fc 3000 W) := fun W hW => deep_any t.fc t.Ac t.cc 60 3000 W ((hok.c.below hW.low).mono hW.low.size) hok.cl.1 hok.cl.2.2 (by omega) (by omega)
  have hd3 : ∀ W, LawAt t w W → Calls Try.prog 9 #[.slice t.Ao t.fp.len t.co, .int .i64 60, .int .i64 3000] W (IsDeep t.fp 3000 W) := fun W hW => deep_any t.fp t.Ao t.co 60 3000 W ((hok.o.below hW.low).mono hW.low.size) hok.ol.1 hok.ol.2.2 (by omega) (by omega)
  have hcp : fl.tot ≤ 3000 → ∀ W, LawAt t w W → Calls Try.prog 14 #[.slice Al fl.len cl] W (IsCopy fl W) := fun ht W hW => copy_any ((hrl.below hW.low)) hW.low.size hll.1 (by omega)
  have hrt : fl.tot ≤ 3000 → ∀ W, LawAt t w W → Calls Try.prog 15 #[.slice Al fl.len cl, .bool post] W (Quiet (.bool (rightF post fl)) W) := fun ht W hW => rightQ_any fl post Al cl W ((hrl.below hW.low).mono hW.low.size) hll.1 hll.2.2 (by omega)
  have hct : fl.tot ≤ 3000 → ∀ W, LawAt t w W → Calls Try.prog 16 #[.slice Al fl.len cl] W (Quiet (.int .i64 (cnF fl 20)) W) := fun ht W hW => countQ_any fl Al cl W ((hrl.below hW.low).mono hW.low.size) hll.1 hll.2.2 (by omega)
  have hcf : t.fc.tot ≤ 3000 → t.fp.tot ≤ 3000 → ∀ W, LawAt t w W → Calls Try.prog 17 #[.agg t.cells] W (Quiet (.bool (configF t.ph t.pm t.fc t.fp t.hp)) W) := fun h1 h2 W hW => config_any t.h t.m t.ph t.pm t.np t.cp t.Ap t.fc t.fp t.Ac t.Ao t.cc t.co t.hp W ((hok.c.below hW.low).mono hW.low.size) ⟨hok.cl.1, hok.cl.2.2, by omega⟩ ((hok.o.below hW.low).mono hW.low.size) ⟨hok.ol.1, hok.ol.2.2, by omega⟩
  have hcg : t.fc.tot ≤ 3000 → t.fp.tot ≤ 3000 → ∀ W, LawAt t w W → Calls Try.prog 18 #[.agg t.cells] W (Quiet (.bool (configF t.ph t.pm t.fc t.fp t.hp)) W) := fun h1 h2 W hW => configQ_any t.h t.m t.ph t.pm t.np t.cp t.Ap t.fc t.fp t.Ac t.Ao t.cc t.co t.hp W ((hok.c.below hW.low).mono hW.low.size) ⟨hok.cl.1, hok.cl.2.2, by omega⟩ ((hok.o.below hW.low).mono hW.low.size) ⟨hok.ol.1, hok.ol.2.2, by omega⟩
  -- what is asked of the copy
  have hrk : fl.tot ≤ 3000 → ∀ A c W, RdS W.heap.size W A fl → fl.len ≤ c → Calls Try.prog 10 #[.slice A fl.len c, .bool post] W (Quiet (.bool (rightF post fl)) W) := fun ht A c W hr hc => rightS_any fl post A c W hr hc hll.2.2 (by omega)
  have hck : fl.tot ≤ 3000 → ∀ A c W, RdS W.heap.size W A fl → fl.len ≤ c → Calls Try.prog 12 #[.slice A fl.len c] W (Quiet (.int .i64 (cnF fl 20)) W) := fun ht A c W hr hc => count_any fl A c W hr hc hll.2.2 (by omega)
  have hsm : fl.tot ≤ 3000 → ∀ A c W, LawAt t w W → RdS W.heap.size W A fl → fl.len ≤ c → Calls Try.prog 19 #[.slice A fl.len c, .slice Al fl.len cl, .bool true] W (Quiet (.bool true) W) := fun ht A c W hW hr hc => same_any hr ((hrl.below hW.low).mono hW.low.size) (Nat.le_refl _) hc hll.1 (by omega)
  have H1 := Lib.hid hd1
  have H2 := Lib.hid hd2
  have H3 := Lib.hid hd3
  have HCP := Lib.hid hcp
  have HRT := Lib.hid hrt
  have HCT := Lib.hid hct
  have HCF := Lib.hid hcf
  have HCG := Lib.hid hcg
  have HRK := Lib.hid hrk
  have HCK := Lib.hid hck
  have HSM := Lib.hid hsm
  have L0 := Lib.hid hla
  clear hd1 hd2 hd3 hcp hrt hct hcf hcg hrk hck hsm hrl hll hok
  obtain ⟨b0, b1, b2, b3, b4, b5, b6, b7⟩ := hla.box
  clear hla
  obtain ⟨rv, hrv⟩ : ∃ x, rightF post fl = x := ⟨_, rfl⟩
  obtain ⟨nv, hnv⟩ : ∃ x, cnF fl 20 = x := ⟨_, rfl⟩
  obtain ⟨cv, hcv⟩ : ∃ x, configF t.ph t.pm t.fc t.fp t.hp = x := ⟨_, rfl⟩
  rw [hrv] at HRT HRK
  rw [hnv] at HCT HCK
  rw [hcv] at HCF HCG
  clear hrv hnv hcv
  unfold Cf.cells at *
  go_enter Try.func4, Try.ntmps4
  go_wp2_with fail
  refine (H1.out _ L0.out).mono ?_
  rintro e w1 ⟨⟨d1, rfl, hd1⟩, hb⟩
  have L1 := Lib.hid (L0.out.step hb)
  have D1 := Lib.hid hd1
  clear hd1 hb
  cases d1
  · have T1 := Lib.hid (D1.out rfl)
    obtain ⟨a0, a1, a2, a3, a4, a5, a6, a7⟩ := L1.out.box
    go_wp2_with fail
    refine (H2.out _ L1.out).mono ?_
    rintro e w2 ⟨⟨d2, rfl, hd2⟩, hb⟩
    have L2 := Lib.hid (L1.out.step hb)
    have D2 := Lib.hid hd2
    clear hd2 hb a0 a1 a2 a3 a4 a5 a6 a7
    cases d2
    · have T2 := Lib.hid (D2.out rfl)
      obtain ⟨a0, a1, a2, a3, a4, a5, a6, a7⟩ := L2.out.box
      go_wp2_with fail
      refine (H3.out _ L2.out).mono ?_
      rintro e w3 ⟨⟨d3, rfl, hd3⟩, hb⟩
      have L3 := Lib.hid (L2.out.step hb)
      have D3 := Lib.hid hd3
      clear hd3 hb a0 a1 a2 a3 a4 a5 a6 a7
      cases d3
      · have T3 := Lib.hid (D3.out rfl)
        go_wp2_with fail
        refine (HCP.out T1.out _ L3.out).mono ?_
        rintro e w4 ⟨⟨A, c, rfl, ⟨hc1, hc2, hc3⟩, hrp⟩, hb⟩
        have L4 := Lib.hid (L3.out.step hb)
        have hr : RdS w4.heap.size w4 A fl := hrp.toF fun g hg => hg.2
        have HR := Lib.hid hr
        have HC1 := Lib.hid hc1
        clear hrp hr hb hc1 hc2 hc3
        have k10 : ∀ W, Below w4.heap.size w4 W → Calls Try.prog 10 #[.slice A fl.len c, .bool post] W (Quiet (.bool rv) W) := fun W hW => HRK.out T1.out A c W ((HR.out.below hW).mono hW.size) HC1.out
        have k15 : ∀ W, Below w4.heap.size w4 W → Calls Try.prog 15 #[.slice Al fl.len cl, .bool post] W (Quiet (.bool rv) W) := fun W hW => HRT.out T1.out W (L4.out.step hW)
        have k12 : ∀ W, Below w4.heap.size w4 W → Calls Try.prog 12 #[.slice A fl.len c] W (Quiet (.int .i64 nv) W) := fun W hW => HCK.out T1.out A c W ((HR.out.below hW).mono hW.size) HC1.out
        have k16 : ∀ W, Below w4.heap.size w4 W → Calls Try.prog 16 #[.slice Al fl.len cl] W (Quiet (.int .i64 nv) W) := fun W hW => HCT.out T1.out W (L4.out.step hW)
        have k17 : ∀ W, Below w4.heap.size w4 W → Calls Try.prog 17 #[.agg #[.int .i64 t.h, .int .i64 t.m, .int .i64 t.ph, .int .i64 t.pm, .slice t.Ap t.np t.cp, .slice t.Ac t.fc.len t.cc, .slice t.Ao t.fp.len t.co, .bool t.hp]] W (Quiet (.bool cv) W) := fun W hW => HCF.out T2.out T3.out W (L4.out.step hW)
        have k18 : ∀ W, Below w4.heap.size w4 W → Calls Try.prog 18 #[.agg #[.int .i64 t.h, .int .i64 t.m, .int .i64 t.ph, .int .i64 t.pm, .slice t.Ap t.np t.cp, .slice t.Ac t.fc.len t.cc, .slice t.Ao t.fp.len t.co, .bool t.hp]] W (Quiet (.bool cv) W) := fun W hW => HCG.out T2.out T3.out W (L4.out.step hW)
        have k19 : ∀ W, Below w4.heap.size w4 W → Calls Try.prog 19 #[.slice A fl.len c, .slice Al fl.len cl, .bool true] W (Quiet (.bool true) W) := fun W hW => HSM.out T1.out A c W (L4.out.step hW) ((HR.out.below hW).mono hW.size) HC1.out
        have K10 := Lib.hid k10
        have K15 := Lib.hid k15
        have K12 := Lib.hid k12
        have K16 := Lib.hid k16
        have K17 := Lib.hid k17
        have K18 := Lib.hid k18
        have K19 := Lib.hid k19
        clear k10 k15 k12 k16 k17 k18 k19
        have b1 : (rv == rv) = true := by simp
        have b2 : ((nv : Int) == (nv : Int)) = true := by simp
        have b3 : (cv == cv) = true := by simp
        obtain ⟨a0, a1, a2, a3, a4, a5, a6, a7⟩ := L4.out.box
        go_wp2_with fail
        go_region_held3 (fun w' => w'.cell? ⟨w.heap.size, 0, none⟩ = some (.int .i64 t.h) ∧ w'.cell? ⟨w.heap.size, 1, none⟩ = some (.int .i64 t.m) ∧ w'.cell? ⟨w.heap.size, 2, none⟩ = some (.int .i64 t.ph) ∧ w'.cell? ⟨w.heap.size, 3, none⟩ = some (.int .i64 t.pm) ∧ w'.cell? ⟨w.heap.size, 4, none⟩ = some (.slice t.Ap t.np t.cp) ∧ w'.cell? ⟨w.heap.size, 5, none⟩ = some (.slice t.Ac t.fc.len t.cc) ∧ w'.cell? ⟨w.heap.size, 6, none⟩ = some (.slice t.Ao t.fp.len t.co) ∧ w'.cell? ⟨w.heap.size, 7, none⟩ = some (.bool t.hp)) (first | exact ⟨a0, a1, a2, a3, a4, a5, a6, a7⟩ | (have hh := (L4.out.step M11.out).box; exact ⟨hh.c0, hh.c1, hh.c2, hh.c3, hh.c4, hh.c5, hh.c6, hh.c7⟩) | (have hh := (L4.out.step M19.out).box; exact ⟨hh.c0, hh.c1, hh.c2, hh.c3, hh.c4, hh.c5, hh.c6, hh.c7⟩) | (have hh := (L4.out.step M18.out).box; exact ⟨hh.c0, hh.c1, hh.c2, hh.c3, hh.c4, hh.c5, hh.c6, hh.c7⟩) | (have hh := (L4.out.step M17.out).box; exact ⟨hh.c0, hh.c1, hh.c2, hh.c3, hh.c4, hh.c5, hh.c6, hh.c7⟩) | (have hh := (L4.out.step M16.out).box; exact ⟨hh.c0, hh.c1, hh.c2, hh.c3, hh.c4, hh.c5, hh.c6, hh.c7⟩) | (have hh := (L4.out.step M12.out).box; exact ⟨hh.c0, hh.c1, hh.c2, hh.c3, hh.c4, hh.c5, hh.c6, hh.c7⟩) | (have hh := (L4.out.step M15.out).box; exact ⟨hh.c0, hh.c1, hh.c2, hh.c3, hh.c4, hh.c5, hh.c6, hh.c7⟩) | (have hh := (L4.out.step M10.out).box; exact ⟨hh.c0, hh.c1, hh.c2, hh.c3, hh.c4, hh.c5, hh.c6, hh.c7⟩) | go_keep) (first
          | (go_at_call 10; refine (K10.out _ ((Below.refl _ _).drew)).mono ?_; rintro e w100 ⟨rfl, hb⟩; have M10 := Lib.hid (of_drew hb); clear hb)
          | (go_at_call 15; refine (K15.out _ M10.out).mono ?_; rintro e w150 ⟨rfl, hb⟩; have M15 := Lib.hid (M10.out.trans (hb.mono M10.out.size)); clear hb)
          | (go_at_call 12; refine (K12.out _ M15.out).mono ?_; rintro e w120 ⟨rfl, hb⟩; have M12 := Lib.hid (M15.out.trans (hb.mono M15.out.size)); clear hb)
          | (go_at_call 16; refine (K16.out _ M12.out).mono ?_; rintro e w160 ⟨rfl, hb⟩; have M16 := Lib.hid (M12.out.trans (hb.mono M12.out.size)); clear hb)
          | (go_at_call 17; refine (K17.out _ M16.out).mono ?_; rintro e w170 ⟨rfl, hb⟩; have M17 := Lib.hid (M16.out.trans (hb.mono M16.out.size)); clear hb)
          | (go_at_call 18; refine (K18.out _ M17.out).mono ?_; rintro e w180 ⟨rfl, hb⟩; have M18 := Lib.hid (M17.out.trans (hb.mono M17.out.size)); clear hb)
          | (go_at_call 19; refine (K19.out _ M18.out).mono ?_; rintro e w190 ⟨rfl, hb⟩; have M19 := Lib.hid (M18.out.trans (hb.mono M18.out.size)); clear hb)
          | (go_at_call 11; refine (awake_any _).mono ?_; rintro e w12 ⟨rfl, hb⟩; have M11 := Lib.hid (M19.out.trans (hb.mono M19.out.size)); clear hb))
        all_goals
          go_wp2_with fail
          go_ret
          exact ⟨rfl, (L4.out.step M11.out).low⟩
      · go_wp2_with fail
        refine (awake_any _).mono ?_
        rintro e w4 ⟨rfl, hb⟩
        have L4 := Lib.hid (L3.out.step hb)
        clear hb
        go_wp2_with fail
        go_ret
        exact ⟨rfl, L4.out.low⟩
    · go_wp2_with fail
      refine (awake_any _).mono ?_
      rintro e w4 ⟨rfl, hb⟩
      have L4 := Lib.hid (L2.out.step hb)
      clear hb
      go_wp2_with fail
      go_ret
      exact ⟨rfl, L4.out.low⟩
  · go_wp2_with fail
    refine (awake_any _).mono ?_
    rintro e w4 ⟨rfl, hb⟩
    have L4 := Lib.hid (L1.out.step hb)
    clear hb
    go_wp2_with fail
    go_ret
    exact ⟨rfl, L4.out.low⟩
set_option maxRecDepth 100000 in
theorem tells_law {H : Type} {enc : TypeId × Value → H} {base0 base2 : Nat} {d0 d2 : DataW H} {p0 p2 : List MemPlace} (v0 : Value) (post : Bool) (v2 : Value) (w : World)
    (h0 : Value.okWide Try.prog w .any base0 22 v0) (k0 : DataW.Trod enc Try.prog w 0 (fun _ => true) true 22 v0 d0 p0) (s0 : (d0.weights Try.prog 22).all (· ≤ reachBytes) = true)
    (h2 : Value.okWide Try.prog w .any base2 40 v2) (k2 : DataW.Trod enc Try.prog w 0 (fun _ => true) true 40 v2 d2 p2) (s2 : (d2.weights Try.prog 40).all (· ≤ reachBytes) = true) :
    Calls Try.prog 4 #[v0, .bool post, v2] w fun e w' => e = .returned (.bool true) ∧ Below w.heap.size w w' := by
  obtain ⟨f, A, c, rfl, hl, hr⟩ := open_list h0 k0 s0
  obtain ⟨t, rfl, hok⟩ := open_config h2 k2 s2
  exact (tells_any f A c post t w hr hl hok).mono fun _ _ h => ⟨h.ret, h.low⟩
end Go.Proofs.Ytebmgladdgmmeaa
