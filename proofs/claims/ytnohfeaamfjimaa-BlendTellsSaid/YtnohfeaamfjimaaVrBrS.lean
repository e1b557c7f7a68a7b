/- The reference: a slow chance learns: walk. -/
import Derived.Test.YtnohfeaamfjimaaVrBrM
import Derived.StillTailTactics
import Derived.IntWalk
namespace Go.Proofs.Ytnohfeaamfjimaa
open Go.RowKit Go.WideShapes
set_option linter.unusedVariables false
set_option linter.unusedSimpArgs false
/-- Nothing told; one thing turned. -/
structure LrR (Q : World → Prop) (T : Nat → Prop) (w0 : World) (e : Ending) (w : World) : Prop where
  ret : e = .returned (.tuple #[])
  q : Q w
  frm : Frm T w0 w
theorem Row.drew {w : World} {g : Nat} {t : TypeId} {xs : List Value} (h : Row w g t xs) : Row w.drew g t xs := h
theorem ints_set' (l : List Int) (k : Nat) (v : Int) : (ints l).set k (.int .i64 v) = ints (l.set k v) := by unfold ints; rw [List.map_set]
theorem octs_set' (l : List Int) (k : Nat) (v : Int) : (octs l).set k (.int .u8 v) = octs (l.set k v) := by unfold octs; rw [List.map_set]
theorem row_i {w : World} {g : Nat} {X : List Int} {k : Nat} {v : Int} (h : Row w g 3 (ints X)) (hv : X[k]? = some v) : w.cell? ⟨g, k, none⟩ = some (.int .i64 v) := h.at (by unfold ints; rw [List.getElem?_map, hv]; rfl)
theorem row_o {w : World} {g : Nat} {X : List Int} {k : Nat} {v : Int} (h : Row w g 5 (octs X)) (hv : X[k]? = some v) : w.cell? ⟨g, k, none⟩ = some (.int .u8 v) := h.at (by unfold octs; rw [List.getElem?_map, hv]; rfl)
theorem Row.seti {w : World} {g : Nat} {X : List Int} {k : Nat} {x : Int} (h : Row w g 3 (ints X)) (hv : X[k]? = some x) (v : Int) : Row (w.setCell ⟨g, k, none⟩ (.int .i64 v)) g 3 (ints (X.set k v)) := by
  rw [← ints_set']
  exact h.set (by rw [ints_length]; exact (List.getElem?_eq_some_iff.1 hv).1) _
theorem Row.seto {w : World} {g : Nat} {X : List Int} {k : Nat} {x : Int} (h : Row w g 5 (octs X)) (hv : X[k]? = some x) (v : Int) : Row (w.setCell ⟨g, k, none⟩ (.int .u8 v)) g 5 (octs (X.set k v)) := by
  rw [← octs_set']
  exact h.set (by rw [octs_length]; exact (List.getElem?_eq_some_iff.1 hv).1) _
set_option maxRecDepth 100000 in
set_option maxHeartbeats 4000000 in
theorem slowR (R o g1 n1 m1 g2 n2 m2 a : Nat) (x m bit lim : Int) (X Y : List Int) (w : World) (r1 : Row w g1 3 (ints X)) (r2 : Row w g2 3 (ints Y)) (hx : X[a]? = some x) (hm : Y[a]? = some m) (x0 : 0 ≤ x) (x1 : x ≤ 4194303) (m0 : 0 ≤ m) (mm1 : m ≤ 1023) (hb : bit = 0 ∨ bit = 1) (hl0 : 1 ≤ lim) (hl1 : lim ≤ 1023) (ha1 : a < n1) (ha2 : a < n2) (nR1 : ¬ R = g1) (nR2 : ¬ R = g2) (n12 : ¬ g1 = g2) (k8 : w.cell? ⟨R, o + 8, none⟩ = some (.slice (some ⟨g1, 0, none⟩) n1 m1)) (k9 : w.cell? ⟨R, o + 9, none⟩ = some (.slice (some ⟨g2, 0, none⟩) n2 m2)) (k6 : w.cell? ⟨R, o + 6, none⟩ = some (.int .i64 lim)) :
    Calls Try.prog 55 #[.pointer (some ⟨R, o, none⟩), .int .i64 (a : Int), .int .i64 bit] w (LrR (fun w' => Row w' g1 3 (ints (X.set a (chL x m bit))) ∧ Row w' g2 3 (ints (Y.set a (min (m + 1) lim)))) (fun b => b = g1 ∨ b = g2) w) := by
  have km := row_i r2 hm
  have hcl := chL_bd x0 x1 m0 hb
  have N12 := Lib.hid n12
  have n21 : ¬ g2 = g1 := fun e => n12 e.symm
  have hnR : ¬ (R = g1 ∨ R = g2) := fun h => h.elim nR1 nR2
  have nR := hnR
  have HL := Lib.hid (show Frm (fun b => b = g1) w w from Frm.refl _ _)
  have HF := Lib.hid (show ∀ W : World, Frm (fun b => b = g1) w W → W.cell? ⟨R, o + 8, none⟩ = some (.slice (some ⟨g1, 0, none⟩) n1 m1) ∧ W.cell? ⟨R, o + 9, none⟩ = some (.slice (some ⟨g2, 0, none⟩) n2 m2) ∧ W.cell? ⟨R, o + 6, none⟩ = some (.int .i64 lim) ∧ W.cell? ⟨g2, a, none⟩ = some (.int .i64 m) ∧ Frm (fun b => b = g1) w W from fun W hL => ⟨(hL.cell (block_lt_of_cell k8) (nR1)).trans k8, (hL.cell (block_lt_of_cell k9) (nR1)).trans k9, (hL.cell (block_lt_of_cell k6) (nR1)).trans k6, (hL.cell (block_lt_of_cell km) (n21)).trans km, hL⟩)
  have HG := Lib.hid (show ∀ W : World, Frm (fun b => b = g1 ∨ b = g2) w W → W.cell? ⟨R, o + 8, none⟩ = some (.slice (some ⟨g1, 0, none⟩) n1 m1) ∧ W.cell? ⟨R, o + 9, none⟩ = some (.slice (some ⟨g2, 0, none⟩) n2 m2) ∧ W.cell? ⟨R, o + 6, none⟩ = some (.int .i64 lim) ∧ Frm (fun b => b = g1 ∨ b = g2) w W from fun W hL => ⟨(hL.cell (block_lt_of_cell k8) (nR)).trans k8, (hL.cell (block_lt_of_cell k9) (nR)).trans k9, (hL.cell (block_lt_of_cell k6) (nR)).trans k6, hL⟩)
  have h2 : -4194303 ≤ (bit * 4194303 - x).tdiv (m + 2) ∧ (bit * 4194303 - x).tdiv (m + 2) ≤ 4194303 := by
    have e : chL x m bit = x + (bit * 4194303 - x).tdiv (m + 2) := rfl
    omega
  have hcl2 : chL x m bit = x + (bit * 4194303 - x).tdiv (m + 2) := rfl
  obtain ⟨C, hC⟩ : ∃ C, chL x m bit = C := ⟨_, rfl⟩
  rw [hC] at hcl hcl2 ⊢
  obtain ⟨D, hD⟩ : ∃ D, (bit * 4194303 - x).tdiv (m + 2) = D := ⟨_, rfl⟩
  rw [hD] at h2 hcl2
  have HIN := Lib.hid (fun W => intoR (m + 1) 0 lim W (by omega))
  have hin : intoI (m + 1) 0 lim = min (m + 1) lim := by unfold intoI; omega
  rw [hin] at HIN
  obtain ⟨N, hN⟩ : ∃ N, min (m + 1) lim = N := ⟨_, rfl⟩
  rw [hN] at HIN ⊢
  have hm2 : ¬ m + 2 = 0 := by omega
  have e2 := IntWalk.i64_in (m + 2) (by omega)
  have e3 := IntWalk.i64_in D (by omega)
  have e4 : IntKind.i64.wrap (x + D) = C := by rw [← hcl2]; exact IntWalk.i64_in C (by omega)
  have e5 := IntWalk.i64_in (m + 1) (by omega)
  have hai : (a : Int) < n1 := by omega
  have haj : (a : Int) < n2 := by omega
  have HR1 := Lib.hid r1
  have HR2 := Lib.hid r2
  have HX := Lib.hid hx
  have HM := Lib.hid hm
  have HD := Lib.hid hD
  clear r1 r2 hx hm hin hN hC hcl hcl2 hnR nR n21 km
  rcases hb with rfl | rfl
  · have hd : (-x).tdiv (m + 2) = D := by have := HD.out; rwa [show (0 : Int) * 4194303 - x = -x by omega] at this
    have e1 := IntWalk.i64_in (-x) (by omega)
    go_enter Try.func55, Try.ntmps55
    go_upto_region 3 with fail
    refine wp_region_held_drew (S := (fun W : World => W.cell? ⟨R, o + 8, none⟩ = some (.slice (some ⟨g1, 0, none⟩) n1 m1) ∧ W.cell? ⟨R, o + 9, none⟩ = some (.slice (some ⟨g2, 0, none⟩) n2 m2) ∧ W.cell? ⟨R, o + 6, none⟩ = some (.int .i64 lim) ∧ W.cell? ⟨g2, a, none⟩ = some (.int .i64 m) ∧ Frm (fun b => b = g1) w W)) (by kernel_rfl) (HF.out _ ((HL.out).drew)) (fun hHeld => ?_)
    have q1 := row_i (HR1.out.drew) HX.out
    have z1 := (HR1.out.drew).frozen a
    have hr1d := HR1.out.drew
    have hr2d := HR2.out.drew
    obtain ⟨wd, hwd⟩ : ∃ xq, w.drew = xq := ⟨_, rfl⟩
    rw [hwd] at q1 z1 hr1d hr2d hHeld ⊢
    have HR1D := Lib.hid hr1d
    have HR2D := Lib.hid hr2d
    clear hwd hr1d hr2d
    refine tkz (i := 0) (d := 9) rfl rfl ?_
    simp only [Act.put, zzA, zzB, zzC]
    refine tkz (i := 1) (d := 10) rfl rfl ?_
    simp only [Act.put, zzA, zzB, zzC]
    refine tkz (i := 2) (d := 11) rfl rfl ?_
    simp only [Act.put, zzA, zzB, zzC]
    refine tkz (i := 3) (d := 12) rfl rfl ?_
    simp only [Act.put, zzA, zzB, zzC]
    refine tkz (i := 4) (d := 13) rfl rfl ?_
    simp only [Act.put, zzA, zzB, zzC]
    refine tkz (i := 5) (d := 14) rfl rfl ?_
    simp only [Act.put, zzA, zzB, zzC]
    refine tkz (i := 6) (d := 15) rfl rfl ?_
    simp only [Act.put, zzA, zzB, zzC]
    refine tkz (i := 7) (d := 16) rfl rfl ?_
    simp only [Act.put, zzA, zzB, zzC]
    refine tkz (i := 8) (d := 17) rfl rfl ?_
    simp only [Act.put, zzA, zzB, zzC]
    refine tkz (i := 9) (d := 18) rfl rfl ?_
    simp only [Act.put, zzA, zzB, zzC]
    refine tkz (i := 10) (d := 19) rfl rfl ?_
    simp only [Act.put, zzA, zzB, zzC]
    refine tkz (i := 12) (d := 21) rfl rfl ?_
    simp only [Act.put, zzA, zzB, zzC]
    refine tkz (i := 13) (d := 22) rfl rfl ?_
    simp only [Act.put, zzA, zzB, zzC]
    refine tkz (i := 14) (d := 23) rfl rfl ?_
    simp only [Act.put, zzA, zzB, zzC]
    refine tkz (i := 15) (d := 24) rfl rfl ?_
    simp only [Act.put, zzA, zzB, zzC]
    refine tkz (i := 16) (d := 25) rfl rfl ?_
    simp only [Act.put, zzA, zzB, zzC]
    refine tkz (i := 17) (d := 26) rfl rfl ?_
    simp only [Act.put, zzA, zzB, zzC]
    refine tkz (i := 18) (d := 27) rfl rfl ?_
    simp only [Act.put, zzA, zzB, zzC]
    refine tkz (i := 21) (d := 30) rfl rfl ?_
    simp only [Act.put, zzA, zzB, zzC]
    refine tkz (i := 22) (d := 31) rfl rfl ?_
    simp only [Act.put, zzA, zzB, zzC]
    refine tkz (i := 23) (d := 32) rfl rfl ?_
    simp only [Act.put, zzA, zzB, zzC]
    refine tkz (i := 24) (d := 33) rfl rfl ?_
    simp only [Act.put, zzA, zzB, zzC]
    refine tkz (i := 25) (d := 34) rfl rfl ?_
    simp only [Act.put, zzA, zzB, zzC]
    refine tkz (i := 26) (d := 35) rfl rfl ?_
    simp only [Act.put, zzA, zzB, zzC]
    refine tkz (i := 27) (d := 36) rfl rfl ?_
    simp only [Act.put, zzA, zzB, zzC]
    refine tkz (i := 28) (d := 37) rfl rfl ?_
    simp only [Act.put, zzA, zzB, zzC]
    refine wpAnyH_ready (rs := [11, 19]) (by kernel_rfl) (by simp) ?_
    refine AllReadyH.cons (o := _) rfl (fun K hK => ?_) (AllReadyH.cons (o := _) rfl (fun K hK => ?_) AllReadyH.nil)
    · go_simp
      refine hK.out _ _ hHeld (fun hHeld => ?_)
      clear hK K
      try simp only [Act.put, zzA, zzB, zzC]
      refine rdz (i := 19) rfl (fun K hK => ?_)
      go_simp
      refine hK.out _ _ hHeld (fun hHeld => ?_)
      clear hK K
      try simp only [Act.put, zzA, zzB, zzC]
      refine tkz (i := 20) (d := 29) rfl rfl ?_
      simp only [Act.put, zzA, zzB, zzC]
      refine tkz (i := 29) (d := 38) rfl rfl ?_
      simp only [Act.put, zzA, zzB, zzC]
      refine tkz (i := 30) (d := 39) rfl rfl ?_
      simp only [Act.put, zzA, zzB, zzC]
      refine tkz (i := 31) (d := 40) rfl rfl ?_
      simp only [Act.put, zzA, zzB, zzC]
      refine rdz (i := 32) rfl (fun K hK => ?_)
      go_simp
      refine hK.out _ _ (HF.out _ ((hHeld.2.2.2.2).setCell (p := ⟨g1, a, none⟩) (fun _ => rfl) _)) (fun hHeld => ?_)
      clear hK K
      try simp only [Act.put, zzA, zzB, zzC]
      refine wpAnyH_done (by kernel_rfl) ?_ _
      have HFA := Lib.hid (hHeld.2.2.2.2)
      obtain ⟨w3, hw3⟩ : ∃ xq, wd.setCell ⟨g1, a, none⟩ (.int .i64 C) = xq := ⟨_, rfl⟩
      have hra := HR1D.out.seti HX.out C
      have hrb := HR2D.out.far (p := ⟨g1, a, none⟩) (fun e => N12.out e.symm) (.int .i64 C)
      rw [hw3] at HFA hra hrb hHeld ⊢
      clear hw3 q1 z1
      have HRA := Lib.hid hra
      have HRB := Lib.hid hrb
      have HFB := Lib.hid (show Frm (fun b => b = g1 ∨ b = g2) w w3 from HFA.out.mono (fun _ _ h => .inl h))
      clear hra hrb hHeld
      go_upto_region 4 with fail
      refine wp_region_held_drew (S := (fun W : World => W.cell? ⟨R, o + 8, none⟩ = some (.slice (some ⟨g1, 0, none⟩) n1 m1) ∧ W.cell? ⟨R, o + 9, none⟩ = some (.slice (some ⟨g2, 0, none⟩) n2 m2) ∧ W.cell? ⟨R, o + 6, none⟩ = some (.int .i64 lim) ∧ Frm (fun b => b = g1 ∨ b = g2) w W)) (by kernel_rfl) (HG.out _ ((HFB.out).drew)) (fun hHeld => ?_)
      have q2 := row_i (HRB.out.drew) HM.out
      have z2 := (HRB.out.drew).frozen a
      have hrad := HRA.out.drew
      have hrbd := HRB.out.drew
      obtain ⟨we, hwe⟩ : ∃ xq, w3.drew = xq := ⟨_, rfl⟩
      rw [hwe] at q2 z2 hrad hrbd hHeld ⊢
      have HRAD := Lib.hid hrad
      have HRBD := Lib.hid hrbd
      clear hwe hrad hrbd
      refine tkz (i := 0) (d := 41) rfl rfl ?_
      simp only [Act.put, zzA, zzB, zzC]
      refine tkz (i := 1) (d := 42) rfl rfl ?_
      simp only [Act.put, zzA, zzB, zzC]
      refine tkz (i := 2) (d := 43) rfl rfl ?_
      simp only [Act.put, zzA, zzB, zzC]
      refine tkz (i := 3) (d := 44) rfl rfl ?_
      simp only [Act.put, zzA, zzB, zzC]
      refine tkz (i := 4) (d := 45) rfl rfl ?_
      simp only [Act.put, zzA, zzB, zzC]
      refine tkz (i := 5) (d := 46) rfl rfl ?_
      simp only [Act.put, zzA, zzB, zzC]
      refine tkz (i := 6) (d := 47) rfl rfl ?_
      simp only [Act.put, zzA, zzB, zzC]
      refine tkz (i := 7) (d := 48) rfl rfl ?_
      simp only [Act.put, zzA, zzB, zzC]
      refine tkz (i := 8) (d := 49) rfl rfl ?_
      simp only [Act.put, zzA, zzB, zzC]
      refine tkz (i := 9) (d := 50) rfl rfl ?_
      simp only [Act.put, zzA, zzB, zzC]
      refine tkz (i := 10) (d := 51) rfl rfl ?_
      simp only [Act.put, zzA, zzB, zzC]
      refine tkz (i := 13) (d := 54) rfl rfl ?_
      simp only [Act.put, zzA, zzB, zzC]
      refine tkz (i := 14) (d := 55) rfl rfl ?_
      simp only [Act.put, zzA, zzB, zzC]
      refine tkz (i := 15) (d := 56) rfl rfl ?_
      simp only [Act.put, zzA, zzB, zzC]
      refine tkz (i := 16) (d := 57) rfl rfl ?_
      simp only [Act.put, zzA, zzB, zzC]
      refine tkz (i := 17) (d := 58) rfl rfl ?_
      simp only [Act.put, zzA, zzB, zzC]
      refine rdz (i := 11) rfl (fun K hK => ?_)
      go_simp
      refine hK.out _ _ hHeld (fun hHeld => ?_)
      clear hK K
      try simp only [Act.put, zzA, zzB, zzC]
      refine tkz (i := 12) (d := 53) rfl rfl ?_
      simp only [Act.put, zzA, zzB, zzC]
      refine rdz (i := 18) rfl (fun K hK => ?_)
      go_simp
      refine (HIN.out _).mono ?_
      rintro e w4 ⟨rfl, rfl⟩
      go_wp2_with fail
      refine hK.out _ _ hHeld (fun hHeld => ?_)
      clear hK K
      try simp only [Act.put, zzA, zzB, zzC]
      refine tkz (i := 19) (d := 60) rfl rfl ?_
      simp only [Act.put, zzA, zzB, zzC]
      refine rdz (i := 20) rfl (fun K hK => ?_)
      go_simp
      refine hK.out _ _ (HG.out _ ((hHeld.2.2.2).setCell (p := ⟨g2, a, none⟩) (fun _ => .inr rfl) _)) (fun hHeld => ?_)
      clear hK K
      try simp only [Act.put, zzA, zzB, zzC]
      refine wpAnyH_done (by kernel_rfl) ?_ _
      go_wp2
      refine bodyPost_ret (v := .tuple #[]) (by simp [results, Try.results55, go_sem]) rfl ?_
      exact ⟨rfl, ⟨HRAD.out.far (p := ⟨g2, a, none⟩) N12.out _, HRBD.out.seti HM.out _⟩, hHeld.2.2.2⟩
    · go_simp
      refine hK.out _ _ hHeld (fun hHeld => ?_)
      clear hK K
      try simp only [Act.put, zzA, zzB, zzC]
      refine tkz (i := 20) (d := 29) rfl rfl ?_
      simp only [Act.put, zzA, zzB, zzC]
      refine tkz (i := 29) (d := 38) rfl rfl ?_
      simp only [Act.put, zzA, zzB, zzC]
      refine rdz (i := 11) rfl (fun K hK => ?_)
      go_simp
      refine hK.out _ _ hHeld (fun hHeld => ?_)
      clear hK K
      try simp only [Act.put, zzA, zzB, zzC]
      refine tkz (i := 30) (d := 39) rfl rfl ?_
      simp only [Act.put, zzA, zzB, zzC]
      refine tkz (i := 31) (d := 40) rfl rfl ?_
      simp only [Act.put, zzA, zzB, zzC]
      refine rdz (i := 32) rfl (fun K hK => ?_)
      go_simp
      refine hK.out _ _ (HF.out _ ((hHeld.2.2.2.2).setCell (p := ⟨g1, a, none⟩) (fun _ => rfl) _)) (fun hHeld => ?_)
      clear hK K
      try simp only [Act.put, zzA, zzB, zzC]
      refine wpAnyH_done (by kernel_rfl) ?_ _
      have HFA := Lib.hid (hHeld.2.2.2.2)
      obtain ⟨w3, hw3⟩ : ∃ xq, wd.setCell ⟨g1, a, none⟩ (.int .i64 C) = xq := ⟨_, rfl⟩
      have hra := HR1D.out.seti HX.out C
      have hrb := HR2D.out.far (p := ⟨g1, a, none⟩) (fun e => N12.out e.symm) (.int .i64 C)
      rw [hw3] at HFA hra hrb hHeld ⊢
      clear hw3 q1 z1
      have HRA := Lib.hid hra
      have HRB := Lib.hid hrb
      have HFB := Lib.hid (show Frm (fun b => b = g1 ∨ b = g2) w w3 from HFA.out.mono (fun _ _ h => .inl h))
      clear hra hrb hHeld
      go_upto_region 4 with fail
      refine wp_region_held_drew (S := (fun W : World => W.cell? ⟨R, o + 8, none⟩ = some (.slice (some ⟨g1, 0, none⟩) n1 m1) ∧ W.cell? ⟨R, o + 9, none⟩ = some (.slice (some ⟨g2, 0, none⟩) n2 m2) ∧ W.cell? ⟨R, o + 6, none⟩ = some (.int .i64 lim) ∧ Frm (fun b => b = g1 ∨ b = g2) w W)) (by kernel_rfl) (HG.out _ ((HFB.out).drew)) (fun hHeld => ?_)
      have q2 := row_i (HRB.out.drew) HM.out
      have z2 := (HRB.out.drew).frozen a
      have hrad := HRA.out.drew
      have hrbd := HRB.out.drew
      obtain ⟨we, hwe⟩ : ∃ xq, w3.drew = xq := ⟨_, rfl⟩
      rw [hwe] at q2 z2 hrad hrbd hHeld ⊢
      have HRAD := Lib.hid hrad
      have HRBD := Lib.hid hrbd
      clear hwe hrad hrbd
      refine tkz (i := 0) (d := 41) rfl rfl ?_
      simp only [Act.put, zzA, zzB, zzC]
      refine tkz (i := 1) (d := 42) rfl rfl ?_
      simp only [Act.put, zzA, zzB, zzC]
      refine tkz (i := 2) (d := 43) rfl rfl ?_
      simp only [Act.put, zzA, zzB, zzC]
      refine tkz (i := 3) (d := 44) rfl rfl ?_
      simp only [Act.put, zzA, zzB, zzC]
      refine tkz (i := 4) (d := 45) rfl rfl ?_
      simp only [Act.put, zzA, zzB, zzC]
      refine tkz (i := 5) (d := 46) rfl rfl ?_
      simp only [Act.put, zzA, zzB, zzC]
      refine tkz (i := 6) (d := 47) rfl rfl ?_
      simp only [Act.put, zzA, zzB, zzC]
      refine tkz (i := 7) (d := 48) rfl rfl ?_
      simp only [Act.put, zzA, zzB, zzC]
      refine tkz (i := 8) (d := 49) rfl rfl ?_
      simp only [Act.put, zzA, zzB, zzC]
      refine tkz (i := 9) (d := 50) rfl rfl ?_
      simp only [Act.put, zzA, zzB, zzC]
      refine tkz (i := 10) (d := 51) rfl rfl ?_
      simp only [Act.put, zzA, zzB, zzC]
      refine tkz (i := 13) (d := 54) rfl rfl ?_
      simp only [Act.put, zzA, zzB, zzC]
      refine tkz (i := 14) (d := 55) rfl rfl ?_
      simp only [Act.put, zzA, zzB, zzC]
      refine tkz (i := 15) (d := 56) rfl rfl ?_
      simp only [Act.put, zzA, zzB, zzC]
      refine tkz (i := 16) (d := 57) rfl rfl ?_
      simp only [Act.put, zzA, zzB, zzC]
      refine tkz (i := 17) (d := 58) rfl rfl ?_
      simp only [Act.put, zzA, zzB, zzC]
      refine rdz (i := 11) rfl (fun K hK => ?_)
      go_simp
      refine hK.out _ _ hHeld (fun hHeld => ?_)
      clear hK K
      try simp only [Act.put, zzA, zzB, zzC]
      refine tkz (i := 12) (d := 53) rfl rfl ?_
      simp only [Act.put, zzA, zzB, zzC]
      refine rdz (i := 18) rfl (fun K hK => ?_)
      go_simp
      refine (HIN.out _).mono ?_
      rintro e w4 ⟨rfl, rfl⟩
      go_wp2_with fail
      refine hK.out _ _ hHeld (fun hHeld => ?_)
      clear hK K
      try simp only [Act.put, zzA, zzB, zzC]
      refine tkz (i := 19) (d := 60) rfl rfl ?_
      simp only [Act.put, zzA, zzB, zzC]
      refine rdz (i := 20) rfl (fun K hK => ?_)
      go_simp
      refine hK.out _ _ (HG.out _ ((hHeld.2.2.2).setCell (p := ⟨g2, a, none⟩) (fun _ => .inr rfl) _)) (fun hHeld => ?_)
      clear hK K
      try simp only [Act.put, zzA, zzB, zzC]
      refine wpAnyH_done (by kernel_rfl) ?_ _
      go_wp2
      refine bodyPost_ret (v := .tuple #[]) (by simp [results, Try.results55, go_sem]) rfl ?_
      exact ⟨rfl, ⟨HRAD.out.far (p := ⟨g2, a, none⟩) N12.out _, HRBD.out.seti HM.out _⟩, hHeld.2.2.2⟩
  · have hd : (4194303 - x).tdiv (m + 2) = D := by have := HD.out; rwa [show (1 : Int) * 4194303 - x = 4194303 - x by omega] at this
    have e1 := IntWalk.i64_in (4194303 - x) (by omega)
    go_enter Try.func55, Try.ntmps55
    go_upto_region 3 with fail
    refine wp_region_held_drew (S := (fun W : World => W.cell? ⟨R, o + 8, none⟩ = some (.slice (some ⟨g1, 0, none⟩) n1 m1) ∧ W.cell? ⟨R, o + 9, none⟩ = some (.slice (some ⟨g2, 0, none⟩) n2 m2) ∧ W.cell? ⟨R, o + 6, none⟩ = some (.int .i64 lim) ∧ W.cell? ⟨g2, a, none⟩ = some (.int .i64 m) ∧ Frm (fun b => b = g1) w W)) (by kernel_rfl) (HF.out _ ((HL.out).drew)) (fun hHeld => ?_)
    have q1 := row_i (HR1.out.drew) HX.out
    have z1 := (HR1.out.drew).frozen a
    have hr1d := HR1.out.drew
    have hr2d := HR2.out.drew
    obtain ⟨wd, hwd⟩ : ∃ xq, w.drew = xq := ⟨_, rfl⟩
    rw [hwd] at q1 z1 hr1d hr2d hHeld ⊢
    have HR1D := Lib.hid hr1d
    have HR2D := Lib.hid hr2d
    clear hwd hr1d hr2d
    refine tkz (i := 0) (d := 9) rfl rfl ?_
    simp only [Act.put, zzA, zzB, zzC]
    refine tkz (i := 1) (d := 10) rfl rfl ?_
    simp only [Act.put, zzA, zzB, zzC]
    refine tkz (i := 2) (d := 11) rfl rfl ?_
    simp only [Act.put, zzA, zzB, zzC]
    refine tkz (i := 3) (d := 12) rfl rfl ?_
    simp only [Act.put, zzA, zzB, zzC]
    refine tkz (i := 4) (d := 13) rfl rfl ?_
    simp only [Act.put, zzA, zzB, zzC]
    refine tkz (i := 5) (d := 14) rfl rfl ?_
    simp only [Act.put, zzA, zzB, zzC]
    refine tkz (i := 6) (d := 15) rfl rfl ?_
    simp only [Act.put, zzA, zzB, zzC]
    refine tkz (i := 7) (d := 16) rfl rfl ?_
    simp only [Act.put, zzA, zzB, zzC]
    refine tkz (i := 8) (d := 17) rfl rfl ?_
    simp only [Act.put, zzA, zzB, zzC]
    refine tkz (i := 9) (d := 18) rfl rfl ?_
    simp only [Act.put, zzA, zzB, zzC]
    refine tkz (i := 10) (d := 19) rfl rfl ?_
    simp only [Act.put, zzA, zzB, zzC]
    refine tkz (i := 12) (d := 21) rfl rfl ?_
    simp only [Act.put, zzA, zzB, zzC]
    refine tkz (i := 13) (d := 22) rfl rfl ?_
    simp only [Act.put, zzA, zzB, zzC]
    refine tkz (i := 14) (d := 23) rfl rfl ?_
    simp only [Act.put, zzA, zzB, zzC]
    refine tkz (i := 15) (d := 24) rfl rfl ?_
    simp only [Act.put, zzA, zzB, zzC]
    refine tkz (i := 16) (d := 25) rfl rfl ?_
    simp only [Act.put, zzA, zzB, zzC]
    refine tkz (i := 17) (d := 26) rfl rfl ?_
    simp only [Act.put, zzA, zzB, zzC]
    refine tkz (i := 18) (d := 27) rfl rfl ?_
    simp only [Act.put, zzA, zzB, zzC]
    refine tkz (i := 21) (d := 30) rfl rfl ?_
    simp only [Act.put, zzA, zzB, zzC]
    refine tkz (i := 22) (d := 31) rfl rfl ?_
    simp only [Act.put, zzA, zzB, zzC]
    refine tkz (i := 23) (d := 32) rfl rfl ?_
    simp only [Act.put, zzA, zzB, zzC]
    refine tkz (i := 24) (d := 33) rfl rfl ?_
    simp only [Act.put, zzA, zzB, zzC]
    refine tkz (i := 25) (d := 34) rfl rfl ?_
    simp only [Act.put, zzA, zzB, zzC]
    refine tkz (i := 26) (d := 35) rfl rfl ?_
    simp only [Act.put, zzA, zzB, zzC]
    refine tkz (i := 27) (d := 36) rfl rfl ?_
    simp only [Act.put, zzA, zzB, zzC]
    refine tkz (i := 28) (d := 37) rfl rfl ?_
    simp only [Act.put, zzA, zzB, zzC]
    refine wpAnyH_ready (rs := [11, 19]) (by kernel_rfl) (by simp) ?_
    refine AllReadyH.cons (o := _) rfl (fun K hK => ?_) (AllReadyH.cons (o := _) rfl (fun K hK => ?_) AllReadyH.nil)
    · go_simp
      refine hK.out _ _ hHeld (fun hHeld => ?_)
      clear hK K
      try simp only [Act.put, zzA, zzB, zzC]
      refine rdz (i := 19) rfl (fun K hK => ?_)
      go_simp
      refine hK.out _ _ hHeld (fun hHeld => ?_)
      clear hK K
      try simp only [Act.put, zzA, zzB, zzC]
      refine tkz (i := 20) (d := 29) rfl rfl ?_
      simp only [Act.put, zzA, zzB, zzC]
      refine tkz (i := 29) (d := 38) rfl rfl ?_
      simp only [Act.put, zzA, zzB, zzC]
      refine tkz (i := 30) (d := 39) rfl rfl ?_
      simp only [Act.put, zzA, zzB, zzC]
      refine tkz (i := 31) (d := 40) rfl rfl ?_
      simp only [Act.put, zzA, zzB, zzC]
      refine rdz (i := 32) rfl (fun K hK => ?_)
      go_simp
      refine hK.out _ _ (HF.out _ ((hHeld.2.2.2.2).setCell (p := ⟨g1, a, none⟩) (fun _ => rfl) _)) (fun hHeld => ?_)
      clear hK K
      try simp only [Act.put, zzA, zzB, zzC]
      refine wpAnyH_done (by kernel_rfl) ?_ _
      have HFA := Lib.hid (hHeld.2.2.2.2)
      obtain ⟨w3, hw3⟩ : ∃ xq, wd.setCell ⟨g1, a, none⟩ (.int .i64 C) = xq := ⟨_, rfl⟩
      have hra := HR1D.out.seti HX.out C
      have hrb := HR2D.out.far (p := ⟨g1, a, none⟩) (fun e => N12.out e.symm) (.int .i64 C)
      rw [hw3] at HFA hra hrb hHeld ⊢
      clear hw3 q1 z1
      have HRA := Lib.hid hra
      have HRB := Lib.hid hrb
      have HFB := Lib.hid (show Frm (fun b => b = g1 ∨ b = g2) w w3 from HFA.out.mono (fun _ _ h => .inl h))
      clear hra hrb hHeld
      go_upto_region 4 with fail
      refine wp_region_held_drew (S := (fun W : World => W.cell? ⟨R, o + 8, none⟩ = some (.slice (some ⟨g1, 0, none⟩) n1 m1) ∧ W.cell? ⟨R, o + 9, none⟩ = some (.slice (some ⟨g2, 0, none⟩) n2 m2) ∧ W.cell? ⟨R, o + 6, none⟩ = some (.int .i64 lim) ∧ Frm (fun b => b = g1 ∨ b = g2) w W)) (by kernel_rfl) (HG.out _ ((HFB.out).drew)) (fun hHeld => ?_)
      have q2 := row_i (HRB.out.drew) HM.out
      have z2 := (HRB.out.drew).frozen a
      have hrad := HRA.out.drew
      have hrbd := HRB.out.drew
      obtain ⟨we, hwe⟩ : ∃ xq, w3.drew = xq := ⟨_, rfl⟩
      rw [hwe] at q2 z2 hrad hrbd hHeld ⊢
      have HRAD := Lib.hid hrad
      have HRBD := Lib.hid hrbd
      clear hwe hrad hrbd
      refine tkz (i := 0) (d := 41) rfl rfl ?_
      simp only [Act.put, zzA, zzB, zzC]
      refine tkz (i := 1) (d := 42) rfl rfl ?_
      simp only [Act.put, zzA, zzB, zzC]
      refine tkz (i := 2) (d := 43) rfl rfl ?_
      simp only [Act.put, zzA, zzB, zzC]
      refine tkz (i := 3) (d := 44) rfl rfl ?_
      simp only [Act.put, zzA, zzB, zzC]
      refine tkz (i := 4) (d := 45) rfl rfl ?_
      simp only [Act.put, zzA, zzB, zzC]
      refine tkz (i := 5) (d := 46) rfl rfl ?_
      simp only [Act.put, zzA, zzB, zzC]
      refine tkz (i := 6) (d := 47) rfl rfl ?_
      simp only [Act.put, zzA, zzB, zzC]
      refine tkz (i := 7) (d := 48) rfl rfl ?_
      simp only [Act.put, zzA, zzB, zzC]
      refine tkz (i := 8) (d := 49) rfl rfl ?_
      simp only [Act.put, zzA, zzB, zzC]
      refine tkz (i := 9) (d := 50) rfl rfl ?_
      simp only [Act.put, zzA, zzB, zzC]
      refine tkz (i := 10) (d := 51) rfl rfl ?_
      simp only [Act.put, zzA, zzB, zzC]
      refine tkz (i := 13) (d := 54) rfl rfl ?_
      simp only [Act.put, zzA, zzB, zzC]
      refine tkz (i := 14) (d := 55) rfl rfl ?_
      simp only [Act.put, zzA, zzB, zzC]
      refine tkz (i := 15) (d := 56) rfl rfl ?_
      simp only [Act.put, zzA, zzB, zzC]
      refine tkz (i := 16) (d := 57) rfl rfl ?_
      simp only [Act.put, zzA, zzB, zzC]
      refine tkz (i := 17) (d := 58) rfl rfl ?_
      simp only [Act.put, zzA, zzB, zzC]
      refine rdz (i := 11) rfl (fun K hK => ?_)
      go_simp
      refine hK.out _ _ hHeld (fun hHeld => ?_)
      clear hK K
      try simp only [Act.put, zzA, zzB, zzC]
      refine tkz (i := 12) (d := 53) rfl rfl ?_
      simp only [Act.put, zzA, zzB, zzC]
      refine rdz (i := 18) rfl (fun K hK => ?_)
      go_simp
      refine (HIN.out _).mono ?_
      rintro e w4 ⟨rfl, rfl⟩
      go_wp2_with fail
      refine hK.out _ _ hHeld (fun hHeld => ?_)
      clear hK K
      try simp only [Act.put, zzA, zzB, zzC]
      refine tkz (i := 19) (d := 60) rfl rfl ?_
      simp only [Act.put, zzA, zzB, zzC]
      refine rdz (i := 20) rfl (fun K hK => ?_)
      go_simp
      refine hK.out _ _ (HG.out _ ((hHeld.2.2.2).setCell (p := ⟨g2, a, none⟩) (fun _ => .inr rfl) _)) (fun hHeld => ?_)
      clear hK K
      try simp only [Act.put, zzA, zzB, zzC]
      refine wpAnyH_done (by kernel_rfl) ?_ _
      go_wp2
      refine bodyPost_ret (v := .tuple #[]) (by simp [results, Try.results55, go_sem]) rfl ?_
      exact ⟨rfl, ⟨HRAD.out.far (p := ⟨g2, a, none⟩) N12.out _, HRBD.out.seti HM.out _⟩, hHeld.2.2.2⟩
    · go_simp
      refine hK.out _ _ hHeld (fun hHeld => ?_)
      clear hK K
      try simp only [Act.put, zzA, zzB, zzC]
      refine tkz (i := 20) (d := 29) rfl rfl ?_
      simp only [Act.put, zzA, zzB, zzC]
      refine tkz (i := 29) (d := 38) rfl rfl ?_
      simp only [Act.put, zzA, zzB, zzC]
      refine rdz (i := 11) rfl (fun K hK => ?_)
      go_simp
      refine hK.out _ _ hHeld (fun hHeld => ?_)
      clear hK K
      try simp only [Act.put, zzA, zzB, zzC]
      refine tkz (i := 30) (d := 39) rfl rfl ?_
      simp only [Act.put, zzA, zzB, zzC]
      refine tkz (i := 31) (d := 40) rfl rfl ?_
      simp only [Act.put, zzA, zzB, zzC]
      refine rdz (i := 32) rfl (fun K hK => ?_)
      go_simp
      refine hK.out _ _ (HF.out _ ((hHeld.2.2.2.2).setCell (p := ⟨g1, a, none⟩) (fun _ => rfl) _)) (fun hHeld => ?_)
      clear hK K
      try simp only [Act.put, zzA, zzB, zzC]
      refine wpAnyH_done (by kernel_rfl) ?_ _
      have HFA := Lib.hid (hHeld.2.2.2.2)
      obtain ⟨w3, hw3⟩ : ∃ xq, wd.setCell ⟨g1, a, none⟩ (.int .i64 C) = xq := ⟨_, rfl⟩
      have hra := HR1D.out.seti HX.out C
      have hrb := HR2D.out.far (p := ⟨g1, a, none⟩) (fun e => N12.out e.symm) (.int .i64 C)
      rw [hw3] at HFA hra hrb hHeld ⊢
      clear hw3 q1 z1
      have HRA := Lib.hid hra
      have HRB := Lib.hid hrb
      have HFB := Lib.hid (show Frm (fun b => b = g1 ∨ b = g2) w w3 from HFA.out.mono (fun _ _ h => .inl h))
      clear hra hrb hHeld
      go_upto_region 4 with fail
      refine wp_region_held_drew (S := (fun W : World => W.cell? ⟨R, o + 8, none⟩ = some (.slice (some ⟨g1, 0, none⟩) n1 m1) ∧ W.cell? ⟨R, o + 9, none⟩ = some (.slice (some ⟨g2, 0, none⟩) n2 m2) ∧ W.cell? ⟨R, o + 6, none⟩ = some (.int .i64 lim) ∧ Frm (fun b => b = g1 ∨ b = g2) w W)) (by kernel_rfl) (HG.out _ ((HFB.out).drew)) (fun hHeld => ?_)
      have q2 := row_i (HRB.out.drew) HM.out
      have z2 := (HRB.out.drew).frozen a
      have hrad := HRA.out.drew
      have hrbd := HRB.out.drew
      obtain ⟨we, hwe⟩ : ∃ xq, w3.drew = xq := ⟨_, rfl⟩
      rw [hwe] at q2 z2 hrad hrbd hHeld ⊢
      have HRAD := Lib.hid hrad
      have HRBD := Lib.hid hrbd
      clear hwe hrad hrbd
      refine tkz (i := 0) (d := 41) rfl rfl ?_
      simp only [Act.put, zzA, zzB, zzC]
      refine tkz (i := 1) (d := 42) rfl rfl ?_
      simp only [Act.put, zzA, zzB, zzC]
      refine tkz (i := 2) (d := 43) rfl rfl ?_
      simp only [Act.put, zzA, zzB, zzC]
      refine tkz (i := 3) (d := 44) rfl rfl ?_
      simp only [Act.put, zzA, zzB, zzC]
      refine tkz (i := 4) (d := 45) rfl rfl ?_
      simp only [Act.put, zzA, zzB, zzC]
      refine tkz (i := 5) (d := 46) rfl rfl ?_
      simp only [Act.put, zzA, zzB, zzC]
      refine tkz (i := 6) (d := 47) rfl rfl ?_
      simp only [Act.put, zzA, zzB, zzC]
      refine tkz (i := 7) (d := 48) rfl rfl ?_
      simp only [Act.put, zzA, zzB, zzC]
      refine tkz (i := 8) (d := 49) rfl rfl ?_
      simp only [Act.put, zzA, zzB, zzC]
      refine tkz (i := 9) (d := 50) rfl rfl ?_
      simp only [Act.put, zzA, zzB, zzC]
      refine tkz (i := 10) (d := 51) rfl rfl ?_
      simp only [Act.put, zzA, zzB, zzC]
      refine tkz (i := 13) (d := 54) rfl rfl ?_
      simp only [Act.put, zzA, zzB, zzC]
      refine tkz (i := 14) (d := 55) rfl rfl ?_
      simp only [Act.put, zzA, zzB, zzC]
      refine tkz (i := 15) (d := 56) rfl rfl ?_
      simp only [Act.put, zzA, zzB, zzC]
      refine tkz (i := 16) (d := 57) rfl rfl ?_
      simp only [Act.put, zzA, zzB, zzC]
      refine tkz (i := 17) (d := 58) rfl rfl ?_
      simp only [Act.put, zzA, zzB, zzC]
      refine rdz (i := 11) rfl (fun K hK => ?_)
      go_simp
      refine hK.out _ _ hHeld (fun hHeld => ?_)
      clear hK K
      try simp only [Act.put, zzA, zzB, zzC]
      refine tkz (i := 12) (d := 53) rfl rfl ?_
      simp only [Act.put, zzA, zzB, zzC]
      refine rdz (i := 18) rfl (fun K hK => ?_)
      go_simp
      refine (HIN.out _).mono ?_
      rintro e w4 ⟨rfl, rfl⟩
      go_wp2_with fail
      refine hK.out _ _ hHeld (fun hHeld => ?_)
      clear hK K
      try simp only [Act.put, zzA, zzB, zzC]
      refine tkz (i := 19) (d := 60) rfl rfl ?_
      simp only [Act.put, zzA, zzB, zzC]
      refine rdz (i := 20) rfl (fun K hK => ?_)
      go_simp
      refine hK.out _ _ (HG.out _ ((hHeld.2.2.2).setCell (p := ⟨g2, a, none⟩) (fun _ => .inr rfl) _)) (fun hHeld => ?_)
      clear hK K
      try simp only [Act.put, zzA, zzB, zzC]
      refine wpAnyH_done (by kernel_rfl) ?_ _
      go_wp2
      refine bodyPost_ret (v := .tuple #[]) (by simp [results, Try.results55, go_sem]) rfl ?_
      exact ⟨rfl, ⟨HRAD.out.far (p := ⟨g2, a, none⟩) N12.out _, HRBD.out.seti HM.out _⟩, hHeld.2.2.2⟩
end Go.Proofs.Ytnohfeaamfjimaa
