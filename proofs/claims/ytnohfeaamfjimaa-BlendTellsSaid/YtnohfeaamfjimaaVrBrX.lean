/- The reference learns: a mix: walk. -/
import Derived.Test.YtnohfeaamfjimaaVrBrS
import Derived.Test.YtnohfeaamfjimaaVrBrN
import Derived.StillTailTactics
import Derived.IntWalk
namespace Go.Proofs.Ytnohfeaamfjimaa
open Go.RowKit Go.WideShapes
set_option linter.unusedVariables false
set_option linter.unusedSimpArgs false
set_option maxRecDepth 100000 in
set_option maxHeartbeats 4000000 in
theorem learnR7 (B R o : Nat) (h c d bit q E : Int) (s a : Nat) (pc pr pl : Int) (pa pb : Nat) (g4 n4 m4 : Nat) (X L : List Int) (gL nL cL : Nat) (w : World) (h0 : 0 ≤ h) (h1 : h ≤ 4294967295) (c0 : 0 ≤ c) (c1 : c ≤ 255) (s2 : s ≤ 16) (ha : placeI h c s = (a : Int)) (hbit : bit = 0 ∨ bit = 1) (hq : sqI d = q) (hE : 4095 * bit - q = E) (r0' : 1 ≤ pr) (r1' : pr ≤ 64) (hpb1 : 1 ≤ pb) (hpb8 : pb ≤ 8) (hmb : a * pb + pb ≤ n4) (hn4 : n4 ≤ 600000) (hpl : pa + pb ≤ nL) (hnL : nL ≤ 16) (hXn : X.length = n4) (hX : ∀ x ∈ X, -1048576 ≤ x ∧ x ≤ 1048576) (hx : ∀ k, k < pb → -2047 ≤ L.getD (pa + k) 0 ∧ L.getD (pa + k) 0 ≤ 2047) (hxc : ∀ k, k < pb → w.cell? ⟨gL, pa + k, none⟩ = some (.int .i64 (L.getD (pa + k) 0))) (nLg : ¬ gL = g4) (nR : ¬ (R = g4)) (nB : ¬ (B = g4)) (r4 : Row w g4 3 (ints X)) (q0 : w.cell? ⟨R, o, none⟩ = some (.int .u8 7)) (q1 : w.cell? ⟨R, o + 1, none⟩ = some (.int .i64 (s : Int))) (q2 : w.cell? ⟨R, o + 2, none⟩ = some (.int .i64 (pa : Int))) (q3 : w.cell? ⟨R, o + 3, none⟩ = some (.int .i64 (pb : Int))) (q4 : w.cell? ⟨R, o + 4, none⟩ = some (.int .i64 pc)) (q5 : w.cell? ⟨R, o + 5, none⟩ = some (.int .i64 pr)) (q6 : w.cell? ⟨R, o + 6, none⟩ = some (.int .i64 pl)) (z7 : w.cell? ⟨R, o + 7, none⟩ = some (.int .u32 h)) (z11 : w.cell? ⟨R, o + 11, none⟩ = some (.slice (some ⟨g4, 0, none⟩) n4 m4)) (b1 : w.cell? ⟨B, 1, none⟩ = some (.int .i64 c)) :
    Calls Try.prog 37 #[.pointer (some ⟨B, 0, none⟩), .pointer (some ⟨R, o, none⟩), .slice (some ⟨gL, 0, none⟩) nL cL, .int .i64 d, .int .i64 bit] w (LrR (fun w' => Row w' g4 3 (ints (mixK X L (a * pb) pa (E * pr) pb))) (fun b => b = g4) w) := by
  have hEb0 : -4095 ≤ E ∧ E ≤ 4095 := by have := sq_bd d; omega
  have g1 := mulB (a := E) (b := pr) (A := 4095) (B := 64) (by omega) (by omega) (by omega) r1'
  obtain ⟨K0, hK0⟩ : ∃ K0, E * pr = K0 := ⟨_, rfl⟩
  rw [hK0] at g1 ⊢
  have e1 : IntKind.i64.wrap (E * pr) = K0 := by rw [hK0]; exact IntWalk.i64_in K0 (by omega)
  obtain ⟨M, hM⟩ : ∃ M, a * pb = M := ⟨_, rfl⟩
  rw [hM] at hmb ⊢
  have e0 : IntKind.i64.wrap ((a : Int) * (pb : Int)) = (M : Int) := by
    rw [← hM, ← Int.natCast_mul]
    exact IntWalk.i64_in _ (by omega)
  have HXC := Lib.hid (show ∀ (W : World), Below w.heap.size w W → ∀ k, k < pb → W.cell? ⟨gL, pa + k, none⟩ = some (.int .i64 (L.getD (pa + k) 0)) from fun W hW k hk => ck (hxc k hk) hW)
  have HXB := Lib.hid hx
  have HXL := Lib.hid hX
  have HXN := Lib.hid hXn
  have hgLt := fun k hk => block_lt_of_cell (hxc k hk)
  have HGL := Lib.hid hgLt
  have NLG := Lib.hid nLg
  have G1 := Lib.hid g1
  have E0 := Lib.hid e0
  have E1 := Lib.hid e1
  have hpbi : (pb : Int) ≤ 8 := by omega
  clear hx hX hXn hxc hM hK0 e0 e1 g1 hEb0 r0' r1' hgLt nLg
  have HPL := Lib.hid (show ∀ W, Calls Try.prog 54 #[.int .u32 h, .int .i64 c, .int .i64 (s : Int)] W (Sam (.int .i64 (a : Int)) W) from fun W => ha ▸ placeR h c s W h0 h1 c0 c1 s2)
  have hqb := sq_bd d
  have HSQ := Lib.hid (fun W => rsquash_any d W)
  rw [hq] at HSQ hqb
  have eb := IntWalk.i64_in (4095 * bit) (by omega)
  have ee : IntKind.i64.wrap (4095 * bit - q) = E := by rw [hE]; exact IntWalk.i64_in E (by omega)
  have hEb : -4095 ≤ E ∧ E ≤ 4095 := by omega
  clear h0 h1 c0 c1 s2 ha hq hE
  have hbz : Below w.heap.size w (w.alloc (.cells #[.int .u8 7, .int .i64 (s : Int), .int .i64 (pa : Int), .int .i64 (pb : Int), .int .i64 pc, .int .i64 pr, .int .i64 pl] 25)) := (Below.refl _ _).alloc (Nat.le_refl _) _
  have z7w := ck z7 hbz
  have z11w := ck z11 hbz
  have b1w := ck b1 hbz
  have hlt4 := r4.lt
  have rr4 := r4.below hbz
  clear z7 z11 b1 r4
  go_enter Try.func37, Try.ntmps37
  go_upto_region 1 with fail
  obtain ⟨w2, hw2⟩ : ∃ xq, w.alloc (.cells #[.int .u8 7, .int .i64 (s : Int), .int .i64 (pa : Int), .int .i64 (pb : Int), .int .i64 pc, .int .i64 pr, .int .i64 pl] 25) = xq := ⟨_, rfl⟩
  have k25 : Blk w2 w.heap.size 25 #[.int .u8 7, .int .i64 (s : Int), .int .i64 (pa : Int), .int .i64 (pb : Int), .int .i64 pc, .int .i64 pr, .int .i64 pl] := hw2 ▸ Blk.new w _ _
  rw [hw2] at hbz z7w z11w b1w rr4 ⊢
  have HB2 := Lib.hid hbz
  have y0 : w2.cell? ⟨w.heap.size, 0, none⟩ = some (.int .u8 7) := k25.cell 0
  have y1 : w2.cell? ⟨w.heap.size, 1, none⟩ = some (.int .i64 (s : Int)) := k25.cell 1
  have y2 : w2.cell? ⟨w.heap.size, 2, none⟩ = some (.int .i64 (pa : Int)) := k25.cell 2
  have y3 : w2.cell? ⟨w.heap.size, 3, none⟩ = some (.int .i64 (pb : Int)) := k25.cell 3
  have y4 : w2.cell? ⟨w.heap.size, 4, none⟩ = some (.int .i64 pc) := k25.cell 4
  have y5 : w2.cell? ⟨w.heap.size, 5, none⟩ = some (.int .i64 pr) := k25.cell 5
  have y6 : w2.cell? ⟨w.heap.size, 6, none⟩ = some (.int .i64 pl) := k25.cell 6
  have z7 : w2.cell? ⟨R, o + 7, none⟩ = some (.int .u32 h) := z7w
  have z11 : w2.cell? ⟨R, o + 11, none⟩ = some (.slice (some ⟨g4, 0, none⟩) n4 m4) := z11w
  have b1 : w2.cell? ⟨B, 1, none⟩ = some (.int .i64 c) := b1w
  have hyw : ¬ (w.heap.size = g4) := by omega
  have HF := Lib.hid (show ∀ W : World, Frm (fun b => b = g4) w2 W → W.cell? ⟨w.heap.size, 0, none⟩ = some (.int .u8 7) ∧ W.cell? ⟨w.heap.size, 1, none⟩ = some (.int .i64 (s : Int)) ∧ W.cell? ⟨w.heap.size, 2, none⟩ = some (.int .i64 (pa : Int)) ∧ W.cell? ⟨w.heap.size, 3, none⟩ = some (.int .i64 (pb : Int)) ∧ W.cell? ⟨w.heap.size, 4, none⟩ = some (.int .i64 pc) ∧ W.cell? ⟨w.heap.size, 5, none⟩ = some (.int .i64 pr) ∧ W.cell? ⟨w.heap.size, 6, none⟩ = some (.int .i64 pl) ∧ W.cell? ⟨R, o + 7, none⟩ = some (.int .u32 h) ∧ W.cell? ⟨R, o + 11, none⟩ = some (.slice (some ⟨g4, 0, none⟩) n4 m4) ∧ W.cell? ⟨B, 1, none⟩ = some (.int .i64 c) ∧ Frm (fun b => b = g4) w2 W from fun W hL => ⟨(hL.cell (block_lt_of_cell y0) (hyw)).trans y0, (hL.cell (block_lt_of_cell y1) (hyw)).trans y1, (hL.cell (block_lt_of_cell y2) (hyw)).trans y2, (hL.cell (block_lt_of_cell y3) (hyw)).trans y3, (hL.cell (block_lt_of_cell y4) (hyw)).trans y4, (hL.cell (block_lt_of_cell y5) (hyw)).trans y5, (hL.cell (block_lt_of_cell y6) (hyw)).trans y6, (hL.cell (block_lt_of_cell z7) (nR)).trans z7, (hL.cell (block_lt_of_cell z11) (nR)).trans z11, (hL.cell (block_lt_of_cell b1) (nB)).trans b1, hL⟩)
  clear hw2 hbz k25 hyw y0 y1 y2 y3 y4 y5 y6 z7 z11 b1 nR nB
  clear z7w z11w b1w
  refine wp_region_held_drew (S := (fun W : World => W.cell? ⟨w.heap.size, 0, none⟩ = some (.int .u8 7) ∧ W.cell? ⟨w.heap.size, 1, none⟩ = some (.int .i64 (s : Int)) ∧ W.cell? ⟨w.heap.size, 2, none⟩ = some (.int .i64 (pa : Int)) ∧ W.cell? ⟨w.heap.size, 3, none⟩ = some (.int .i64 (pb : Int)) ∧ W.cell? ⟨w.heap.size, 4, none⟩ = some (.int .i64 pc) ∧ W.cell? ⟨w.heap.size, 5, none⟩ = some (.int .i64 pr) ∧ W.cell? ⟨w.heap.size, 6, none⟩ = some (.int .i64 pl) ∧ W.cell? ⟨R, o + 7, none⟩ = some (.int .u32 h) ∧ W.cell? ⟨R, o + 11, none⟩ = some (.slice (some ⟨g4, 0, none⟩) n4 m4) ∧ W.cell? ⟨B, 1, none⟩ = some (.int .i64 c) ∧ Frm (fun b => b = g4) w2 W)) (by kernel_rfl) (HF.out _ ((Frm.refl _ w2).drew)) (fun hHeld => ?_)
  refine tkz (i := 0) (d := 21) rfl rfl ?_
  simp only [Act.put, zzA, zzB, zzC]
  refine tkz (i := 1) (d := 22) rfl rfl ?_
  simp only [Act.put, zzA, zzB, zzC]
  refine tkz (i := 2) (d := 23) rfl rfl ?_
  simp only [Act.put, zzA, zzB, zzC]
  refine tkz (i := 3) (d := 24) rfl rfl ?_
  simp only [Act.put, zzA, zzB, zzC]
  refine tkz (i := 4) (d := 25) rfl rfl ?_
  simp only [Act.put, zzA, zzB, zzC]
  refine tkz (i := 5) (d := 26) rfl rfl ?_
  simp only [Act.put, zzA, zzB, zzC]
  refine tkz (i := 6) (d := 27) rfl rfl ?_
  simp only [Act.put, zzA, zzB, zzC]
  refine tkz (i := 7) (d := 28) rfl rfl ?_
  simp only [Act.put, zzA, zzB, zzC]
  refine tkz (i := 8) (d := 29) rfl rfl ?_
  simp only [Act.put, zzA, zzB, zzC]
  refine tkz (i := 9) (d := 30) rfl rfl ?_
  simp only [Act.put, zzA, zzB, zzC]
  refine rdz (i := 10) rfl (fun K hK => ?_)
  go_simp
  refine (HPL.out _).mono ?_
  rintro e w3 ⟨rfl, rfl⟩
  go_wp2_with fail
  refine hK.out _ _ hHeld (fun hHeld => ?_)
  clear hK K
  try simp only [Act.put, zzA, zzB, zzC]
  refine tkz (i := 11) (d := 11) rfl rfl ?_
  simp only [Act.put, zzA, zzB, zzC]
  refine wpAnyH_done (by kernel_rfl) ?_ _
  have rr4 := Row.drew rr4
  obtain ⟨w3, hw3⟩ : ∃ xq, w2.drew = xq := ⟨_, rfl⟩
  rw [hw3] at hHeld rr4 ⊢
  clear hw3 HPL
  have HL3 := Lib.hid (hHeld.2.2.2.2.2.2.2.2.2.2)
  obtain ⟨y0, y1, y2, y3, y4, y5, y6, z7, z11, b1, _⟩ := hHeld
  go_wp2_with fail
  refine (HSQ.out _).mono ?_
  rintro e w4 ⟨rfl, hb4⟩
  have HL4 := Lib.hid (HL3.out.below hb4)
  have HR4 := Lib.hid (rr4.below hb4)
  clear hb4 HSQ rr4 y0 y1 y2 y3 y4 y5 y6 z7 z11 b1
  obtain ⟨y0, y1, y2, y3, y4, y5, y6, z7, z11, b1, _⟩ := HF.out _ HL4.out
  go_upto_region 14 with fail
  go_wp2_with fail
  go_loopw [14] (fun v wr => ∃ k : Nat, k ≤ pb ∧ v = .int .i64 k ∧ Row wr g4 3 (ints (mixK X L M pa K0 k)) ∧ Frm (fun b => b = g4) w2 wr) (fun v _ => pb - (intOf v).toNat)
  case atStart => exact ⟨0, by omega, rfl, HR4.out, HL4.out⟩
  case round =>
    obtain ⟨k, hk, rfl, hrow, hfr⟩ := hrel
    have HRW := Lib.hid hrow
    have HLW := Lib.hid hfr
    clear hrow hfr
    clear y0 y1 y2 y3 y4 y5 y6 z7 z11 b1
    obtain ⟨y0, y1, y2, y3, y4, y5, y6, z7, z11, b1, _⟩ := HF.out _ HLW.out
    by_cases hlt : k < pb
    · have hki : (k : Int) < pb := by omega
      have hxb := HXB.out k hlt
      have hlen : (mixK X L M pa K0 k).length = n4 := by rw [mixK_length, HXN.out]
      have hcu := getD_some (l := mixK X L M pa K0 k) (i := M + k) (by rw [hlen]; omega)
      have hub := mixK_bd (l := X) (L := L) (i := M) (p := pa) (e := K0) HXL.out k _ (getD_mem (i := M + k) (by rw [hlen]; omega))
      have hstep : mixK X L M pa K0 (k + 1) = (mixK X L M pa K0 k).set (M + k) (intoI ((mixK X L M pa K0 k).getD (M + k) 0 + (K0 * L.getD (pa + k) 0 + 8192) / 16384) (-1048576) 1048576) := rfl
      obtain ⟨u, huu⟩ : ∃ u, (mixK X L M pa K0 k).getD (M + k) 0 = u := ⟨_, rfl⟩
      obtain ⟨x, hxx⟩ : ∃ x, L.getD (pa + k) 0 = x := ⟨_, rfl⟩
      rw [huu] at hcu hub hstep
      rw [hxx] at hxb hstep
      have g1 := G1.out
      have hmul := mulB (a := K0) (b := x) (A := 262080) (B := 2047) (by omega) (by omega) hxb.1 hxb.2
      have e2 := IntWalk.i64_in (K0 * x) (by omega)
      have e3 := IntWalk.i64_in (K0 * x + 8192) (by omega)
      have HDN := Lib.hid (fun W => downR (K0 * x + 8192) 16384 W (by omega) (by omega) (by omega))
      have e4 := IntWalk.i64_in (u + (K0 * x + 8192) / 16384) (by omega)
      have HIN := Lib.hid (fun W => intoR (u + (K0 * x + 8192) / 16384) (-1048576) 1048576 W (by omega))
      obtain ⟨P, hP⟩ : ∃ P, intoI (u + (K0 * x + 8192) / 16384) (-1048576) 1048576 = P := ⟨_, rfl⟩
      obtain ⟨D, hD⟩ : ∃ D, (K0 * x + 8192) / 16384 = D := ⟨_, rfl⟩
      rw [hP] at HIN hstep
      rw [hD] at HDN HIN e4
      obtain ⟨Mk, hMk⟩ : ∃ Mk, M + k = Mk := ⟨_, rfl⟩
      obtain ⟨pk, hpk⟩ : ∃ pk, pa + k = pk := ⟨_, rfl⟩
      have e5 : IntKind.i64.wrap ((M : Int) + (k : Int)) = (Mk : Int) := by rw [← hMk, Int.natCast_add]; exact IntWalk.i64_in _ (by omega)
      have e6 : IntKind.i64.wrap ((pa : Int) + (k : Int)) = (pk : Int) := by rw [← hpk, Int.natCast_add]; exact IntWalk.i64_in _ (by omega)
      have i1 : (Mk : Int) < n4 := by omega
      have i2 : (pk : Int) < nL := by omega
      have hvw : ∀ W, Frm (fun b => b = g4) w2 W → W.cell? ⟨gL, pk, none⟩ = some (.int .i64 x) := fun W hW => by
        have h0 := HXC.out w2 HB2.out k hlt
        rw [hxx, hpk] at h0
        exact (hW.cell (block_lt_of_cell h0) NLG.out).trans h0
      have HVW := Lib.hid hvw
      rw [hMk] at hcu hstep
      have HCU := Lib.hid hcu
      have HST := Lib.hid hstep
      have e0 := E0.out
      have e1 := E1.out
      have e7 := e0
      clear hstep hcu huu hxx hmul g1 hub hxb hP hD hMk hpk hlen hvw
      go_upto_region 16 with fail
      refine wp_region_held_drew (S := (fun W : World => W.cell? ⟨w.heap.size, 0, none⟩ = some (.int .u8 7) ∧ W.cell? ⟨w.heap.size, 1, none⟩ = some (.int .i64 (s : Int)) ∧ W.cell? ⟨w.heap.size, 2, none⟩ = some (.int .i64 (pa : Int)) ∧ W.cell? ⟨w.heap.size, 3, none⟩ = some (.int .i64 (pb : Int)) ∧ W.cell? ⟨w.heap.size, 4, none⟩ = some (.int .i64 pc) ∧ W.cell? ⟨w.heap.size, 5, none⟩ = some (.int .i64 pr) ∧ W.cell? ⟨w.heap.size, 6, none⟩ = some (.int .i64 pl) ∧ W.cell? ⟨R, o + 7, none⟩ = some (.int .u32 h) ∧ W.cell? ⟨R, o + 11, none⟩ = some (.slice (some ⟨g4, 0, none⟩) n4 m4) ∧ W.cell? ⟨B, 1, none⟩ = some (.int .i64 c) ∧ Frm (fun b => b = g4) w2 W)) (by kernel_rfl) (HF.out _ (HLW.out.drew)) (fun hHeld => ?_)
      have rd := HRW.out.drew
      obtain ⟨w7, hwn⟩ : ∃ xq, wr.drew = xq := ⟨_, rfl⟩
      rw [hwn] at rd hHeld ⊢
      clear hwn
      have HRD := Lib.hid rd
      clear rd
      refine tkz (i := 0) (d := 131) rfl rfl ?_
      simp only [Act.put, zzA, zzB, zzC]
      refine tkz (i := 1) (d := 132) rfl rfl ?_
      simp only [Act.put, zzA, zzB, zzC]
      refine tkz (i := 2) (d := 133) rfl rfl ?_
      simp only [Act.put, zzA, zzB, zzC]
      refine tkz (i := 3) (d := 134) rfl rfl ?_
      simp only [Act.put, zzA, zzB, zzC]
      refine tkz (i := 4) (d := 135) rfl rfl ?_
      simp only [Act.put, zzA, zzB, zzC]
      refine tkz (i := 5) (d := 136) rfl rfl ?_
      simp only [Act.put, zzA, zzB, zzC]
      refine tkz (i := 6) (d := 137) rfl rfl ?_
      simp only [Act.put, zzA, zzB, zzC]
      refine tkz (i := 7) (d := 138) rfl rfl ?_
      simp only [Act.put, zzA, zzB, zzC]
      refine tkz (i := 8) (d := 139) rfl rfl ?_
      simp only [Act.put, zzA, zzB, zzC]
      refine tkz (i := 9) (d := 140) rfl rfl ?_
      simp only [Act.put, zzA, zzB, zzC]
      refine tkz (i := 10) (d := 141) rfl rfl ?_
      simp only [Act.put, zzA, zzB, zzC]
      refine tkz (i := 11) (d := 15) rfl rfl ?_
      simp only [Act.put, zzA, zzB, zzC]
      refine wpAnyH_done (by kernel_rfl) ?_ _
      have HLX := Lib.hid (hHeld.2.2.2.2.2.2.2.2.2.2)
      clear hHeld
      clear y0 y1 y2 y3 y4 y5 y6 z7 z11 b1
      obtain ⟨y0, y1, y2, y3, y4, y5, y6, z7, z11, b1, _⟩ := HF.out _ HLX.out
      go_upto_region 17 with fail
      have hvx := HVW.out _ (HLX.out.drew)
      refine wp_region_held_drew (S := (fun W : World => W.cell? ⟨gL, pk, none⟩ = some (.int .i64 x) ∧ W.cell? ⟨w.heap.size, 0, none⟩ = some (.int .u8 7) ∧ W.cell? ⟨w.heap.size, 1, none⟩ = some (.int .i64 (s : Int)) ∧ W.cell? ⟨w.heap.size, 2, none⟩ = some (.int .i64 (pa : Int)) ∧ W.cell? ⟨w.heap.size, 3, none⟩ = some (.int .i64 (pb : Int)) ∧ W.cell? ⟨w.heap.size, 4, none⟩ = some (.int .i64 pc) ∧ W.cell? ⟨w.heap.size, 5, none⟩ = some (.int .i64 pr) ∧ W.cell? ⟨w.heap.size, 6, none⟩ = some (.int .i64 pl) ∧ W.cell? ⟨R, o + 7, none⟩ = some (.int .u32 h) ∧ W.cell? ⟨R, o + 11, none⟩ = some (.slice (some ⟨g4, 0, none⟩) n4 m4) ∧ W.cell? ⟨B, 1, none⟩ = some (.int .i64 c) ∧ Frm (fun b => b = g4) w2 W)) (by kernel_rfl) ⟨hvx, HF.out _ (HLX.out.drew)⟩ (fun hHeld => ?_)
      have rd := HRD.out.drew
      obtain ⟨wa, hwn⟩ : ∃ xq, w7.drew = xq := ⟨_, rfl⟩
      rw [hwn] at rd hHeld ⊢
      clear hwn
      have HRE := Lib.hid rd
      have qa := row_i rd HCU.out
      have za := rd.frozen Mk
      clear rd
      refine tkz (i := 0) (d := 142) rfl rfl ?_
      simp only [Act.put, zzA, zzB, zzC]
      refine tkz (i := 1) (d := 143) rfl rfl ?_
      simp only [Act.put, zzA, zzB, zzC]
      refine tkz (i := 2) (d := 144) rfl rfl ?_
      simp only [Act.put, zzA, zzB, zzC]
      refine tkz (i := 4) (d := 146) rfl rfl ?_
      simp only [Act.put, zzA, zzB, zzC]
      refine tkz (i := 5) (d := 147) rfl rfl ?_
      simp only [Act.put, zzA, zzB, zzC]
      refine tkz (i := 6) (d := 148) rfl rfl ?_
      simp only [Act.put, zzA, zzB, zzC]
      refine tkz (i := 7) (d := 149) rfl rfl ?_
      simp only [Act.put, zzA, zzB, zzC]
      refine tkz (i := 8) (d := 150) rfl rfl ?_
      simp only [Act.put, zzA, zzB, zzC]
      refine tkz (i := 9) (d := 151) rfl rfl ?_
      simp only [Act.put, zzA, zzB, zzC]
      refine tkz (i := 10) (d := 152) rfl rfl ?_
      simp only [Act.put, zzA, zzB, zzC]
      refine tkz (i := 11) (d := 153) rfl rfl ?_
      simp only [Act.put, zzA, zzB, zzC]
      refine tkz (i := 12) (d := 154) rfl rfl ?_
      simp only [Act.put, zzA, zzB, zzC]
      refine tkz (i := 13) (d := 155) rfl rfl ?_
      simp only [Act.put, zzA, zzB, zzC]
      refine tkz (i := 14) (d := 156) rfl rfl ?_
      simp only [Act.put, zzA, zzB, zzC]
      refine tkz (i := 15) (d := 157) rfl rfl ?_
      simp only [Act.put, zzA, zzB, zzC]
      refine tkz (i := 16) (d := 158) rfl rfl ?_
      simp only [Act.put, zzA, zzB, zzC]
      refine wpAnyH_ready (rs := [3, 17]) (by kernel_rfl) (by simp) ?_
      refine AllReadyH.cons (o := _) rfl (fun K hK => ?_) (AllReadyH.cons (o := _) rfl (fun K hK => ?_) AllReadyH.nil)
      · go_simp
        refine hK.out _ _ hHeld (fun hHeld => ?_)
        clear hK K
        try simp only [Act.put, zzA, zzB, zzC]
        refine rdz (i := 17) rfl (fun K hK => ?_)
        go_simp
        refine (HDN.out _).mono ?_
        rintro e w8 ⟨rfl, rfl⟩
        go_wp2_with fail
        refine hK.out _ _ hHeld (fun hHeld => ?_)
        clear hK K
        try simp only [Act.put, zzA, zzB, zzC]
        refine tkz (i := 18) (d := 160) rfl rfl ?_
        simp only [Act.put, zzA, zzB, zzC]
        refine rdz (i := 19) rfl (fun K hK => ?_)
        go_simp
        refine (HIN.out _).mono ?_
        rintro e w9 ⟨rfl, rfl⟩
        go_wp2_with fail
        refine hK.out _ _ hHeld (fun hHeld => ?_)
        clear hK K
        try simp only [Act.put, zzA, zzB, zzC]
        refine tkz (i := 20) (d := 162) rfl rfl ?_
        simp only [Act.put, zzA, zzB, zzC]
        refine rdz (i := 21) rfl (fun K hK => ?_)
        go_simp
        refine hK.out _ _ ⟨(World.cell?_setCell_far _ _ _ _ (fun h => NLG.out h.symm)).trans hHeld.1, HF.out _ ((hHeld.2.2.2.2.2.2.2.2.2.2.2).setCell (p := ⟨g4, Mk, none⟩) (fun _ => rfl) _)⟩ (fun hHeld => ?_)
        clear hK K
        try simp only [Act.put, zzA, zzB, zzC]
        refine wpAnyH_done (by kernel_rfl) ?_ _
        clear e0 e1 e2 e3 e4 e5 e6 e7
        have HNX := Lib.hid (HRE.out.seti HCU.out P)
        have HLN := Lib.hid (hHeld.2.2.2.2.2.2.2.2.2.2.2)
        clear hHeld qa za
        go_wp2
        go_roundw
        case rel => exact ⟨k + 1, by omega, by go_num, by rw [HST.out]; exact HNX.out, HLN.out⟩
        case measure => simp [intOf]; omega
      · go_simp
        refine (HDN.out _).mono ?_
        rintro e w8 ⟨rfl, rfl⟩
        go_wp2_with fail
        refine hK.out _ _ hHeld (fun hHeld => ?_)
        clear hK K
        try simp only [Act.put, zzA, zzB, zzC]
        refine rdz (i := 3) rfl (fun K hK => ?_)
        go_simp
        refine hK.out _ _ hHeld (fun hHeld => ?_)
        clear hK K
        try simp only [Act.put, zzA, zzB, zzC]
        refine tkz (i := 18) (d := 160) rfl rfl ?_
        simp only [Act.put, zzA, zzB, zzC]
        refine rdz (i := 19) rfl (fun K hK => ?_)
        go_simp
        refine (HIN.out _).mono ?_
        rintro e w9 ⟨rfl, rfl⟩
        go_wp2_with fail
        refine hK.out _ _ hHeld (fun hHeld => ?_)
        clear hK K
        try simp only [Act.put, zzA, zzB, zzC]
        refine tkz (i := 20) (d := 162) rfl rfl ?_
        simp only [Act.put, zzA, zzB, zzC]
        refine rdz (i := 21) rfl (fun K hK => ?_)
        go_simp
        refine hK.out _ _ ⟨(World.cell?_setCell_far _ _ _ _ (fun h => NLG.out h.symm)).trans hHeld.1, HF.out _ ((hHeld.2.2.2.2.2.2.2.2.2.2.2).setCell (p := ⟨g4, Mk, none⟩) (fun _ => rfl) _)⟩ (fun hHeld => ?_)
        clear hK K
        try simp only [Act.put, zzA, zzB, zzC]
        refine wpAnyH_done (by kernel_rfl) ?_ _
        clear e0 e1 e2 e3 e4 e5 e6 e7
        have HNX := Lib.hid (HRE.out.seti HCU.out P)
        have HLN := Lib.hid (hHeld.2.2.2.2.2.2.2.2.2.2.2)
        clear hHeld qa za
        go_wp2
        go_roundw
        case rel => exact ⟨k + 1, by omega, by go_num, by rw [HST.out]; exact HNX.out, HLN.out⟩
        case measure => simp [intOf]; omega
    · obtain rfl : k = pb := by omega
      go_wp2
      refine bodyPost_ret (v := .tuple #[]) (by simp [results, Try.results37, go_sem]) rfl ?_
      exact ⟨rfl, HRW.out, (Frm.trans (S := fun b => b = g4) (Frm.of_below HB2.out) (HLW.out) (fun _ _ h => h))⟩
end Go.Proofs.Ytnohfeaamfjimaa
