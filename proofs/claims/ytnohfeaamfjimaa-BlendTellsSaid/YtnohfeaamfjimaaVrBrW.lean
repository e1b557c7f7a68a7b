/- The reference learns: a chain: walk. -/
import Derived.Test.YtnohfeaamfjimaaVrBrS
import Derived.Test.YtnohfeaamfjimaaVrBrN
import Derived.StillTailTactics
import Derived.IntWalk
namespace Go.Proofs.Ytnohfeaamfjimaa
open Go.RowKit Go.WideShapes
set_option linter.unusedVariables false
set_option linter.unusedSimpArgs false
set_option maxRecDepth 100000 in
set_option maxHeartbeats 4000000 in
theorem learnR8 (B R o : Nat) (h c d bit q E : Int) (s a : Nat) (pb pc pr pl : Int) (pa : Nat) (g3 n3 m3 : Nat) (g4 n4 m4 : Nat) (u v x : Int) (y ya yb : Nat) (X S : List Int) (gL nL cL : Nat) (w : World) (h0 : 0 ≤ h) (h1 : h ≤ 4294967295) (c0 : 0 ≤ c) (c1 : c ≤ 255) (s2 : s ≤ 16) (ha : placeI h c s = (a : Int)) (hbit : bit = 0 ∨ bit = 1) (hq : sqI d = q) (hE : 4095 * bit - q = E) (hu : X[ya]? = some u) (hv : X[yb]? = some v) (hys : S[a]? = some (y : Int)) (hy : y < 256) (hya : 2 * y = ya) (hyb : ya + 1 = yb) (u0 : -1048576 ≤ u) (u1 : u ≤ 1048576) (v0 : -1048576 ≤ v) (v1 : v ≤ 1048576) (x0 : -2047 ≤ x) (x1 : x ≤ 2047) (hpl : pa < nL) (hn4 : 512 ≤ n4) (ha3 : a < n3) (n34 : ¬ g3 = g4) (nLg : ¬ (gL = g3 ∨ gL = g4)) (nR : ¬ (R = g3 ∨ R = g4)) (nB : ¬ (B = g3 ∨ B = g4)) (r3 : Row w g3 5 (octs S)) (r4 : Row w g4 3 (ints X)) (q0 : w.cell? ⟨R, o, none⟩ = some (.int .u8 8)) (q1 : w.cell? ⟨R, o + 1, none⟩ = some (.int .i64 (s : Int))) (q2 : w.cell? ⟨R, o + 2, none⟩ = some (.int .i64 (pa : Int))) (q3 : w.cell? ⟨R, o + 3, none⟩ = some (.int .i64 pb)) (q4 : w.cell? ⟨R, o + 4, none⟩ = some (.int .i64 pc)) (q5 : w.cell? ⟨R, o + 5, none⟩ = some (.int .i64 pr)) (q6 : w.cell? ⟨R, o + 6, none⟩ = some (.int .i64 pl)) (z7 : w.cell? ⟨R, o + 7, none⟩ = some (.int .u32 h)) (z10 : w.cell? ⟨R, o + 10, none⟩ = some (.slice (some ⟨g3, 0, none⟩) n3 m3)) (z11 : w.cell? ⟨R, o + 11, none⟩ = some (.slice (some ⟨g4, 0, none⟩) n4 m4)) (b1 : w.cell? ⟨B, 1, none⟩ = some (.int .i64 c)) (l0 : w.cell? ⟨gL, pa, none⟩ = some (.int .i64 x)) :
    Calls Try.prog 37 #[.pointer (some ⟨B, 0, none⟩), .pointer (some ⟨R, o, none⟩), .slice (some ⟨gL, 0, none⟩) nL cL, .int .i64 d, .int .i64 bit] w (LrR (fun w' => Row w' g3 5 (octs (S.set a (nextI (y : Int) bit))) ∧ Row w' g4 3 (ints ((X.set ya (isU u E x)).set yb (isV v E)))) (fun b => b = g3 ∨ b = g4) w) := by
  have h1 := mulB (a := E) (b := x) (A := 4095) (B := 2047) (by have := sq_bd d; omega) (by have := sq_bd d; omega) x0 x1
  have hEb0 : -4095 ≤ E ∧ E ≤ 4095 := by have := sq_bd d; omega
  have e1 := IntWalk.i64_in (E * x) (by omega)
  have e2 := IntWalk.i64_in (E * x + 4096) (by omega)
  have HDN := Lib.hid (fun W => downR (E * x + 4096) 8192 W (by omega) (by omega) (by omega))
  have e3 := IntWalk.i64_in (u + (E * x + 4096) / 8192) (by omega)
  have HIN := Lib.hid (fun W => intoR (u + (E * x + 4096) / 8192) (-1048576) 1048576 W (by omega))
  have hP : intoI (u + (E * x + 4096) / 8192) (-1048576) 1048576 = isU u E x := rfl
  have e4 := IntWalk.i64_in (E + 16) (by omega)
  have HDM := Lib.hid (fun W => downR (E + 16) 32 W (by omega) (by omega) (by omega))
  have e5 := IntWalk.i64_in (v + (E + 16) / 32) (by omega)
  have HIM := Lib.hid (fun W => intoR (v + (E + 16) / 32) (-1048576) 1048576 W (by omega))
  have hQ : intoI (v + (E + 16) / 32) (-1048576) 1048576 = isV v E := rfl
  obtain ⟨P, hP2⟩ : ∃ P, isU u E x = P := ⟨_, rfl⟩
  obtain ⟨Q, hQ2⟩ : ∃ Q, isV v E = Q := ⟨_, rfl⟩
  obtain ⟨D, hD⟩ : ∃ D, (E * x + 4096) / 8192 = D := ⟨_, rfl⟩
  obtain ⟨M, hM⟩ : ∃ M, (E + 16) / 32 = M := ⟨_, rfl⟩
  rw [hP2] at hP ⊢
  rw [hQ2] at hQ ⊢
  rw [hP, hD] at HIN
  rw [hQ, hM] at HIM
  rw [hD] at HDN e3
  rw [hM] at HDM e5
  have HNX := Lib.hid (fun W => rnext_any (y : Int) bit W (by omega) (by omega))
  obtain ⟨Z, hZ⟩ : ∃ Z, nextI (y : Int) bit = Z := ⟨_, rfl⟩
  rw [hZ] at HNX ⊢
  have e6 : IntKind.i64.wrap (2 * (y : Int)) = (ya : Int) := by rw [show 2 * (y : Int) = (ya : Int) by omega]; exact IntWalk.i64_in _ (by omega)
  have e7 : IntKind.i64.wrap ((ya : Int) + 1) = (yb : Int) := by rw [show (ya : Int) + 1 = (yb : Int) by omega]; exact IntWalk.i64_in _ (by omega)
  have e8 := IntWalk.i64_in (y : Int) (by omega)
  have hyai : (ya : Int) < n4 := by omega
  have hybi : (yb : Int) < n4 := by omega
  have hai : (a : Int) < n3 := by omega
  have hpa : (pa : Int) < nL := by omega
  have hv2 : (X.set ya P)[yb]? = some v := by rw [List.getElem?_set_ne (by omega)]; exact hv
  have E1 := Lib.hid e1
  have E2 := Lib.hid e2
  have E3 := Lib.hid e3
  have E4 := Lib.hid e4
  have E5 := Lib.hid e5
  have E6 := Lib.hid e6
  have E7 := Lib.hid e7
  have E8 := Lib.hid e8
  have HU := Lib.hid hu
  have HV2 := Lib.hid hv2
  have HY := Lib.hid hys
  have N34 := Lib.hid n34
  clear h1 hEb0 hP hP2 hQ hQ2 hD hM hZ e1 e2 e3 e4 e5 e6 e7 e8 x0 x1 u0 u1 v0 v1 hu hv hys hya hyb hv2 n34
  have HPL := Lib.hid (show ∀ W, Calls Try.prog 54 #[.int .u32 h, .int .i64 c, .int .i64 (s : Int)] W (Sam (.int .i64 (a : Int)) W) from fun W => ha ▸ placeR h c s W h0 h1 c0 c1 s2)
  have hqb := sq_bd d
  have HSQ := Lib.hid (fun W => rsquash_any d W)
  rw [hq] at HSQ hqb
  have eb := IntWalk.i64_in (4095 * bit) (by omega)
  have ee : IntKind.i64.wrap (4095 * bit - q) = E := by rw [hE]; exact IntWalk.i64_in E (by omega)
  have hEb : -4095 ≤ E ∧ E ≤ 4095 := by omega
  clear h0 h1 c0 c1 s2 ha hq hE
  have hbz : Below w.heap.size w (w.alloc (.cells #[.int .u8 8, .int .i64 (s : Int), .int .i64 (pa : Int), .int .i64 pb, .int .i64 pc, .int .i64 pr, .int .i64 pl] 25)) := (Below.refl _ _).alloc (Nat.le_refl _) _
  have z7w := ck z7 hbz
  have z10w := ck z10 hbz
  have z11w := ck z11 hbz
  have b1w := ck b1 hbz
  have l0w := ck l0 hbz
  have hlt3 := r3.lt
  have rr3 := r3.below hbz
  have hlt4 := r4.lt
  have rr4 := r4.below hbz
  clear z7 z10 z11 b1 l0 r3 r4
  go_enter Try.func37, Try.ntmps37
  go_upto_region 1 with fail
  obtain ⟨w2, hw2⟩ : ∃ xq, w.alloc (.cells #[.int .u8 8, .int .i64 (s : Int), .int .i64 (pa : Int), .int .i64 pb, .int .i64 pc, .int .i64 pr, .int .i64 pl] 25) = xq := ⟨_, rfl⟩
  have k25 : Blk w2 w.heap.size 25 #[.int .u8 8, .int .i64 (s : Int), .int .i64 (pa : Int), .int .i64 pb, .int .i64 pc, .int .i64 pr, .int .i64 pl] := hw2 ▸ Blk.new w _ _
  rw [hw2] at hbz z7w z10w z11w b1w l0w rr3 rr4 ⊢
  have HB2 := Lib.hid hbz
  have y0 : w2.cell? ⟨w.heap.size, 0, none⟩ = some (.int .u8 8) := k25.cell 0
  have y1 : w2.cell? ⟨w.heap.size, 1, none⟩ = some (.int .i64 (s : Int)) := k25.cell 1
  have y2 : w2.cell? ⟨w.heap.size, 2, none⟩ = some (.int .i64 (pa : Int)) := k25.cell 2
  have y3 : w2.cell? ⟨w.heap.size, 3, none⟩ = some (.int .i64 pb) := k25.cell 3
  have y4 : w2.cell? ⟨w.heap.size, 4, none⟩ = some (.int .i64 pc) := k25.cell 4
  have y5 : w2.cell? ⟨w.heap.size, 5, none⟩ = some (.int .i64 pr) := k25.cell 5
  have y6 : w2.cell? ⟨w.heap.size, 6, none⟩ = some (.int .i64 pl) := k25.cell 6
  have z7 : w2.cell? ⟨R, o + 7, none⟩ = some (.int .u32 h) := z7w
  have z10 : w2.cell? ⟨R, o + 10, none⟩ = some (.slice (some ⟨g3, 0, none⟩) n3 m3) := z10w
  have z11 : w2.cell? ⟨R, o + 11, none⟩ = some (.slice (some ⟨g4, 0, none⟩) n4 m4) := z11w
  have b1 : w2.cell? ⟨B, 1, none⟩ = some (.int .i64 c) := b1w
  have l0 : w2.cell? ⟨gL, pa, none⟩ = some (.int .i64 x) := l0w
  have hyw : ¬ (w.heap.size = g3 ∨ w.heap.size = g4) := by omega
  have HF := Lib.hid (show ∀ W : World, Frm (fun b => b = g3 ∨ b = g4) w2 W → W.cell? ⟨w.heap.size, 0, none⟩ = some (.int .u8 8) ∧ W.cell? ⟨w.heap.size, 1, none⟩ = some (.int .i64 (s : Int)) ∧ W.cell? ⟨w.heap.size, 2, none⟩ = some (.int .i64 (pa : Int)) ∧ W.cell? ⟨w.heap.size, 3, none⟩ = some (.int .i64 pb) ∧ W.cell? ⟨w.heap.size, 4, none⟩ = some (.int .i64 pc) ∧ W.cell? ⟨w.heap.size, 5, none⟩ = some (.int .i64 pr) ∧ W.cell? ⟨w.heap.size, 6, none⟩ = some (.int .i64 pl) ∧ W.cell? ⟨R, o + 7, none⟩ = some (.int .u32 h) ∧ W.cell? ⟨R, o + 10, none⟩ = some (.slice (some ⟨g3, 0, none⟩) n3 m3) ∧ W.cell? ⟨R, o + 11, none⟩ = some (.slice (some ⟨g4, 0, none⟩) n4 m4) ∧ W.cell? ⟨B, 1, none⟩ = some (.int .i64 c) ∧ W.cell? ⟨gL, pa, none⟩ = some (.int .i64 x) ∧ Frm (fun b => b = g3 ∨ b = g4) w2 W from fun W hL => ⟨(hL.cell (block_lt_of_cell y0) (hyw)).trans y0, (hL.cell (block_lt_of_cell y1) (hyw)).trans y1, (hL.cell (block_lt_of_cell y2) (hyw)).trans y2, (hL.cell (block_lt_of_cell y3) (hyw)).trans y3, (hL.cell (block_lt_of_cell y4) (hyw)).trans y4, (hL.cell (block_lt_of_cell y5) (hyw)).trans y5, (hL.cell (block_lt_of_cell y6) (hyw)).trans y6, (hL.cell (block_lt_of_cell z7) (nR)).trans z7, (hL.cell (block_lt_of_cell z10) (nR)).trans z10, (hL.cell (block_lt_of_cell z11) (nR)).trans z11, (hL.cell (block_lt_of_cell b1) (nB)).trans b1, (hL.cell (block_lt_of_cell l0) (nLg)).trans l0, hL⟩)
  clear hw2 hbz k25 hyw y0 y1 y2 y3 y4 y5 y6 z7 z10 z11 b1 l0 nR nB
  clear z7w z10w z11w b1w l0w
  refine wp_region_held_drew (S := (fun W : World => W.cell? ⟨w.heap.size, 0, none⟩ = some (.int .u8 8) ∧ W.cell? ⟨w.heap.size, 1, none⟩ = some (.int .i64 (s : Int)) ∧ W.cell? ⟨w.heap.size, 2, none⟩ = some (.int .i64 (pa : Int)) ∧ W.cell? ⟨w.heap.size, 3, none⟩ = some (.int .i64 pb) ∧ W.cell? ⟨w.heap.size, 4, none⟩ = some (.int .i64 pc) ∧ W.cell? ⟨w.heap.size, 5, none⟩ = some (.int .i64 pr) ∧ W.cell? ⟨w.heap.size, 6, none⟩ = some (.int .i64 pl) ∧ W.cell? ⟨R, o + 7, none⟩ = some (.int .u32 h) ∧ W.cell? ⟨R, o + 10, none⟩ = some (.slice (some ⟨g3, 0, none⟩) n3 m3) ∧ W.cell? ⟨R, o + 11, none⟩ = some (.slice (some ⟨g4, 0, none⟩) n4 m4) ∧ W.cell? ⟨B, 1, none⟩ = some (.int .i64 c) ∧ W.cell? ⟨gL, pa, none⟩ = some (.int .i64 x) ∧ Frm (fun b => b = g3 ∨ b = g4) w2 W)) (by kernel_rfl) (HF.out _ ((Frm.refl _ w2).drew)) (fun hHeld => ?_)
  refine tkz (i := 0) (d := 21) rfl rfl ?_
  simp only [Act.put, zzA, zzB, zzC]
  refine tkz (i := 1) (d := 22) rfl rfl ?_
  simp only [Act.put, zzA, zzB, zzC]
  refine tkz (i := 2) (d := 23) rfl rfl ?_
  simp only [Act.put, zzA, zzB, zzC]
  refine tkz (i := 3) (d := 24) rfl rfl ?_
  simp only [Act.put, zzA, zzB, zzC]
  refine tkz (i := 4) (d := 25) rfl rfl ?_
  simp only [Act.put, zzA, zzB, zzC]
  refine tkz (i := 5) (d := 26) rfl rfl ?_
  simp only [Act.put, zzA, zzB, zzC]
  refine tkz (i := 6) (d := 27) rfl rfl ?_
  simp only [Act.put, zzA, zzB, zzC]
  refine tkz (i := 7) (d := 28) rfl rfl ?_
  simp only [Act.put, zzA, zzB, zzC]
  refine tkz (i := 8) (d := 29) rfl rfl ?_
  simp only [Act.put, zzA, zzB, zzC]
  refine tkz (i := 9) (d := 30) rfl rfl ?_
  simp only [Act.put, zzA, zzB, zzC]
  refine rdz (i := 10) rfl (fun K hK => ?_)
  go_simp
  refine (HPL.out _).mono ?_
  rintro e w3 ⟨rfl, rfl⟩
  go_wp2_with fail
  refine hK.out _ _ hHeld (fun hHeld => ?_)
  clear hK K
  try simp only [Act.put, zzA, zzB, zzC]
  refine tkz (i := 11) (d := 11) rfl rfl ?_
  simp only [Act.put, zzA, zzB, zzC]
  refine wpAnyH_done (by kernel_rfl) ?_ _
  have rr3 := Row.drew rr3
  have rr4 := Row.drew rr4
  obtain ⟨w3, hw3⟩ : ∃ xq, w2.drew = xq := ⟨_, rfl⟩
  rw [hw3] at hHeld rr3 rr4 ⊢
  clear hw3 HPL
  have HL3 := Lib.hid (hHeld.2.2.2.2.2.2.2.2.2.2.2.2)
  obtain ⟨y0, y1, y2, y3, y4, y5, y6, z7, z10, z11, b1, l0, _⟩ := hHeld
  go_wp2_with fail
  refine (HSQ.out _).mono ?_
  rintro e w4 ⟨rfl, hb4⟩
  have HL4 := Lib.hid (HL3.out.below hb4)
  have HR3 := Lib.hid (rr3.below hb4)
  have HR4 := Lib.hid (rr4.below hb4)
  clear hb4 HSQ rr3 rr4 y0 y1 y2 y3 y4 y5 y6 z7 z10 z11 b1 l0
  obtain ⟨y0, y1, y2, y3, y4, y5, y6, z7, z10, z11, b1, l0, _⟩ := HF.out _ HL4.out
  have sy := row_o HR3.out HY.out
  go_upto_region 20 with fail
  have e1 := E1.out
  have e2 := E2.out
  have e3 := E3.out
  have e4 := E4.out
  have e5 := E5.out
  have e6 := E6.out
  have e7 := E7.out
  have e8 := E8.out
  refine wp_region_held_drew (S := (fun W : World => W.cell? ⟨w.heap.size, 0, none⟩ = some (.int .u8 8) ∧ W.cell? ⟨w.heap.size, 1, none⟩ = some (.int .i64 (s : Int)) ∧ W.cell? ⟨w.heap.size, 2, none⟩ = some (.int .i64 (pa : Int)) ∧ W.cell? ⟨w.heap.size, 3, none⟩ = some (.int .i64 pb) ∧ W.cell? ⟨w.heap.size, 4, none⟩ = some (.int .i64 pc) ∧ W.cell? ⟨w.heap.size, 5, none⟩ = some (.int .i64 pr) ∧ W.cell? ⟨w.heap.size, 6, none⟩ = some (.int .i64 pl) ∧ W.cell? ⟨R, o + 7, none⟩ = some (.int .u32 h) ∧ W.cell? ⟨R, o + 10, none⟩ = some (.slice (some ⟨g3, 0, none⟩) n3 m3) ∧ W.cell? ⟨R, o + 11, none⟩ = some (.slice (some ⟨g4, 0, none⟩) n4 m4) ∧ W.cell? ⟨B, 1, none⟩ = some (.int .i64 c) ∧ W.cell? ⟨gL, pa, none⟩ = some (.int .i64 x) ∧ Frm (fun b => b = g3 ∨ b = g4) w2 W)) (by kernel_rfl) (HF.out _ (HL4.out.drew)) (fun hHeld => ?_)
  clear sy
  have rd := HR4.out.drew
  have rs := HR3.out.drew
  obtain ⟨w7, hwn⟩ : ∃ xq, w4.drew = xq := ⟨_, rfl⟩
  rw [hwn] at rd rs hHeld ⊢
  clear hwn
  have HRD := Lib.hid rd
  have HRS := Lib.hid rs
  have qa := row_i rd HU.out
  have za := rd.frozen ya
  clear rd rs
  refine tkz (i := 0) (d := 172) rfl rfl ?_
  simp only [Act.put, zzA, zzB, zzC]
  refine tkz (i := 1) (d := 173) rfl rfl ?_
  simp only [Act.put, zzA, zzB, zzC]
  refine tkz (i := 2) (d := 174) rfl rfl ?_
  simp only [Act.put, zzA, zzB, zzC]
  refine tkz (i := 3) (d := 175) rfl rfl ?_
  simp only [Act.put, zzA, zzB, zzC]
  refine tkz (i := 4) (d := 176) rfl rfl ?_
  simp only [Act.put, zzA, zzB, zzC]
  refine tkz (i := 5) (d := 177) rfl rfl ?_
  simp only [Act.put, zzA, zzB, zzC]
  refine tkz (i := 6) (d := 178) rfl rfl ?_
  simp only [Act.put, zzA, zzB, zzC]
  refine tkz (i := 7) (d := 179) rfl rfl ?_
  simp only [Act.put, zzA, zzB, zzC]
  refine tkz (i := 8) (d := 180) rfl rfl ?_
  simp only [Act.put, zzA, zzB, zzC]
  refine tkz (i := 9) (d := 181) rfl rfl ?_
  simp only [Act.put, zzA, zzB, zzC]
  refine tkz (i := 10) (d := 182) rfl rfl ?_
  simp only [Act.put, zzA, zzB, zzC]
  refine tkz (i := 11) (d := 183) rfl rfl ?_
  simp only [Act.put, zzA, zzB, zzC]
  refine tkz (i := 12) (d := 184) rfl rfl ?_
  simp only [Act.put, zzA, zzB, zzC]
  refine tkz (i := 13) (d := 185) rfl rfl ?_
  simp only [Act.put, zzA, zzB, zzC]
  refine tkz (i := 14) (d := 186) rfl rfl ?_
  simp only [Act.put, zzA, zzB, zzC]
  refine tkz (i := 16) (d := 188) rfl rfl ?_
  simp only [Act.put, zzA, zzB, zzC]
  refine tkz (i := 17) (d := 189) rfl rfl ?_
  simp only [Act.put, zzA, zzB, zzC]
  refine tkz (i := 18) (d := 190) rfl rfl ?_
  simp only [Act.put, zzA, zzB, zzC]
  refine tkz (i := 19) (d := 191) rfl rfl ?_
  simp only [Act.put, zzA, zzB, zzC]
  refine tkz (i := 20) (d := 192) rfl rfl ?_
  simp only [Act.put, zzA, zzB, zzC]
  refine tkz (i := 21) (d := 193) rfl rfl ?_
  simp only [Act.put, zzA, zzB, zzC]
  refine tkz (i := 22) (d := 194) rfl rfl ?_
  simp only [Act.put, zzA, zzB, zzC]
  refine tkz (i := 23) (d := 195) rfl rfl ?_
  simp only [Act.put, zzA, zzB, zzC]
  refine wpAnyH_ready (rs := [15, 24]) (by kernel_rfl) (by simp) ?_
  refine AllReadyH.cons (o := _) rfl (fun K hK => ?_) (AllReadyH.cons (o := _) rfl (fun K hK => ?_) AllReadyH.nil)
  · go_simp
    refine hK.out _ _ hHeld (fun hHeld => ?_)
    clear hK K
    try simp only [Act.put, zzA, zzB, zzC]
    refine rdz (i := 24) rfl (fun K hK => ?_)
    go_simp
    refine (HDN.out _).mono ?_
    rintro e wq ⟨rfl, hs⟩
    rw [hs]
    clear hs wq
    go_wp2_with fail
    refine hK.out _ _ hHeld (fun hHeld => ?_)
    clear hK K
    try simp only [Act.put, zzA, zzB, zzC]
    refine tkz (i := 25) (d := 197) rfl rfl ?_
    simp only [Act.put, zzA, zzB, zzC]
    refine rdz (i := 26) rfl (fun K hK => ?_)
    go_simp
    refine (HIN.out _).mono ?_
    rintro e wr ⟨rfl, hs⟩
    rw [hs]
    clear hs wr
    go_wp2_with fail
    refine hK.out _ _ hHeld (fun hHeld => ?_)
    clear hK K
    try simp only [Act.put, zzA, zzB, zzC]
    refine tkz (i := 27) (d := 199) rfl rfl ?_
    simp only [Act.put, zzA, zzB, zzC]
    refine rdz (i := 28) rfl (fun K hK => ?_)
    go_simp
    refine hK.out _ _ (HF.out _ ((hHeld.2.2.2.2.2.2.2.2.2.2.2.2).setCell (p := ⟨g4, ya, none⟩) (fun _ => .inr rfl) _)) (fun hHeld => ?_)
    clear hK K
    try simp only [Act.put, zzA, zzB, zzC]
    refine wpAnyH_done (by kernel_rfl) ?_ _
    clear e1 e2 e3 e4 e5 e6 e7 e8
    have HLa := Lib.hid (hHeld.2.2.2.2.2.2.2.2.2.2.2.2)
    have r4x := HRD.out.seti HU.out P
    have r3x := HRS.out.far (p := ⟨g4, ya, none⟩) N34.out (.int .i64 P)
    obtain ⟨wa, hwn⟩ : ∃ xq, w7.setCell ⟨g4, ya, none⟩ (.int .i64 P) = xq := ⟨_, rfl⟩
    rw [hwn] at r4x r3x HLa hHeld ⊢
    clear hwn
    have HR4b := Lib.hid r4x
    have HR3b := Lib.hid r3x
    clear r4x r3x hHeld qa za
    clear y0 y1 y2 y3 y4 y5 y6 z7 z10 z11 b1 l0
    obtain ⟨y0, y1, y2, y3, y4, y5, y6, z7, z10, z11, b1, l0, _⟩ := HF.out _ HLa.out
    go_upto_region 21 with fail
    have e1 := E1.out
    have e2 := E2.out
    have e3 := E3.out
    have e4 := E4.out
    have e5 := E5.out
    have e6 := E6.out
    have e7 := E7.out
    have e8 := E8.out
    refine wp_region_held_drew (S := (fun W : World => W.cell? ⟨w.heap.size, 0, none⟩ = some (.int .u8 8) ∧ W.cell? ⟨w.heap.size, 1, none⟩ = some (.int .i64 (s : Int)) ∧ W.cell? ⟨w.heap.size, 2, none⟩ = some (.int .i64 (pa : Int)) ∧ W.cell? ⟨w.heap.size, 3, none⟩ = some (.int .i64 pb) ∧ W.cell? ⟨w.heap.size, 4, none⟩ = some (.int .i64 pc) ∧ W.cell? ⟨w.heap.size, 5, none⟩ = some (.int .i64 pr) ∧ W.cell? ⟨w.heap.size, 6, none⟩ = some (.int .i64 pl) ∧ W.cell? ⟨R, o + 7, none⟩ = some (.int .u32 h) ∧ W.cell? ⟨R, o + 10, none⟩ = some (.slice (some ⟨g3, 0, none⟩) n3 m3) ∧ W.cell? ⟨R, o + 11, none⟩ = some (.slice (some ⟨g4, 0, none⟩) n4 m4) ∧ W.cell? ⟨B, 1, none⟩ = some (.int .i64 c) ∧ W.cell? ⟨gL, pa, none⟩ = some (.int .i64 x) ∧ Frm (fun b => b = g3 ∨ b = g4) w2 W)) (by kernel_rfl) (HF.out _ (HLa.out.drew)) (fun hHeld => ?_)
    have rd := HR4b.out.drew
    have rs := HR3b.out.drew
    obtain ⟨w9, hwn⟩ : ∃ xq, wa.drew = xq := ⟨_, rfl⟩
    rw [hwn] at rd rs hHeld ⊢
    clear hwn
    have HRD2 := Lib.hid rd
    have HRS2 := Lib.hid rs
    have qa := row_i rd HV2.out
    have za := rd.frozen yb
    clear rd rs
    refine tkz (i := 0) (d := 200) rfl rfl ?_
    simp only [Act.put, zzA, zzB, zzC]
    refine tkz (i := 1) (d := 201) rfl rfl ?_
    simp only [Act.put, zzA, zzB, zzC]
    refine tkz (i := 2) (d := 202) rfl rfl ?_
    simp only [Act.put, zzA, zzB, zzC]
    refine tkz (i := 3) (d := 203) rfl rfl ?_
    simp only [Act.put, zzA, zzB, zzC]
    refine tkz (i := 4) (d := 204) rfl rfl ?_
    simp only [Act.put, zzA, zzB, zzC]
    refine tkz (i := 5) (d := 205) rfl rfl ?_
    simp only [Act.put, zzA, zzB, zzC]
    refine tkz (i := 6) (d := 206) rfl rfl ?_
    simp only [Act.put, zzA, zzB, zzC]
    refine tkz (i := 7) (d := 207) rfl rfl ?_
    simp only [Act.put, zzA, zzB, zzC]
    refine tkz (i := 8) (d := 208) rfl rfl ?_
    simp only [Act.put, zzA, zzB, zzC]
    refine tkz (i := 9) (d := 209) rfl rfl ?_
    simp only [Act.put, zzA, zzB, zzC]
    refine tkz (i := 10) (d := 210) rfl rfl ?_
    simp only [Act.put, zzA, zzB, zzC]
    refine tkz (i := 11) (d := 211) rfl rfl ?_
    simp only [Act.put, zzA, zzB, zzC]
    refine tkz (i := 12) (d := 212) rfl rfl ?_
    simp only [Act.put, zzA, zzB, zzC]
    refine tkz (i := 13) (d := 213) rfl rfl ?_
    simp only [Act.put, zzA, zzB, zzC]
    refine tkz (i := 14) (d := 214) rfl rfl ?_
    simp only [Act.put, zzA, zzB, zzC]
    refine tkz (i := 15) (d := 215) rfl rfl ?_
    simp only [Act.put, zzA, zzB, zzC]
    refine tkz (i := 16) (d := 216) rfl rfl ?_
    simp only [Act.put, zzA, zzB, zzC]
    refine tkz (i := 18) (d := 218) rfl rfl ?_
    simp only [Act.put, zzA, zzB, zzC]
    refine tkz (i := 19) (d := 219) rfl rfl ?_
    simp only [Act.put, zzA, zzB, zzC]
    refine wpAnyH_ready (rs := [17, 20]) (by kernel_rfl) (by simp) ?_
    refine AllReadyH.cons (o := _) rfl (fun K hK => ?_) (AllReadyH.cons (o := _) rfl (fun K hK => ?_) AllReadyH.nil)
    · go_simp
      refine hK.out _ _ hHeld (fun hHeld => ?_)
      clear hK K
      try simp only [Act.put, zzA, zzB, zzC]
      refine rdz (i := 20) rfl (fun K hK => ?_)
      go_simp
      refine (HDM.out _).mono ?_
      rintro e wq ⟨rfl, hs⟩
      rw [hs]
      clear hs wq
      go_wp2_with fail
      refine hK.out _ _ hHeld (fun hHeld => ?_)
      clear hK K
      try simp only [Act.put, zzA, zzB, zzC]
      refine tkz (i := 21) (d := 221) rfl rfl ?_
      simp only [Act.put, zzA, zzB, zzC]
      refine rdz (i := 22) rfl (fun K hK => ?_)
      go_simp
      refine (HIM.out _).mono ?_
      rintro e wr ⟨rfl, hs⟩
      rw [hs]
      clear hs wr
      go_wp2_with fail
      refine hK.out _ _ hHeld (fun hHeld => ?_)
      clear hK K
      try simp only [Act.put, zzA, zzB, zzC]
      refine tkz (i := 23) (d := 223) rfl rfl ?_
      simp only [Act.put, zzA, zzB, zzC]
      refine rdz (i := 24) rfl (fun K hK => ?_)
      go_simp
      refine hK.out _ _ (HF.out _ ((hHeld.2.2.2.2.2.2.2.2.2.2.2.2).setCell (p := ⟨g4, yb, none⟩) (fun _ => .inr rfl) _)) (fun hHeld => ?_)
      clear hK K
      try simp only [Act.put, zzA, zzB, zzC]
      refine wpAnyH_done (by kernel_rfl) ?_ _
      clear e1 e2 e3 e4 e5 e6 e7 e8
      have HLb := Lib.hid (hHeld.2.2.2.2.2.2.2.2.2.2.2.2)
      have r4x := HRD2.out.seti HV2.out Q
      have r3x := HRS2.out.far (p := ⟨g4, yb, none⟩) N34.out (.int .i64 Q)
      obtain ⟨wb, hwn⟩ : ∃ xq, w9.setCell ⟨g4, yb, none⟩ (.int .i64 Q) = xq := ⟨_, rfl⟩
      rw [hwn] at r4x r3x HLb hHeld ⊢
      clear hwn
      have HR4c := Lib.hid r4x
      have HR3c := Lib.hid r3x
      clear r4x r3x hHeld qa za
      clear y0 y1 y2 y3 y4 y5 y6 z7 z10 z11 b1 l0
      obtain ⟨y0, y1, y2, y3, y4, y5, y6, z7, z10, z11, b1, l0, _⟩ := HF.out _ HLb.out
      go_upto_region 22 with fail
      refine wp_region_held_drew (S := (fun W : World => W.cell? ⟨w.heap.size, 0, none⟩ = some (.int .u8 8) ∧ W.cell? ⟨w.heap.size, 1, none⟩ = some (.int .i64 (s : Int)) ∧ W.cell? ⟨w.heap.size, 2, none⟩ = some (.int .i64 (pa : Int)) ∧ W.cell? ⟨w.heap.size, 3, none⟩ = some (.int .i64 pb) ∧ W.cell? ⟨w.heap.size, 4, none⟩ = some (.int .i64 pc) ∧ W.cell? ⟨w.heap.size, 5, none⟩ = some (.int .i64 pr) ∧ W.cell? ⟨w.heap.size, 6, none⟩ = some (.int .i64 pl) ∧ W.cell? ⟨R, o + 7, none⟩ = some (.int .u32 h) ∧ W.cell? ⟨R, o + 10, none⟩ = some (.slice (some ⟨g3, 0, none⟩) n3 m3) ∧ W.cell? ⟨R, o + 11, none⟩ = some (.slice (some ⟨g4, 0, none⟩) n4 m4) ∧ W.cell? ⟨B, 1, none⟩ = some (.int .i64 c) ∧ W.cell? ⟨gL, pa, none⟩ = some (.int .i64 x) ∧ Frm (fun b => b = g3 ∨ b = g4) w2 W)) (by kernel_rfl) (HF.out _ (HLb.out.drew)) (fun hHeld => ?_)
      have rd := HR4c.out.drew
      have rs := HR3c.out.drew
      obtain ⟨wc, hwn⟩ : ∃ xq, wb.drew = xq := ⟨_, rfl⟩
      rw [hwn] at rd rs hHeld ⊢
      clear hwn
      have HRD3 := Lib.hid rd
      have HRS3 := Lib.hid rs
      have qs := row_o rs HY.out
      have zs := rs.frozen a
      clear rd rs
      refine tkz (i := 0) (d := 224) rfl rfl ?_
      simp only [Act.put, zzA, zzB, zzC]
      refine tkz (i := 1) (d := 225) rfl rfl ?_
      simp only [Act.put, zzA, zzB, zzC]
      refine tkz (i := 2) (d := 226) rfl rfl ?_
      simp only [Act.put, zzA, zzB, zzC]
      refine tkz (i := 3) (d := 227) rfl rfl ?_
      simp only [Act.put, zzA, zzB, zzC]
      refine tkz (i := 4) (d := 228) rfl rfl ?_
      simp only [Act.put, zzA, zzB, zzC]
      refine tkz (i := 5) (d := 229) rfl rfl ?_
      simp only [Act.put, zzA, zzB, zzC]
      refine tkz (i := 6) (d := 230) rfl rfl ?_
      simp only [Act.put, zzA, zzB, zzC]
      refine rdz (i := 7) rfl (fun K hK => ?_)
      go_simp
      refine (HNX.out _).mono ?_
      rintro e wq ⟨rfl, hs⟩
      rw [← hs]
      clear hs wq
      go_wp2_with fail
      refine hK.out _ _ hHeld (fun hHeld => ?_)
      clear hK K
      try simp only [Act.put, zzA, zzB, zzC]
      refine tkz (i := 8) (d := 232) rfl rfl ?_
      simp only [Act.put, zzA, zzB, zzC]
      refine rdz (i := 9) rfl (fun K hK => ?_)
      go_simp
      refine hK.out _ _ (HF.out _ ((hHeld.2.2.2.2.2.2.2.2.2.2.2.2).setCell (p := ⟨g3, a, none⟩) (fun _ => .inl rfl) _)) (fun hHeld => ?_)
      clear hK K
      try simp only [Act.put, zzA, zzB, zzC]
      refine wpAnyH_done (by kernel_rfl) ?_ _
      go_wp2
      refine bodyPost_ret (v := .tuple #[]) (by simp [results, Try.results37, go_sem]) rfl ?_
      exact ⟨rfl, ⟨HRS3.out.seto HY.out Z, HRD3.out.far (p := ⟨g3, a, none⟩) (fun e => N34.out e.symm) _⟩, (Frm.trans (S := fun b => b = g3 ∨ b = g4) (Frm.of_below HB2.out) (hHeld.2.2.2.2.2.2.2.2.2.2.2.2) (fun _ _ h => h))⟩
    · go_simp
      refine (HDM.out _).mono ?_
      rintro e wq ⟨rfl, hs⟩
      rw [hs]
      clear hs wq
      go_wp2_with fail
      refine hK.out _ _ hHeld (fun hHeld => ?_)
      clear hK K
      try simp only [Act.put, zzA, zzB, zzC]
      refine rdz (i := 17) rfl (fun K hK => ?_)
      go_simp
      refine hK.out _ _ hHeld (fun hHeld => ?_)
      clear hK K
      try simp only [Act.put, zzA, zzB, zzC]
      refine tkz (i := 21) (d := 221) rfl rfl ?_
      simp only [Act.put, zzA, zzB, zzC]
      refine rdz (i := 22) rfl (fun K hK => ?_)
      go_simp
      refine (HIM.out _).mono ?_
      rintro e wr ⟨rfl, hs⟩
      rw [hs]
      clear hs wr
      go_wp2_with fail
      refine hK.out _ _ hHeld (fun hHeld => ?_)
      clear hK K
      try simp only [Act.put, zzA, zzB, zzC]
      refine tkz (i := 23) (d := 223) rfl rfl ?_
      simp only [Act.put, zzA, zzB, zzC]
      refine rdz (i := 24) rfl (fun K hK => ?_)
      go_simp
      refine hK.out _ _ (HF.out _ ((hHeld.2.2.2.2.2.2.2.2.2.2.2.2).setCell (p := ⟨g4, yb, none⟩) (fun _ => .inr rfl) _)) (fun hHeld => ?_)
      clear hK K
      try simp only [Act.put, zzA, zzB, zzC]
      refine wpAnyH_done (by kernel_rfl) ?_ _
      clear e1 e2 e3 e4 e5 e6 e7 e8
      have HLb := Lib.hid (hHeld.2.2.2.2.2.2.2.2.2.2.2.2)
      have r4x := HRD2.out.seti HV2.out Q
      have r3x := HRS2.out.far (p := ⟨g4, yb, none⟩) N34.out (.int .i64 Q)
      obtain ⟨wb, hwn⟩ : ∃ xq, w9.setCell ⟨g4, yb, none⟩ (.int .i64 Q) = xq := ⟨_, rfl⟩
      rw [hwn] at r4x r3x HLb hHeld ⊢
      clear hwn
      have HR4c := Lib.hid r4x
      have HR3c := Lib.hid r3x
      clear r4x r3x hHeld qa za
      clear y0 y1 y2 y3 y4 y5 y6 z7 z10 z11 b1 l0
      obtain ⟨y0, y1, y2, y3, y4, y5, y6, z7, z10, z11, b1, l0, _⟩ := HF.out _ HLb.out
      go_upto_region 22 with fail
      refine wp_region_held_drew (S := (fun W : World => W.cell? ⟨w.heap.size, 0, none⟩ = some (.int .u8 8) ∧ W.cell? ⟨w.heap.size, 1, none⟩ = some (.int .i64 (s : Int)) ∧ W.cell? ⟨w.heap.size, 2, none⟩ = some (.int .i64 (pa : Int)) ∧ W.cell? ⟨w.heap.size, 3, none⟩ = some (.int .i64 pb) ∧ W.cell? ⟨w.heap.size, 4, none⟩ = some (.int .i64 pc) ∧ W.cell? ⟨w.heap.size, 5, none⟩ = some (.int .i64 pr) ∧ W.cell? ⟨w.heap.size, 6, none⟩ = some (.int .i64 pl) ∧ W.cell? ⟨R, o + 7, none⟩ = some (.int .u32 h) ∧ W.cell? ⟨R, o + 10, none⟩ = some (.slice (some ⟨g3, 0, none⟩) n3 m3) ∧ W.cell? ⟨R, o + 11, none⟩ = some (.slice (some ⟨g4, 0, none⟩) n4 m4) ∧ W.cell? ⟨B, 1, none⟩ = some (.int .i64 c) ∧ W.cell? ⟨gL, pa, none⟩ = some (.int .i64 x) ∧ Frm (fun b => b = g3 ∨ b = g4) w2 W)) (by kernel_rfl) (HF.out _ (HLb.out.drew)) (fun hHeld => ?_)
      have rd := HR4c.out.drew
      have rs := HR3c.out.drew
      obtain ⟨wc, hwn⟩ : ∃ xq, wb.drew = xq := ⟨_, rfl⟩
      rw [hwn] at rd rs hHeld ⊢
      clear hwn
      have HRD3 := Lib.hid rd
      have HRS3 := Lib.hid rs
      have qs := row_o rs HY.out
      have zs := rs.frozen a
      clear rd rs
      refine tkz (i := 0) (d := 224) rfl rfl ?_
      simp only [Act.put, zzA, zzB, zzC]
      refine tkz (i := 1) (d := 225) rfl rfl ?_
      simp only [Act.put, zzA, zzB, zzC]
      refine tkz (i := 2) (d := 226) rfl rfl ?_
      simp only [Act.put, zzA, zzB, zzC]
      refine tkz (i := 3) (d := 227) rfl rfl ?_
      simp only [Act.put, zzA, zzB, zzC]
      refine tkz (i := 4) (d := 228) rfl rfl ?_
      simp only [Act.put, zzA, zzB, zzC]
      refine tkz (i := 5) (d := 229) rfl rfl ?_
      simp only [Act.put, zzA, zzB, zzC]
      refine tkz (i := 6) (d := 230) rfl rfl ?_
      simp only [Act.put, zzA, zzB, zzC]
      refine rdz (i := 7) rfl (fun K hK => ?_)
      go_simp
      refine (HNX.out _).mono ?_
      rintro e wq ⟨rfl, hs⟩
      rw [← hs]
      clear hs wq
      go_wp2_with fail
      refine hK.out _ _ hHeld (fun hHeld => ?_)
      clear hK K
      try simp only [Act.put, zzA, zzB, zzC]
      refine tkz (i := 8) (d := 232) rfl rfl ?_
      simp only [Act.put, zzA, zzB, zzC]
      refine rdz (i := 9) rfl (fun K hK => ?_)
      go_simp
      refine hK.out _ _ (HF.out _ ((hHeld.2.2.2.2.2.2.2.2.2.2.2.2).setCell (p := ⟨g3, a, none⟩) (fun _ => .inl rfl) _)) (fun hHeld => ?_)
      clear hK K
      try simp only [Act.put, zzA, zzB, zzC]
      refine wpAnyH_done (by kernel_rfl) ?_ _
      go_wp2
      refine bodyPost_ret (v := .tuple #[]) (by simp [results, Try.results37, go_sem]) rfl ?_
      exact ⟨rfl, ⟨HRS3.out.seto HY.out Z, HRD3.out.far (p := ⟨g3, a, none⟩) (fun e => N34.out e.symm) _⟩, (Frm.trans (S := fun b => b = g3 ∨ b = g4) (Frm.of_below HB2.out) (hHeld.2.2.2.2.2.2.2.2.2.2.2.2) (fun _ _ h => h))⟩
  · go_simp
    refine (HDN.out _).mono ?_
    rintro e wq ⟨rfl, hs⟩
    rw [hs]
    clear hs wq
    go_wp2_with fail
    refine hK.out _ _ hHeld (fun hHeld => ?_)
    clear hK K
    try simp only [Act.put, zzA, zzB, zzC]
    refine rdz (i := 15) rfl (fun K hK => ?_)
    go_simp
    refine hK.out _ _ hHeld (fun hHeld => ?_)
    clear hK K
    try simp only [Act.put, zzA, zzB, zzC]
    refine tkz (i := 25) (d := 197) rfl rfl ?_
    simp only [Act.put, zzA, zzB, zzC]
    refine rdz (i := 26) rfl (fun K hK => ?_)
    go_simp
    refine (HIN.out _).mono ?_
    rintro e wr ⟨rfl, hs⟩
    rw [hs]
    clear hs wr
    go_wp2_with fail
    refine hK.out _ _ hHeld (fun hHeld => ?_)
    clear hK K
    try simp only [Act.put, zzA, zzB, zzC]
    refine tkz (i := 27) (d := 199) rfl rfl ?_
    simp only [Act.put, zzA, zzB, zzC]
    refine rdz (i := 28) rfl (fun K hK => ?_)
    go_simp
    refine hK.out _ _ (HF.out _ ((hHeld.2.2.2.2.2.2.2.2.2.2.2.2).setCell (p := ⟨g4, ya, none⟩) (fun _ => .inr rfl) _)) (fun hHeld => ?_)
    clear hK K
    try simp only [Act.put, zzA, zzB, zzC]
    refine wpAnyH_done (by kernel_rfl) ?_ _
    clear e1 e2 e3 e4 e5 e6 e7 e8
    have HLa := Lib.hid (hHeld.2.2.2.2.2.2.2.2.2.2.2.2)
    have r4x := HRD.out.seti HU.out P
    have r3x := HRS.out.far (p := ⟨g4, ya, none⟩) N34.out (.int .i64 P)
    obtain ⟨wa, hwn⟩ : ∃ xq, w7.setCell ⟨g4, ya, none⟩ (.int .i64 P) = xq := ⟨_, rfl⟩
    rw [hwn] at r4x r3x HLa hHeld ⊢
    clear hwn
    have HR4b := Lib.hid r4x
    have HR3b := Lib.hid r3x
    clear r4x r3x hHeld qa za
    clear y0 y1 y2 y3 y4 y5 y6 z7 z10 z11 b1 l0
    obtain ⟨y0, y1, y2, y3, y4, y5, y6, z7, z10, z11, b1, l0, _⟩ := HF.out _ HLa.out
    go_upto_region 21 with fail
    have e1 := E1.out
    have e2 := E2.out
    have e3 := E3.out
    have e4 := E4.out
    have e5 := E5.out
    have e6 := E6.out
    have e7 := E7.out
    have e8 := E8.out
    refine wp_region_held_drew (S := (fun W : World => W.cell? ⟨w.heap.size, 0, none⟩ = some (.int .u8 8) ∧ W.cell? ⟨w.heap.size, 1, none⟩ = some (.int .i64 (s : Int)) ∧ W.cell? ⟨w.heap.size, 2, none⟩ = some (.int .i64 (pa : Int)) ∧ W.cell? ⟨w.heap.size, 3, none⟩ = some (.int .i64 pb) ∧ W.cell? ⟨w.heap.size, 4, none⟩ = some (.int .i64 pc) ∧ W.cell? ⟨w.heap.size, 5, none⟩ = some (.int .i64 pr) ∧ W.cell? ⟨w.heap.size, 6, none⟩ = some (.int .i64 pl) ∧ W.cell? ⟨R, o + 7, none⟩ = some (.int .u32 h) ∧ W.cell? ⟨R, o + 10, none⟩ = some (.slice (some ⟨g3, 0, none⟩) n3 m3) ∧ W.cell? ⟨R, o + 11, none⟩ = some (.slice (some ⟨g4, 0, none⟩) n4 m4) ∧ W.cell? ⟨B, 1, none⟩ = some (.int .i64 c) ∧ W.cell? ⟨gL, pa, none⟩ = some (.int .i64 x) ∧ Frm (fun b => b = g3 ∨ b = g4) w2 W)) (by kernel_rfl) (HF.out _ (HLa.out.drew)) (fun hHeld => ?_)
    have rd := HR4b.out.drew
    have rs := HR3b.out.drew
    obtain ⟨w9, hwn⟩ : ∃ xq, wa.drew = xq := ⟨_, rfl⟩
    rw [hwn] at rd rs hHeld ⊢
    clear hwn
    have HRD2 := Lib.hid rd
    have HRS2 := Lib.hid rs
    have qa := row_i rd HV2.out
    have za := rd.frozen yb
    clear rd rs
    refine tkz (i := 0) (d := 200) rfl rfl ?_
    simp only [Act.put, zzA, zzB, zzC]
    refine tkz (i := 1) (d := 201) rfl rfl ?_
    simp only [Act.put, zzA, zzB, zzC]
    refine tkz (i := 2) (d := 202) rfl rfl ?_
    simp only [Act.put, zzA, zzB, zzC]
    refine tkz (i := 3) (d := 203) rfl rfl ?_
    simp only [Act.put, zzA, zzB, zzC]
    refine tkz (i := 4) (d := 204) rfl rfl ?_
    simp only [Act.put, zzA, zzB, zzC]
    refine tkz (i := 5) (d := 205) rfl rfl ?_
    simp only [Act.put, zzA, zzB, zzC]
    refine tkz (i := 6) (d := 206) rfl rfl ?_
    simp only [Act.put, zzA, zzB, zzC]
    refine tkz (i := 7) (d := 207) rfl rfl ?_
    simp only [Act.put, zzA, zzB, zzC]
    refine tkz (i := 8) (d := 208) rfl rfl ?_
    simp only [Act.put, zzA, zzB, zzC]
    refine tkz (i := 9) (d := 209) rfl rfl ?_
    simp only [Act.put, zzA, zzB, zzC]
    refine tkz (i := 10) (d := 210) rfl rfl ?_
    simp only [Act.put, zzA, zzB, zzC]
    refine tkz (i := 11) (d := 211) rfl rfl ?_
    simp only [Act.put, zzA, zzB, zzC]
    refine tkz (i := 12) (d := 212) rfl rfl ?_
    simp only [Act.put, zzA, zzB, zzC]
    refine tkz (i := 13) (d := 213) rfl rfl ?_
    simp only [Act.put, zzA, zzB, zzC]
    refine tkz (i := 14) (d := 214) rfl rfl ?_
    simp only [Act.put, zzA, zzB, zzC]
    refine tkz (i := 15) (d := 215) rfl rfl ?_
    simp only [Act.put, zzA, zzB, zzC]
    refine tkz (i := 16) (d := 216) rfl rfl ?_
    simp only [Act.put, zzA, zzB, zzC]
    refine tkz (i := 18) (d := 218) rfl rfl ?_
    simp only [Act.put, zzA, zzB, zzC]
    refine tkz (i := 19) (d := 219) rfl rfl ?_
    simp only [Act.put, zzA, zzB, zzC]
    refine wpAnyH_ready (rs := [17, 20]) (by kernel_rfl) (by simp) ?_
    refine AllReadyH.cons (o := _) rfl (fun K hK => ?_) (AllReadyH.cons (o := _) rfl (fun K hK => ?_) AllReadyH.nil)
    · go_simp
      refine hK.out _ _ hHeld (fun hHeld => ?_)
      clear hK K
      try simp only [Act.put, zzA, zzB, zzC]
      refine rdz (i := 20) rfl (fun K hK => ?_)
      go_simp
      refine (HDM.out _).mono ?_
      rintro e wq ⟨rfl, hs⟩
      rw [hs]
      clear hs wq
      go_wp2_with fail
      refine hK.out _ _ hHeld (fun hHeld => ?_)
      clear hK K
      try simp only [Act.put, zzA, zzB, zzC]
      refine tkz (i := 21) (d := 221) rfl rfl ?_
      simp only [Act.put, zzA, zzB, zzC]
      refine rdz (i := 22) rfl (fun K hK => ?_)
      go_simp
      refine (HIM.out _).mono ?_
      rintro e wr ⟨rfl, hs⟩
      rw [hs]
      clear hs wr
      go_wp2_with fail
      refine hK.out _ _ hHeld (fun hHeld => ?_)
      clear hK K
      try simp only [Act.put, zzA, zzB, zzC]
      refine tkz (i := 23) (d := 223) rfl rfl ?_
      simp only [Act.put, zzA, zzB, zzC]
      refine rdz (i := 24) rfl (fun K hK => ?_)
      go_simp
      refine hK.out _ _ (HF.out _ ((hHeld.2.2.2.2.2.2.2.2.2.2.2.2).setCell (p := ⟨g4, yb, none⟩) (fun _ => .inr rfl) _)) (fun hHeld => ?_)
      clear hK K
      try simp only [Act.put, zzA, zzB, zzC]
      refine wpAnyH_done (by kernel_rfl) ?_ _
      clear e1 e2 e3 e4 e5 e6 e7 e8
      have HLb := Lib.hid (hHeld.2.2.2.2.2.2.2.2.2.2.2.2)
      have r4x := HRD2.out.seti HV2.out Q
      have r3x := HRS2.out.far (p := ⟨g4, yb, none⟩) N34.out (.int .i64 Q)
      obtain ⟨wb, hwn⟩ : ∃ xq, w9.setCell ⟨g4, yb, none⟩ (.int .i64 Q) = xq := ⟨_, rfl⟩
      rw [hwn] at r4x r3x HLb hHeld ⊢
      clear hwn
      have HR4c := Lib.hid r4x
      have HR3c := Lib.hid r3x
      clear r4x r3x hHeld qa za
      clear y0 y1 y2 y3 y4 y5 y6 z7 z10 z11 b1 l0
      obtain ⟨y0, y1, y2, y3, y4, y5, y6, z7, z10, z11, b1, l0, _⟩ := HF.out _ HLb.out
      go_upto_region 22 with fail
      refine wp_region_held_drew (S := (fun W : World => W.cell? ⟨w.heap.size, 0, none⟩ = some (.int .u8 8) ∧ W.cell? ⟨w.heap.size, 1, none⟩ = some (.int .i64 (s : Int)) ∧ W.cell? ⟨w.heap.size, 2, none⟩ = some (.int .i64 (pa : Int)) ∧ W.cell? ⟨w.heap.size, 3, none⟩ = some (.int .i64 pb) ∧ W.cell? ⟨w.heap.size, 4, none⟩ = some (.int .i64 pc) ∧ W.cell? ⟨w.heap.size, 5, none⟩ = some (.int .i64 pr) ∧ W.cell? ⟨w.heap.size, 6, none⟩ = some (.int .i64 pl) ∧ W.cell? ⟨R, o + 7, none⟩ = some (.int .u32 h) ∧ W.cell? ⟨R, o + 10, none⟩ = some (.slice (some ⟨g3, 0, none⟩) n3 m3) ∧ W.cell? ⟨R, o + 11, none⟩ = some (.slice (some ⟨g4, 0, none⟩) n4 m4) ∧ W.cell? ⟨B, 1, none⟩ = some (.int .i64 c) ∧ W.cell? ⟨gL, pa, none⟩ = some (.int .i64 x) ∧ Frm (fun b => b = g3 ∨ b = g4) w2 W)) (by kernel_rfl) (HF.out _ (HLb.out.drew)) (fun hHeld => ?_)
      have rd := HR4c.out.drew
      have rs := HR3c.out.drew
      obtain ⟨wc, hwn⟩ : ∃ xq, wb.drew = xq := ⟨_, rfl⟩
      rw [hwn] at rd rs hHeld ⊢
      clear hwn
      have HRD3 := Lib.hid rd
      have HRS3 := Lib.hid rs
      have qs := row_o rs HY.out
      have zs := rs.frozen a
      clear rd rs
      refine tkz (i := 0) (d := 224) rfl rfl ?_
      simp only [Act.put, zzA, zzB, zzC]
      refine tkz (i := 1) (d := 225) rfl rfl ?_
      simp only [Act.put, zzA, zzB, zzC]
      refine tkz (i := 2) (d := 226) rfl rfl ?_
      simp only [Act.put, zzA, zzB, zzC]
      refine tkz (i := 3) (d := 227) rfl rfl ?_
      simp only [Act.put, zzA, zzB, zzC]
      refine tkz (i := 4) (d := 228) rfl rfl ?_
      simp only [Act.put, zzA, zzB, zzC]
      refine tkz (i := 5) (d := 229) rfl rfl ?_
      simp only [Act.put, zzA, zzB, zzC]
      refine tkz (i := 6) (d := 230) rfl rfl ?_
      simp only [Act.put, zzA, zzB, zzC]
      refine rdz (i := 7) rfl (fun K hK => ?_)
      go_simp
      refine (HNX.out _).mono ?_
      rintro e wq ⟨rfl, hs⟩
      rw [← hs]
      clear hs wq
      go_wp2_with fail
      refine hK.out _ _ hHeld (fun hHeld => ?_)
      clear hK K
      try simp only [Act.put, zzA, zzB, zzC]
      refine tkz (i := 8) (d := 232) rfl rfl ?_
      simp only [Act.put, zzA, zzB, zzC]
      refine rdz (i := 9) rfl (fun K hK => ?_)
      go_simp
      refine hK.out _ _ (HF.out _ ((hHeld.2.2.2.2.2.2.2.2.2.2.2.2).setCell (p := ⟨g3, a, none⟩) (fun _ => .inl rfl) _)) (fun hHeld => ?_)
      clear hK K
      try simp only [Act.put, zzA, zzB, zzC]
      refine wpAnyH_done (by kernel_rfl) ?_ _
      go_wp2
      refine bodyPost_ret (v := .tuple #[]) (by simp [results, Try.results37, go_sem]) rfl ?_
      exact ⟨rfl, ⟨HRS3.out.seto HY.out Z, HRD3.out.far (p := ⟨g3, a, none⟩) (fun e => N34.out e.symm) _⟩, (Frm.trans (S := fun b => b = g3 ∨ b = g4) (Frm.of_below HB2.out) (hHeld.2.2.2.2.2.2.2.2.2.2.2.2) (fun _ _ h => h))⟩
    · go_simp
      refine (HDM.out _).mono ?_
      rintro e wq ⟨rfl, hs⟩
      rw [hs]
      clear hs wq
      go_wp2_with fail
      refine hK.out _ _ hHeld (fun hHeld => ?_)
      clear hK K
      try simp only [Act.put, zzA, zzB, zzC]
      refine rdz (i := 17) rfl (fun K hK => ?_)
      go_simp
      refine hK.out _ _ hHeld (fun hHeld => ?_)
      clear hK K
      try simp only [Act.put, zzA, zzB, zzC]
      refine tkz (i := 21) (d := 221) rfl rfl ?_
      simp only [Act.put, zzA, zzB, zzC]
      refine rdz (i := 22) rfl (fun K hK => ?_)
      go_simp
      refine (HIM.out _).mono ?_
      rintro e wr ⟨rfl, hs⟩
      rw [hs]
      clear hs wr
      go_wp2_with fail
      refine hK.out _ _ hHeld (fun hHeld => ?_)
      clear hK K
      try simp only [Act.put, zzA, zzB, zzC]
      refine tkz (i := 23) (d := 223) rfl rfl ?_
      simp only [Act.put, zzA, zzB, zzC]
      refine rdz (i := 24) rfl (fun K hK => ?_)
      go_simp
      refine hK.out _ _ (HF.out _ ((hHeld.2.2.2.2.2.2.2.2.2.2.2.2).setCell (p := ⟨g4, yb, none⟩) (fun _ => .inr rfl) _)) (fun hHeld => ?_)
      clear hK K
      try simp only [Act.put, zzA, zzB, zzC]
      refine wpAnyH_done (by kernel_rfl) ?_ _
      clear e1 e2 e3 e4 e5 e6 e7 e8
      have HLb := Lib.hid (hHeld.2.2.2.2.2.2.2.2.2.2.2.2)
      have r4x := HRD2.out.seti HV2.out Q
      have r3x := HRS2.out.far (p := ⟨g4, yb, none⟩) N34.out (.int .i64 Q)
      obtain ⟨wb, hwn⟩ : ∃ xq, w9.setCell ⟨g4, yb, none⟩ (.int .i64 Q) = xq := ⟨_, rfl⟩
      rw [hwn] at r4x r3x HLb hHeld ⊢
      clear hwn
      have HR4c := Lib.hid r4x
      have HR3c := Lib.hid r3x
      clear r4x r3x hHeld qa za
      clear y0 y1 y2 y3 y4 y5 y6 z7 z10 z11 b1 l0
      obtain ⟨y0, y1, y2, y3, y4, y5, y6, z7, z10, z11, b1, l0, _⟩ := HF.out _ HLb.out
      go_upto_region 22 with fail
      refine wp_region_held_drew (S := (fun W : World => W.cell? ⟨w.heap.size, 0, none⟩ = some (.int .u8 8) ∧ W.cell? ⟨w.heap.size, 1, none⟩ = some (.int .i64 (s : Int)) ∧ W.cell? ⟨w.heap.size, 2, none⟩ = some (.int .i64 (pa : Int)) ∧ W.cell? ⟨w.heap.size, 3, none⟩ = some (.int .i64 pb) ∧ W.cell? ⟨w.heap.size, 4, none⟩ = some (.int .i64 pc) ∧ W.cell? ⟨w.heap.size, 5, none⟩ = some (.int .i64 pr) ∧ W.cell? ⟨w.heap.size, 6, none⟩ = some (.int .i64 pl) ∧ W.cell? ⟨R, o + 7, none⟩ = some (.int .u32 h) ∧ W.cell? ⟨R, o + 10, none⟩ = some (.slice (some ⟨g3, 0, none⟩) n3 m3) ∧ W.cell? ⟨R, o + 11, none⟩ = some (.slice (some ⟨g4, 0, none⟩) n4 m4) ∧ W.cell? ⟨B, 1, none⟩ = some (.int .i64 c) ∧ W.cell? ⟨gL, pa, none⟩ = some (.int .i64 x) ∧ Frm (fun b => b = g3 ∨ b = g4) w2 W)) (by kernel_rfl) (HF.out _ (HLb.out.drew)) (fun hHeld => ?_)
      have rd := HR4c.out.drew
      have rs := HR3c.out.drew
      obtain ⟨wc, hwn⟩ : ∃ xq, wb.drew = xq := ⟨_, rfl⟩
      rw [hwn] at rd rs hHeld ⊢
      clear hwn
      have HRD3 := Lib.hid rd
      have HRS3 := Lib.hid rs
      have qs := row_o rs HY.out
      have zs := rs.frozen a
      clear rd rs
      refine tkz (i := 0) (d := 224) rfl rfl ?_
      simp only [Act.put, zzA, zzB, zzC]
      refine tkz (i := 1) (d := 225) rfl rfl ?_
      simp only [Act.put, zzA, zzB, zzC]
      refine tkz (i := 2) (d := 226) rfl rfl ?_
      simp only [Act.put, zzA, zzB, zzC]
      refine tkz (i := 3) (d := 227) rfl rfl ?_
      simp only [Act.put, zzA, zzB, zzC]
      refine tkz (i := 4) (d := 228) rfl rfl ?_
      simp only [Act.put, zzA, zzB, zzC]
      refine tkz (i := 5) (d := 229) rfl rfl ?_
      simp only [Act.put, zzA, zzB, zzC]
      refine tkz (i := 6) (d := 230) rfl rfl ?_
      simp only [Act.put, zzA, zzB, zzC]
      refine rdz (i := 7) rfl (fun K hK => ?_)
      go_simp
      refine (HNX.out _).mono ?_
      rintro e wq ⟨rfl, hs⟩
      rw [← hs]
      clear hs wq
      go_wp2_with fail
      refine hK.out _ _ hHeld (fun hHeld => ?_)
      clear hK K
      try simp only [Act.put, zzA, zzB, zzC]
      refine tkz (i := 8) (d := 232) rfl rfl ?_
      simp only [Act.put, zzA, zzB, zzC]
      refine rdz (i := 9) rfl (fun K hK => ?_)
      go_simp
      refine hK.out _ _ (HF.out _ ((hHeld.2.2.2.2.2.2.2.2.2.2.2.2).setCell (p := ⟨g3, a, none⟩) (fun _ => .inl rfl) _)) (fun hHeld => ?_)
      clear hK K
      try simp only [Act.put, zzA, zzB, zzC]
      refine wpAnyH_done (by kernel_rfl) ?_ _
      go_wp2
      refine bodyPost_ret (v := .tuple #[]) (by simp [results, Try.results37, go_sem]) rfl ?_
      exact ⟨rfl, ⟨HRS3.out.seto HY.out Z, HRD3.out.far (p := ⟨g3, a, none⟩) (fun e => N34.out e.symm) _⟩, (Frm.trans (S := fun b => b = g3 ∨ b = g4) (Frm.of_below HB2.out) (hHeld.2.2.2.2.2.2.2.2.2.2.2.2) (fun _ _ h => h))⟩
end Go.Proofs.Ytnohfeaamfjimaa
