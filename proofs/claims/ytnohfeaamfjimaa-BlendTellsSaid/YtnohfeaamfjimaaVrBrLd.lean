/- The reference leans, a mix: walk. · The reference leans, a match: walk. -/
import Derived.Test.YtnohfeaamfjimaaVrBrA
import Derived.StillTailTactics
import Derived.IntWalk
namespace Go.Proofs.Ytnohfeaamfjimaa
open Go.RowKit Go.WideShapes
set_option linter.unusedVariables false
set_option linter.unusedSimpArgs false
set_option maxRecDepth 100000 in
set_option maxHeartbeats 4000000 in
theorem leanR7 (B R i n cr : Nat) (h c ptr len : Int) (s a : Nat) (pc pr pl : Int) (pa pb : Nat) (A1 A2 A3 A5 A6 : Option Addr) (g4 : Nat) (n1 m1 n2 m2 n3 m3 n4 m4 n5 m5 n6 m6 : Nat) (l L : List Int) (gL nL cL : Nat) (w : World) (h0 : 0 ≤ h) (h1 : h ≤ 4294967295) (c0 : 0 ≤ c) (c1 : c ≤ 255) (s2 : s ≤ 16) (ha : placeI h c s = (a : Int)) (hi : i < n) (hpb1 : 1 ≤ pb) (hpb8 : pb ≤ 8) (hmb : a * pb + pb ≤ n4) (hn4 : n4 ≤ 600000) (hpl : pa + pb ≤ nL) (hnL : nL ≤ 16) (hlc : ∀ k, k < pb → w.cell? ⟨g4, a * pb + k, none⟩ = some (.int .i64 (l.getD (a * pb + k) 0))) (hxc : ∀ k, k < pb → w.cell? ⟨gL, pa + k, none⟩ = some (.int .i64 (L.getD (pa + k) 0))) (hl : ∀ k, k < pb → -1048576 ≤ l.getD (a * pb + k) 0 ∧ l.getD (a * pb + k) 0 ≤ 1048576) (hx : ∀ k, k < pb → -2047 ≤ L.getD (pa + k) 0 ∧ L.getD (pa + k) 0 ≤ 2047) (b0 : w.cell? ⟨B, 0, none⟩ = some (.slice (some ⟨R, 0, none⟩) n cr)) (b1 : w.cell? ⟨B, 1, none⟩ = some (.int .i64 c)) (q0 : w.cell? ⟨R, i * 16, none⟩ = some (.int .u8 7)) (q1 : w.cell? ⟨R, i * 16 + 1, none⟩ = some (.int .i64 (s : Int))) (q2 : w.cell? ⟨R, i * 16 + 2, none⟩ = some (.int .i64 (pa : Int))) (q3 : w.cell? ⟨R, i * 16 + 3, none⟩ = some (.int .i64 (pb : Int))) (q4 : w.cell? ⟨R, i * 16 + 4, none⟩ = some (.int .i64 pc)) (q5 : w.cell? ⟨R, i * 16 + 5, none⟩ = some (.int .i64 pr)) (q6 : w.cell? ⟨R, i * 16 + 6, none⟩ = some (.int .i64 pl)) (q7 : w.cell? ⟨R, i * 16 + 7, none⟩ = some (.int .u32 h)) (q8 : w.cell? ⟨R, i * 16 + 8, none⟩ = some (.slice A1 n1 m1)) (q9 : w.cell? ⟨R, i * 16 + 9, none⟩ = some (.slice A2 n2 m2)) (q10 : w.cell? ⟨R, i * 16 + 10, none⟩ = some (.slice A3 n3 m3)) (q11 : w.cell? ⟨R, i * 16 + 11, none⟩ = some (.slice (some ⟨g4, 0, none⟩) n4 m4)) (q12 : w.cell? ⟨R, i * 16 + 12, none⟩ = some (.slice A5 n5 m5)) (q13 : w.cell? ⟨R, i * 16 + 13, none⟩ = some (.slice A6 n6 m6)) (q14 : w.cell? ⟨R, i * 16 + 14, none⟩ = some (.int .i64 ptr)) (q15 : w.cell? ⟨R, i * 16 + 15, none⟩ = some (.int .i64 len))  :
    Calls Try.prog 40 #[.pointer (some ⟨B, 0, none⟩), .int .i64 (i : Int), .slice (some ⟨gL, 0, none⟩) nL cL] w (Quiet (.int .i64 (intoI (dotK l L (a * pb) pa pb / 65536) (-2047) 2047)) w) := by
  have hdb := dot_bd hl hx
  have HDB := Lib.hid hdb
  have HLC := Lib.hid (show ∀ (W : World), Below w.heap.size w W → ∀ k, k < pb → W.cell? ⟨g4, a * pb + k, none⟩ = some (.int .i64 (l.getD (a * pb + k) 0)) ∧ W.cell? ⟨gL, pa + k, none⟩ = some (.int .i64 (L.getD (pa + k) 0)) from fun W hW k hk => ⟨ck (hlc k hk) hW, ck (hxc k hk) hW⟩)
  have HLB := Lib.hid hl
  have HXB := Lib.hid hx
  obtain ⟨M, hM⟩ : ∃ M, a * pb = M := ⟨_, rfl⟩
  have HM := Lib.hid hM
  rw [hM] at hmb HLC HDB HLB
  rw [hM]
  have e0 : IntKind.i64.wrap ((a : Int) * (pb : Int)) = (M : Int) := by
    rw [← hM, ← Int.natCast_mul]
    exact IntWalk.i64_in _ (by omega)
  have E0 := Lib.hid e0
  have hfin := HDB.out pb (Nat.le_refl _)
  have HDN := Lib.hid (fun W => downR (dotK l L M pa pb) 65536 W (by omega) (by omega) (by omega))
  have HIN := Lib.hid (fun W => intoR (dotK l L M pa pb / 65536) (-2047) 2047 W (by omega))
  have hpbi : (pb : Int) ≤ 8 := by omega
  clear hl hx hlc hxc hdb hM e0 hfin
  have HPL := Lib.hid (show ∀ W, Calls Try.prog 54 #[.int .u32 h, .int .i64 c, .int .i64 (s : Int)] W (Sam (.int .i64 (a : Int)) W) from fun W => ha ▸ placeR h c s W h0 h1 c0 c1 s2)
  have hii : (i : Int) < n := by omega
  clear h0 h1 c0 c1 s2 ha
  have hbz : Below w.heap.size w ((w.alloc (.cells #[.int .u8 7, .int .i64 (s : Int), .int .i64 (pa : Int), .int .i64 (pb : Int), .int .i64 pc, .int .i64 pr, .int .i64 pl, .int .u32 h, .slice A1 n1 m1, .slice A2 n2 m2, .slice A3 n3 m3, .slice (some ⟨g4, 0, none⟩) n4 m4, .slice A5 n5 m5, .slice A6 n6 m6, .int .i64 ptr, .int .i64 len] 74)).alloc (.cells #[.int .u8 7, .int .i64 (s : Int), .int .i64 (pa : Int), .int .i64 (pb : Int), .int .i64 pc, .int .i64 pr, .int .i64 pl] 25)) := ((Below.refl _ _).alloc (Nat.le_refl _) _).alloc (by simp) _
  have b1z := ck b1 hbz
  go_enter Try.func40, Try.ntmps40
  go_upto_region 3 with fail
  obtain ⟨w2, hw2⟩ : ∃ xq, (w.alloc (.cells #[.int .u8 7, .int .i64 (s : Int), .int .i64 (pa : Int), .int .i64 (pb : Int), .int .i64 pc, .int .i64 pr, .int .i64 pl, .int .u32 h, .slice A1 n1 m1, .slice A2 n2 m2, .slice A3 n3 m3, .slice (some ⟨g4, 0, none⟩) n4 m4, .slice A5 n5 m5, .slice A6 n6 m6, .int .i64 ptr, .int .i64 len] 74)).alloc (.cells #[.int .u8 7, .int .i64 (s : Int), .int .i64 (pa : Int), .int .i64 (pb : Int), .int .i64 pc, .int .i64 pr, .int .i64 pl] 25) = xq := ⟨_, rfl⟩
  have k74 : Blk w2 w.heap.size 74 #[.int .u8 7, .int .i64 (s : Int), .int .i64 (pa : Int), .int .i64 (pb : Int), .int .i64 pc, .int .i64 pr, .int .i64 pl, .int .u32 h, .slice A1 n1 m1, .slice A2 n2 m2, .slice A3 n3 m3, .slice (some ⟨g4, 0, none⟩) n4 m4, .slice A5 n5 m5, .slice A6 n6 m6, .int .i64 ptr, .int .i64 len] := hw2 ▸ (Blk.new w _ _).alloc _
  have k25 : Blk w2 (w.heap.size + 1) 25 #[.int .u8 7, .int .i64 (s : Int), .int .i64 (pa : Int), .int .i64 (pb : Int), .int .i64 pc, .int .i64 pr, .int .i64 pl] := by
    have := Blk.new (w.alloc (.cells #[.int .u8 7, .int .i64 (s : Int), .int .i64 (pa : Int), .int .i64 (pb : Int), .int .i64 pc, .int .i64 pr, .int .i64 pl, .int .u32 h, .slice A1 n1 m1, .slice A2 n2 m2, .slice A3 n3 m3, .slice (some ⟨g4, 0, none⟩) n4 m4, .slice A5 n5 m5, .slice A6 n6 m6, .int .i64 ptr, .int .i64 len] 74)) 25 #[.int .u8 7, .int .i64 (s : Int), .int .i64 (pa : Int), .int .i64 (pb : Int), .int .i64 pc, .int .i64 pr, .int .i64 pl]
    rw [hw2] at this
    simpa using this
  rw [hw2] at hbz b1z ⊢
  have HB2 := Lib.hid hbz
  have x7 : w2.cell? ⟨w.heap.size, 7, none⟩ = some (.int .u32 h) := k74.cell 7
  have x11 : w2.cell? ⟨w.heap.size, 11, none⟩ = some (.slice (some ⟨g4, 0, none⟩) n4 m4) := k74.cell 11
  have y0 : w2.cell? ⟨w.heap.size + 1, 0, none⟩ = some (.int .u8 7) := k25.cell 0
  have y1 : w2.cell? ⟨w.heap.size + 1, 1, none⟩ = some (.int .i64 (s : Int)) := k25.cell 1
  have y2 : w2.cell? ⟨w.heap.size + 1, 2, none⟩ = some (.int .i64 (pa : Int)) := k25.cell 2
  have y3 : w2.cell? ⟨w.heap.size + 1, 3, none⟩ = some (.int .i64 (pb : Int)) := k25.cell 3
  have y4 : w2.cell? ⟨w.heap.size + 1, 4, none⟩ = some (.int .i64 pc) := k25.cell 4
  have y5 : w2.cell? ⟨w.heap.size + 1, 5, none⟩ = some (.int .i64 pr) := k25.cell 5
  have y6 : w2.cell? ⟨w.heap.size + 1, 6, none⟩ = some (.int .i64 pl) := k25.cell 6
  have b1 : w2.cell? ⟨B, 1, none⟩ = some (.int .i64 c) := b1z
  have HF := Lib.hid (show ∀ W : World, Below w2.heap.size w2 W → W.cell? ⟨w.heap.size, 7, none⟩ = some (.int .u32 h) ∧ W.cell? ⟨w.heap.size, 11, none⟩ = some (.slice (some ⟨g4, 0, none⟩) n4 m4) ∧ W.cell? ⟨w.heap.size + 1, 0, none⟩ = some (.int .u8 7) ∧ W.cell? ⟨w.heap.size + 1, 1, none⟩ = some (.int .i64 (s : Int)) ∧ W.cell? ⟨w.heap.size + 1, 2, none⟩ = some (.int .i64 (pa : Int)) ∧ W.cell? ⟨w.heap.size + 1, 3, none⟩ = some (.int .i64 (pb : Int)) ∧ W.cell? ⟨w.heap.size + 1, 4, none⟩ = some (.int .i64 pc) ∧ W.cell? ⟨w.heap.size + 1, 5, none⟩ = some (.int .i64 pr) ∧ W.cell? ⟨w.heap.size + 1, 6, none⟩ = some (.int .i64 pl) ∧ W.cell? ⟨B, 1, none⟩ = some (.int .i64 c) ∧ Below w2.heap.size w2 W from fun W hL => ⟨ck x7 hL, ck x11 hL, ck y0 hL, ck y1 hL, ck y2 hL, ck y3 hL, ck y4 hL, ck y5 hL, ck y6 hL, ck b1 hL, hL⟩)
  clear hw2 hbz k74 k25 x7 x11 y0 y1 y2 y3 y4 y5 y6 b1 b1z
  clear q0 q1 q2 q3 q4 q5 q6 q7 q8 q9 q10 q11 q12 q13 q14 q15 b0
  refine wp_region_held_drew (S := (fun W : World => W.cell? ⟨w.heap.size, 7, none⟩ = some (.int .u32 h) ∧ W.cell? ⟨w.heap.size, 11, none⟩ = some (.slice (some ⟨g4, 0, none⟩) n4 m4) ∧ W.cell? ⟨w.heap.size + 1, 0, none⟩ = some (.int .u8 7) ∧ W.cell? ⟨w.heap.size + 1, 1, none⟩ = some (.int .i64 (s : Int)) ∧ W.cell? ⟨w.heap.size + 1, 2, none⟩ = some (.int .i64 (pa : Int)) ∧ W.cell? ⟨w.heap.size + 1, 3, none⟩ = some (.int .i64 (pb : Int)) ∧ W.cell? ⟨w.heap.size + 1, 4, none⟩ = some (.int .i64 pc) ∧ W.cell? ⟨w.heap.size + 1, 5, none⟩ = some (.int .i64 pr) ∧ W.cell? ⟨w.heap.size + 1, 6, none⟩ = some (.int .i64 pl) ∧ W.cell? ⟨B, 1, none⟩ = some (.int .i64 c) ∧ Below w2.heap.size w2 W)) (by kernel_rfl) (HF.out _ (below_drewN (Below.refl _ _) 1)) (fun hHeld => ?_)
  refine tkz (i := 0) (d := 22) rfl rfl ?_
  simp only [Act.put, zzA, zzB, zzC]
  refine tkz (i := 1) (d := 23) rfl rfl ?_
  simp only [Act.put, zzA, zzB, zzC]
  refine tkz (i := 2) (d := 24) rfl rfl ?_
  simp only [Act.put, zzA, zzB, zzC]
  refine tkz (i := 3) (d := 25) rfl rfl ?_
  simp only [Act.put, zzA, zzB, zzC]
  refine tkz (i := 4) (d := 26) rfl rfl ?_
  simp only [Act.put, zzA, zzB, zzC]
  refine tkz (i := 5) (d := 27) rfl rfl ?_
  simp only [Act.put, zzA, zzB, zzC]
  refine tkz (i := 6) (d := 28) rfl rfl ?_
  simp only [Act.put, zzA, zzB, zzC]
  refine tkz (i := 7) (d := 29) rfl rfl ?_
  simp only [Act.put, zzA, zzB, zzC]
  refine rdz (i := 8) rfl (fun K hK => ?_)
  go_simp
  refine (HPL.out _).mono ?_
  rintro e w3 ⟨rfl, rfl⟩
  go_wp2_with fail
  refine hK.out _ _ hHeld (fun hHeld => ?_)
  clear hK K
  try simp only [Act.put, zzA, zzB, zzC]
  refine tkz (i := 9) (d := 9) rfl rfl ?_
  simp only [Act.put, zzA, zzB, zzC]
  refine wpAnyH_done (by kernel_rfl) ?_ _
  have HL3 := Lib.hid (hHeld.2.2.2.2.2.2.2.2.2.2)
  obtain ⟨x7, x11, y0, y1, y2, y3, y4, y5, y6, b1, _⟩ := hHeld
  clear HPL
  go_wp2_with fail
  go_loopw [10, 11] (fun u v wr => ∃ k : Nat, k ≤ pb ∧ v = .int .i64 k ∧ u = .int .i64 (dotK l L M pa k) ∧ Below w2.heap.size w2 wr) (fun _ v _ => pb - (intOf v).toNat)
  case atStart => exact ⟨0, by omega, rfl, rfl, HL3.out⟩
  case round =>
    obtain ⟨k, hk, rfl, rfl, hlow⟩ := hrel
    have HLOW := Lib.hid hlow
    clear x7 x11 y0 y1 y2 y3 y4 y5 y6 b1
    obtain ⟨x7, x11, y0, y1, y2, y3, y4, y5, y6, b1, _⟩ := HF.out _ hlow
    clear hlow
    by_cases hlt : k < pb
    · have hki : (k : Int) < pb := by omega
      have hd := HDB.out k (by omega)
      have hd1 := HDB.out (k + 1) (by omega)
      obtain ⟨hu, hv⟩ := HLC.out wr (bl_step HB2.out HLOW.out) k hlt
      have hub := HLB.out k hlt
      have hvb := HXB.out k hlt
      have hstep : dotK l L M pa (k + 1) = dotK l L M pa k + l.getD (M + k) 0 * L.getD (pa + k) 0 := rfl
      obtain ⟨u, huu⟩ : ∃ u, l.getD (M + k) 0 = u := ⟨_, rfl⟩
      obtain ⟨v, hvv⟩ : ∃ v, L.getD (pa + k) 0 = v := ⟨_, rfl⟩
      obtain ⟨d, hdd⟩ : ∃ d, dotK l L M pa k = d := ⟨_, rfl⟩
      rw [huu, hvv, hdd] at hstep
      rw [hstep] at hd1
      rw [huu] at hu hub
      rw [hvv] at hv hvb
      rw [hdd] at hd
      rw [hdd]
      have hmul := mulB (a := u) (b := v) (A := 1048576) (B := 2047) hub.1 hub.2 hvb.1 hvb.2
      have HST := Lib.hid hstep
      have e1 := IntWalk.i64_in (u * v) (by omega)
      have e2 := IntWalk.i64_in (d + u * v) (by omega)
      obtain ⟨Mk, hMk⟩ : ∃ Mk, M + k = Mk := ⟨_, rfl⟩
      obtain ⟨pk, hpk⟩ : ∃ pk, pa + k = pk := ⟨_, rfl⟩
      have e3 : IntKind.i64.wrap ((M : Int) + (k : Int)) = (Mk : Int) := by rw [← hMk, Int.natCast_add]; exact IntWalk.i64_in _ (by omega)
      have e4 : IntKind.i64.wrap ((pa : Int) + (k : Int)) = (pk : Int) := by rw [← hpk, Int.natCast_add]; exact IntWalk.i64_in _ (by omega)
      have i1 : (Mk : Int) < n4 := by omega
      have i2 : (pk : Int) < nL := by omega
      rw [hMk] at hu
      rw [hpk] at hv
      have e0 := E0.out
      clear hstep huu hvv hdd hmul hd hd1 hub hvb hMk hpk
      have hSS : (fun W : World => W.cell? ⟨g4, Mk, none⟩ = some (.int .i64 u) ∧ W.cell? ⟨gL, pk, none⟩ = some (.int .i64 v) ∧ W.cell? ⟨w.heap.size, 7, none⟩ = some (.int .u32 h) ∧ W.cell? ⟨w.heap.size, 11, none⟩ = some (.slice (some ⟨g4, 0, none⟩) n4 m4) ∧ W.cell? ⟨w.heap.size + 1, 0, none⟩ = some (.int .u8 7) ∧ W.cell? ⟨w.heap.size + 1, 1, none⟩ = some (.int .i64 (s : Int)) ∧ W.cell? ⟨w.heap.size + 1, 2, none⟩ = some (.int .i64 (pa : Int)) ∧ W.cell? ⟨w.heap.size + 1, 3, none⟩ = some (.int .i64 (pb : Int)) ∧ W.cell? ⟨w.heap.size + 1, 4, none⟩ = some (.int .i64 pc) ∧ W.cell? ⟨w.heap.size + 1, 5, none⟩ = some (.int .i64 pr) ∧ W.cell? ⟨w.heap.size + 1, 6, none⟩ = some (.int .i64 pl) ∧ W.cell? ⟨B, 1, none⟩ = some (.int .i64 c) ∧ Below w2.heap.size w2 W) wr := ⟨hu, hv, HF.out _ HLOW.out⟩
      go_upto_region 22 with fail
      refine wp_region_held_drew (S := (fun W : World => W.cell? ⟨g4, Mk, none⟩ = some (.int .i64 u) ∧ W.cell? ⟨gL, pk, none⟩ = some (.int .i64 v) ∧ W.cell? ⟨w.heap.size, 7, none⟩ = some (.int .u32 h) ∧ W.cell? ⟨w.heap.size, 11, none⟩ = some (.slice (some ⟨g4, 0, none⟩) n4 m4) ∧ W.cell? ⟨w.heap.size + 1, 0, none⟩ = some (.int .u8 7) ∧ W.cell? ⟨w.heap.size + 1, 1, none⟩ = some (.int .i64 (s : Int)) ∧ W.cell? ⟨w.heap.size + 1, 2, none⟩ = some (.int .i64 (pa : Int)) ∧ W.cell? ⟨w.heap.size + 1, 3, none⟩ = some (.int .i64 (pb : Int)) ∧ W.cell? ⟨w.heap.size + 1, 4, none⟩ = some (.int .i64 pc) ∧ W.cell? ⟨w.heap.size + 1, 5, none⟩ = some (.int .i64 pr) ∧ W.cell? ⟨w.heap.size + 1, 6, none⟩ = some (.int .i64 pl) ∧ W.cell? ⟨B, 1, none⟩ = some (.int .i64 c) ∧ Below w2.heap.size w2 W)) (by kernel_rfl) ⟨hu, hv, HF.out _ (HLOW.out.drew)⟩ (fun hHeld => ?_)
      refine tkz (i := 0) (d := 120) rfl rfl ?_
      simp only [Act.put, zzA, zzB, zzC]
      refine tkz (i := 1) (d := 121) rfl rfl ?_
      simp only [Act.put, zzA, zzB, zzC]
      refine tkz (i := 2) (d := 122) rfl rfl ?_
      simp only [Act.put, zzA, zzB, zzC]
      refine tkz (i := 3) (d := 123) rfl rfl ?_
      simp only [Act.put, zzA, zzB, zzC]
      refine tkz (i := 4) (d := 124) rfl rfl ?_
      simp only [Act.put, zzA, zzB, zzC]
      refine tkz (i := 5) (d := 125) rfl rfl ?_
      simp only [Act.put, zzA, zzB, zzC]
      refine tkz (i := 6) (d := 126) rfl rfl ?_
      simp only [Act.put, zzA, zzB, zzC]
      refine tkz (i := 7) (d := 127) rfl rfl ?_
      simp only [Act.put, zzA, zzB, zzC]
      refine tkz (i := 8) (d := 128) rfl rfl ?_
      simp only [Act.put, zzA, zzB, zzC]
      refine tkz (i := 9) (d := 129) rfl rfl ?_
      simp only [Act.put, zzA, zzB, zzC]
      refine tkz (i := 10) (d := 130) rfl rfl ?_
      simp only [Act.put, zzA, zzB, zzC]
      refine tkz (i := 11) (d := 131) rfl rfl ?_
      simp only [Act.put, zzA, zzB, zzC]
      refine tkz (i := 12) (d := 132) rfl rfl ?_
      simp only [Act.put, zzA, zzB, zzC]
      refine tkz (i := 13) (d := 133) rfl rfl ?_
      simp only [Act.put, zzA, zzB, zzC]
      refine tkz (i := 14) (d := 134) rfl rfl ?_
      simp only [Act.put, zzA, zzB, zzC]
      refine tkz (i := 15) (d := 135) rfl rfl ?_
      simp only [Act.put, zzA, zzB, zzC]
      refine tkz (i := 16) (d := 136) rfl rfl ?_
      simp only [Act.put, zzA, zzB, zzC]
      refine tkz (i := 17) (d := 137) rfl rfl ?_
      simp only [Act.put, zzA, zzB, zzC]
      refine tkz (i := 18) (d := 138) rfl rfl ?_
      simp only [Act.put, zzA, zzB, zzC]
      refine tkz (i := 19) (d := 139) rfl rfl ?_
      simp only [Act.put, zzA, zzB, zzC]
      refine tkz (i := 20) (d := 10) rfl rfl ?_
      simp only [Act.put, zzA, zzB, zzC]
      refine wpAnyH_done (by kernel_rfl) ?_ _
      clear e0 e1 e2 e3 e4 hu hv hSS
      go_wp2
      go_roundw
      case rel => exact ⟨k + 1, by omega, by go_num, by rw [HST.out], hHeld.2.2.2.2.2.2.2.2.2.2.2.2⟩
      case measure => simp [intOf]; omega
    · obtain rfl : k = pb := by omega
      go_wp2_with fail
      refine (HDN.out _).mono ?_
      rintro e w4 ⟨rfl, rfl⟩
      go_wp2_with fail
      refine (HIN.out _).mono ?_
      rintro e w5 ⟨rfl, rfl⟩
      go_wp2
      go_ret
      exact ⟨rfl, bl_step HB2.out HLOW.out⟩
end Go.Proofs.Ytnohfeaamfjimaa
namespace Go.Proofs.Ytnohfeaamfjimaa
open Go.RowKit Go.WideShapes
set_option linter.unusedVariables false
set_option linter.unusedSimpArgs false
set_option maxRecDepth 100000 in
set_option maxHeartbeats 4000000 in
theorem foretoldR (B : Nat) (h c : Int) (s ptr len y bits : Nat) (pa pb pc pr pl : Int) (A1 A2 A3 A4 A5 : Option Addr) (g6 : Nat) (n1 m1 n2 m2 n3 m3 n4 m4 n5 m5 n6 m6 : Nat) (w : World) (hy : y < 256) (hlen : len ≤ 32) (hptr : ptr < n6) (hbt : bits < 8) (hc0 : 0 ≤ c) (hc1 : c ≤ 255) (b1 : w.cell? ⟨B, 1, none⟩ = some (.int .i64 c)) (b2 : w.cell? ⟨B, 2, none⟩ = some (.int .i64 (bits : Int))) (s0 : w.cell? ⟨g6, ptr, none⟩ = some (.int .u8 (y : Int))) :
    Calls Try.prog 60 #[.pointer (some ⟨B, 0, none⟩), .agg #[.int .u8 4, .int .i64 (s : Int), .int .i64 pa, .int .i64 pb, .int .i64 pc, .int .i64 pr, .int .i64 pl, .int .u32 h, .slice A1 n1 m1, .slice A2 n2 m2, .slice A3 n3 m3, .slice A4 n4 m4, .slice A5 n5 m5, .slice (some ⟨g6, 0, none⟩) n6 m6, .int .i64 (ptr : Int), .int .i64 (len : Int)]] w (Quiet (.int .i64 (maL (len : Int) (y : Int) c bits)) w) := by
  have hpow := pow_le40 (n := 8 - bits) (by omega)
  have hpow7 := pow_le40 (n := 7 - bits) (by omega)
  have HP8 := Lib.hid (fun W => powerR (8 - bits) W (by omega))
  have HP7 := Lib.hid (fun W => powerR (7 - bits) W (by omega))
  have ev : maL (len : Int) (y : Int) c bits = if (len : Int) = 0 then 0 else if ((y : Int) + 256) / ((2 ^ (8 - bits) : Nat) : Int) ≠ c then 0 else if (y : Int) / ((2 ^ (7 - bits) : Nat) : Int) % 2 = 0 then -(min (len : Int) 15 * 64) else min (len : Int) 15 * 64 := by
    unfold maL
    push_cast
    rfl
  obtain ⟨P8, hP8⟩ : ∃ P, 2 ^ (8 - bits) = P := ⟨_, rfl⟩
  obtain ⟨P7, hP7⟩ : ∃ P, 2 ^ (7 - bits) = P := ⟨_, rfl⟩
  rw [hP8] at hpow HP8 ev
  rw [hP7] at hpow7 HP7 ev
  rw [show ((8 - bits : Nat) : Int) = 8 - (bits : Int) by omega] at HP8
  rw [show ((7 - bits : Nat) : Int) = 7 - (bits : Int) by omega] at HP7
  have p80 : ¬ P8 = 0 := by omega
  have e8 : IntKind.i64.wrap (8 - (bits : Int)) = 8 - (bits : Int) := IntWalk.i64_in _ (by omega)
  have e9 : IntKind.i64.wrap ((y : Int) + 256) = (y : Int) + 256 := IntWalk.i64_in _ (by omega)
  have e7 : IntKind.i64.wrap (7 - (bits : Int)) = 7 - (bits : Int) := IntWalk.i64_in _ (by omega)
  have p70 : ¬ P7 = 0 := by omega
  have tq8 : ((y : Int) + 256).tdiv (P8 : Int) = ((y : Int) + 256) / (P8 : Int) := Int.tdiv_eq_ediv_of_nonneg (by omega)
  have tq7 : (y : Int).tdiv (P7 : Int) = (y : Int) / (P7 : Int) := Int.tdiv_eq_ediv_of_nonneg (by omega)
  have hE0 : 0 ≤ ((y : Int) + 256) / (P8 : Int) := Int.ediv_nonneg (by omega) (by omega)
  have hE1 : ((y : Int) + 256) / (P8 : Int) ≤ (y : Int) + 256 := Int.ediv_le_self _ (by omega)
  have hD0 : 0 ≤ (y : Int) / (P7 : Int) := Int.ediv_nonneg (by omega) (by omega)
  have hD1 : (y : Int) / (P7 : Int) ≤ (y : Int) := Int.ediv_le_self _ (by omega)
  obtain ⟨E, hE⟩ : ∃ E, ((y : Int) + 256) / (P8 : Int) = E := ⟨_, rfl⟩
  obtain ⟨D, hD⟩ : ∃ D, (y : Int) / (P7 : Int) = D := ⟨_, rfl⟩
  rw [hE] at ev tq8 hE0 hE1
  rw [hD] at ev tq7 hD0 hD1
  have eE := IntWalk.i64_in E (by omega)
  have eD := IntWalk.i64_in D (by omega)
  clear hP8 hP7 hE hD hpow hpow7
  obtain ⟨V, hV⟩ : ∃ V, maL (len : Int) (y : Int) c bits = V := ⟨_, rfl⟩
  rw [hV] at ev ⊢
  clear hV
  by_cases h0 : len = 0
  · subst h0
    obtain rfl : V = 0 := by rw [ev]; exact if_pos rfl
    clear ev
    go_enter Try.func60, Try.ntmps60
    go_wp2
    go_ret
    exact ⟨rfl, (Below.refl _ _).alloc (Nat.le_refl _) _⟩
  have h0i : ¬ (len : Int) = 0 := by omega
  rw [if_neg h0i] at ev
  have hlt : (len : Int) ≤ 32 := by omega
  have hpn : (ptr : Int) < n6 := by omega
  have hbz : Below w.heap.size w (w.alloc (.cells #[.int .u8 4, .int .i64 (s : Int), .int .i64 pa, .int .i64 pb, .int .i64 pc, .int .i64 pr, .int .i64 pl, .int .u32 h, .slice A1 n1 m1, .slice A2 n2 m2, .slice A3 n3 m3, .slice A4 n4 m4, .slice A5 n5 m5, .slice (some ⟨g6, 0, none⟩) n6 m6, .int .i64 (ptr : Int), .int .i64 (len : Int)] 74)) := (Below.refl _ _).alloc (Nat.le_refl _) _
  have b1z := ck b1 hbz
  have b2z := ck b2 hbz
  have s0z := ck s0 hbz
  have HIN := Lib.hid (fun W => intoR (len : Int) 0 15 W (by omega))
  have hmin : intoI (len : Int) 0 15 = min (len : Int) 15 := by unfold intoI; omega
  rw [hmin] at HIN
  have hmb : 0 ≤ min (len : Int) 15 ∧ min (len : Int) 15 ≤ 15 := by omega
  obtain ⟨m, hm⟩ : ∃ m, min (len : Int) 15 = m := ⟨_, rfl⟩
  rw [hm] at HIN hmb ev
  clear hmin hm b1 b2 s0
  have HEV := Lib.hid ev
  clear ev
  go_enter Try.func60, Try.ntmps60
  go_upto_region 1 with fail
  obtain ⟨w2, hw2⟩ : ∃ xq, w.alloc (.cells #[.int .u8 4, .int .i64 (s : Int), .int .i64 pa, .int .i64 pb, .int .i64 pc, .int .i64 pr, .int .i64 pl, .int .u32 h, .slice A1 n1 m1, .slice A2 n2 m2, .slice A3 n3 m3, .slice A4 n4 m4, .slice A5 n5 m5, .slice (some ⟨g6, 0, none⟩) n6 m6, .int .i64 (ptr : Int), .int .i64 (len : Int)] 74) = xq := ⟨_, rfl⟩
  have k74 : Blk w2 w.heap.size 74 #[.int .u8 4, .int .i64 (s : Int), .int .i64 pa, .int .i64 pb, .int .i64 pc, .int .i64 pr, .int .i64 pl, .int .u32 h, .slice A1 n1 m1, .slice A2 n2 m2, .slice A3 n3 m3, .slice A4 n4 m4, .slice A5 n5 m5, .slice (some ⟨g6, 0, none⟩) n6 m6, .int .i64 (ptr : Int), .int .i64 (len : Int)] := hw2 ▸ Blk.new w _ _
  rw [hw2] at hbz b1z b2z s0z ⊢
  have HB2 := Lib.hid hbz
  have x13 : w2.cell? ⟨w.heap.size, 13, none⟩ = some (.slice (some ⟨g6, 0, none⟩) n6 m6) := k74.cell 13
  have x14 : w2.cell? ⟨w.heap.size, 14, none⟩ = some (.int .i64 (ptr : Int)) := k74.cell 14
  have x15 : w2.cell? ⟨w.heap.size, 15, none⟩ = some (.int .i64 (len : Int)) := k74.cell 15
  have b1 : w2.cell? ⟨B, 1, none⟩ = some (.int .i64 c) := b1z
  have b2 : w2.cell? ⟨B, 2, none⟩ = some (.int .i64 (bits : Int)) := b2z
  have s0 : w2.cell? ⟨g6, ptr, none⟩ = some (.int .u8 (y : Int)) := s0z
  have HF := Lib.hid (show ∀ W : World, Below w2.heap.size w2 W → W.cell? ⟨w.heap.size, 13, none⟩ = some (.slice (some ⟨g6, 0, none⟩) n6 m6) ∧ W.cell? ⟨w.heap.size, 14, none⟩ = some (.int .i64 (ptr : Int)) ∧ W.cell? ⟨w.heap.size, 15, none⟩ = some (.int .i64 (len : Int)) ∧ W.cell? ⟨B, 1, none⟩ = some (.int .i64 c) ∧ W.cell? ⟨B, 2, none⟩ = some (.int .i64 (bits : Int)) ∧ W.cell? ⟨g6, ptr, none⟩ = some (.int .u8 (y : Int)) ∧ Below w2.heap.size w2 W from fun W hL => ⟨ck x13 hL, ck x14 hL, ck x15 hL, ck b1 hL, ck b2 hL, ck s0 hL, hL⟩)
  clear hw2 hbz k74 b1z b2z s0z
  go_upto_region 4 with fail
  refine wp_region_held_drew (S := (fun W : World => W.cell? ⟨w.heap.size, 13, none⟩ = some (.slice (some ⟨g6, 0, none⟩) n6 m6) ∧ W.cell? ⟨w.heap.size, 14, none⟩ = some (.int .i64 (ptr : Int)) ∧ W.cell? ⟨w.heap.size, 15, none⟩ = some (.int .i64 (len : Int)) ∧ W.cell? ⟨B, 1, none⟩ = some (.int .i64 c) ∧ W.cell? ⟨B, 2, none⟩ = some (.int .i64 (bits : Int)) ∧ W.cell? ⟨g6, ptr, none⟩ = some (.int .u8 (y : Int)) ∧ Below w2.heap.size w2 W)) (by kernel_rfl) (HF.out _ (below_drewN (Below.refl _ _) 1)) (fun hHeld => ?_)
  refine tkz (i := 0) (d := 17) rfl rfl ?_
  simp only [Act.put, zzA, zzB, zzC]
  refine tkz (i := 1) (d := 18) rfl rfl ?_
  simp only [Act.put, zzA, zzB, zzC]
  refine tkz (i := 2) (d := 19) rfl rfl ?_
  simp only [Act.put, zzA, zzB, zzC]
  refine tkz (i := 3) (d := 20) rfl rfl ?_
  simp only [Act.put, zzA, zzB, zzC]
  refine tkz (i := 4) (d := 21) rfl rfl ?_
  simp only [Act.put, zzA, zzB, zzC]
  refine tkz (i := 5) (d := 22) rfl rfl ?_
  simp only [Act.put, zzA, zzB, zzC]
  refine tkz (i := 6) (d := 23) rfl rfl ?_
  simp only [Act.put, zzA, zzB, zzC]
  refine tkz (i := 7) (d := 24) rfl rfl ?_
  simp only [Act.put, zzA, zzB, zzC]
  refine tkz (i := 8) (d := 25) rfl rfl ?_
  simp only [Act.put, zzA, zzB, zzC]
  refine tkz (i := 9) (d := 26) rfl rfl ?_
  simp only [Act.put, zzA, zzB, zzC]
  refine tkz (i := 10) (d := 27) rfl rfl ?_
  simp only [Act.put, zzA, zzB, zzC]
  refine rdz (i := 11) rfl (fun K hK => ?_)
  go_simp
  refine (HP8.out _).mono ?_
  rintro e w3 ⟨rfl, rfl⟩
  go_wp2_with fail
  refine hK.out _ _ hHeld (fun hHeld => ?_)
  clear hK K
  try simp only [Act.put, zzA, zzB, zzC]
  refine tkz (i := 12) (d := 29) rfl rfl ?_
  simp only [Act.put, zzA, zzB, zzC]
  refine tkz (i := 13) (d := 30) rfl rfl ?_
  simp only [Act.put, zzA, zzB, zzC]
  refine wpAnyH_done (by kernel_rfl) ?_ _
  have HL3 := Lib.hid (hHeld.2.2.2.2.2.2)
  clear x13 x14 x15 b1 b2 s0
  obtain ⟨x13, x14, x15, b1, b2, s0, _⟩ := hHeld
  by_cases hEc : E = c
  · subst hEc
    have HEV2 := Lib.hid (show V = if D % 2 = 0 then -(m * 64) else m * 64 from by have := HEV.out; rwa [if_neg (fun h => h rfl)] at this)
    have e1 := IntWalk.i64_in (m * 64) (by omega)
    have e2 := IntWalk.i64_in (-(m * 64)) (by omega)
    go_upto_region 6 with fail
    go_wp2_with fail
    refine (HIN.out _).mono ?_
    rintro e w4 ⟨rfl, rfl⟩
    go_wp2_with fail
    refine (HP7.out _).mono ?_
    rintro e w5 ⟨rfl, rfl⟩
    by_cases hD2 : D % 2 = 0
    · have tm : D.tmod 2 = 0 := by rw [Int.tmod_eq_emod_of_nonneg hD0]; exact hD2
      have HV := Lib.hid (show V = -(m * 64) from by have := HEV2.out; rwa [if_pos hD2] at this)
      clear hD2
      go_wp2
      go_ret
      exact ⟨by obtain rfl := HV.out; rfl, bl_step HB2.out HL3.out⟩
    · have tm : D.tmod 2 = 1 := by rw [Int.tmod_eq_emod_of_nonneg hD0]; omega
      have HV := Lib.hid (show V = m * 64 from by have := HEV2.out; rwa [if_neg hD2] at this)
      clear hD2
      go_wp2
      go_ret
      exact ⟨by obtain rfl := HV.out; rfl, bl_step HB2.out HL3.out⟩
  · have HV := Lib.hid (show V = 0 from by have := HEV.out; rwa [if_pos hEc] at this)
    have hcE : (c != E) = true := by simp; exact fun h => hEc h.symm
    clear hEc
    go_wp2
    go_ret
    exact ⟨by obtain rfl := HV.out; rfl, bl_step HB2.out HL3.out⟩
set_option maxRecDepth 100000 in
set_option maxHeartbeats 4000000 in
theorem leanR4 (B R i n cr : Nat) (h c : Int) (s a : Nat) (pa pb pc pr pl : Int) (A1 A2 A3 A4 A5 : Option Addr) (g6 : Nat) (n1 m1 n2 m2 n3 m3 n4 m4 n5 m5 n6 m6 : Nat) (ptr len y bits : Nat) (AL : Option Addr) (nL cL : Nat) (w : World) (h0 : 0 ≤ h) (h1 : h ≤ 4294967295) (c0 : 0 ≤ c) (c1 : c ≤ 255) (s2 : s ≤ 16) (ha : placeI h c s = (a : Int)) (hi : i < n) (hy : y < 256) (hlen : len ≤ 32) (hptr : ptr < n6) (hbt : bits < 8) (cc0 : 0 ≤ c) (cc1 : c ≤ 255) (b0 : w.cell? ⟨B, 0, none⟩ = some (.slice (some ⟨R, 0, none⟩) n cr)) (b1 : w.cell? ⟨B, 1, none⟩ = some (.int .i64 c)) (q0 : w.cell? ⟨R, i * 16, none⟩ = some (.int .u8 4)) (q1 : w.cell? ⟨R, i * 16 + 1, none⟩ = some (.int .i64 (s : Int))) (q2 : w.cell? ⟨R, i * 16 + 2, none⟩ = some (.int .i64 pa)) (q3 : w.cell? ⟨R, i * 16 + 3, none⟩ = some (.int .i64 pb)) (q4 : w.cell? ⟨R, i * 16 + 4, none⟩ = some (.int .i64 pc)) (q5 : w.cell? ⟨R, i * 16 + 5, none⟩ = some (.int .i64 pr)) (q6 : w.cell? ⟨R, i * 16 + 6, none⟩ = some (.int .i64 pl)) (q7 : w.cell? ⟨R, i * 16 + 7, none⟩ = some (.int .u32 h)) (q8 : w.cell? ⟨R, i * 16 + 8, none⟩ = some (.slice A1 n1 m1)) (q9 : w.cell? ⟨R, i * 16 + 9, none⟩ = some (.slice A2 n2 m2)) (q10 : w.cell? ⟨R, i * 16 + 10, none⟩ = some (.slice A3 n3 m3)) (q11 : w.cell? ⟨R, i * 16 + 11, none⟩ = some (.slice A4 n4 m4)) (q12 : w.cell? ⟨R, i * 16 + 12, none⟩ = some (.slice A5 n5 m5)) (q13 : w.cell? ⟨R, i * 16 + 13, none⟩ = some (.slice (some ⟨g6, 0, none⟩) n6 m6)) (q14 : w.cell? ⟨R, i * 16 + 14, none⟩ = some (.int .i64 (ptr : Int))) (q15 : w.cell? ⟨R, i * 16 + 15, none⟩ = some (.int .i64 (len : Int))) (b2 : w.cell? ⟨B, 2, none⟩ = some (.int .i64 (bits : Int))) (s0 : w.cell? ⟨g6, ptr, none⟩ = some (.int .u8 (y : Int))) :
    Calls Try.prog 40 #[.pointer (some ⟨B, 0, none⟩), .int .i64 (i : Int), .slice AL nL cL] w (Quiet (.int .i64 (maL (len : Int) (y : Int) c bits)) w) := by
  have HPL := Lib.hid (show ∀ W, Calls Try.prog 54 #[.int .u32 h, .int .i64 c, .int .i64 (s : Int)] W (Sam (.int .i64 (a : Int)) W) from fun W => ha ▸ placeR h c s W h0 h1 c0 c1 s2)
  have hii : (i : Int) < n := by omega
  clear h0 h1 c0 c1 s2 ha
  have hbz : Below w.heap.size w ((w.alloc (.cells #[.int .u8 4, .int .i64 (s : Int), .int .i64 pa, .int .i64 pb, .int .i64 pc, .int .i64 pr, .int .i64 pl, .int .u32 h, .slice A1 n1 m1, .slice A2 n2 m2, .slice A3 n3 m3, .slice A4 n4 m4, .slice A5 n5 m5, .slice (some ⟨g6, 0, none⟩) n6 m6, .int .i64 (ptr : Int), .int .i64 (len : Int)] 74)).alloc (.cells #[.int .u8 4, .int .i64 (s : Int), .int .i64 pa, .int .i64 pb, .int .i64 pc, .int .i64 pr, .int .i64 pl] 25)) := ((Below.refl _ _).alloc (Nat.le_refl _) _).alloc (by simp) _
  have b1z := ck b1 hbz
  have b2z := ck b2 hbz
  have s0z := ck s0 hbz
  clear b2 s0
  go_enter Try.func40, Try.ntmps40
  go_upto_region 3 with fail
  obtain ⟨w2, hw2⟩ : ∃ xq, (w.alloc (.cells #[.int .u8 4, .int .i64 (s : Int), .int .i64 pa, .int .i64 pb, .int .i64 pc, .int .i64 pr, .int .i64 pl, .int .u32 h, .slice A1 n1 m1, .slice A2 n2 m2, .slice A3 n3 m3, .slice A4 n4 m4, .slice A5 n5 m5, .slice (some ⟨g6, 0, none⟩) n6 m6, .int .i64 (ptr : Int), .int .i64 (len : Int)] 74)).alloc (.cells #[.int .u8 4, .int .i64 (s : Int), .int .i64 pa, .int .i64 pb, .int .i64 pc, .int .i64 pr, .int .i64 pl] 25) = xq := ⟨_, rfl⟩
  have k74 : Blk w2 w.heap.size 74 #[.int .u8 4, .int .i64 (s : Int), .int .i64 pa, .int .i64 pb, .int .i64 pc, .int .i64 pr, .int .i64 pl, .int .u32 h, .slice A1 n1 m1, .slice A2 n2 m2, .slice A3 n3 m3, .slice A4 n4 m4, .slice A5 n5 m5, .slice (some ⟨g6, 0, none⟩) n6 m6, .int .i64 (ptr : Int), .int .i64 (len : Int)] := hw2 ▸ (Blk.new w _ _).alloc _
  have k25 : Blk w2 (w.heap.size + 1) 25 #[.int .u8 4, .int .i64 (s : Int), .int .i64 pa, .int .i64 pb, .int .i64 pc, .int .i64 pr, .int .i64 pl] := by
    have := Blk.new (w.alloc (.cells #[.int .u8 4, .int .i64 (s : Int), .int .i64 pa, .int .i64 pb, .int .i64 pc, .int .i64 pr, .int .i64 pl, .int .u32 h, .slice A1 n1 m1, .slice A2 n2 m2, .slice A3 n3 m3, .slice A4 n4 m4, .slice A5 n5 m5, .slice (some ⟨g6, 0, none⟩) n6 m6, .int .i64 (ptr : Int), .int .i64 (len : Int)] 74)) 25 #[.int .u8 4, .int .i64 (s : Int), .int .i64 pa, .int .i64 pb, .int .i64 pc, .int .i64 pr, .int .i64 pl]
    rw [hw2] at this
    simpa using this
  rw [hw2] at hbz b1z b2z s0z ⊢
  have HB2 := Lib.hid hbz
  have x0 : w2.cell? ⟨w.heap.size, 0, none⟩ = some (.int .u8 4) := k74.cell 0
  have x1 : w2.cell? ⟨w.heap.size, 1, none⟩ = some (.int .i64 (s : Int)) := k74.cell 1
  have x2 : w2.cell? ⟨w.heap.size, 2, none⟩ = some (.int .i64 pa) := k74.cell 2
  have x3 : w2.cell? ⟨w.heap.size, 3, none⟩ = some (.int .i64 pb) := k74.cell 3
  have x4 : w2.cell? ⟨w.heap.size, 4, none⟩ = some (.int .i64 pc) := k74.cell 4
  have x5 : w2.cell? ⟨w.heap.size, 5, none⟩ = some (.int .i64 pr) := k74.cell 5
  have x6 : w2.cell? ⟨w.heap.size, 6, none⟩ = some (.int .i64 pl) := k74.cell 6
  have x7 : w2.cell? ⟨w.heap.size, 7, none⟩ = some (.int .u32 h) := k74.cell 7
  have x8 : w2.cell? ⟨w.heap.size, 8, none⟩ = some (.slice A1 n1 m1) := k74.cell 8
  have x9 : w2.cell? ⟨w.heap.size, 9, none⟩ = some (.slice A2 n2 m2) := k74.cell 9
  have x10 : w2.cell? ⟨w.heap.size, 10, none⟩ = some (.slice A3 n3 m3) := k74.cell 10
  have x11 : w2.cell? ⟨w.heap.size, 11, none⟩ = some (.slice A4 n4 m4) := k74.cell 11
  have x12 : w2.cell? ⟨w.heap.size, 12, none⟩ = some (.slice A5 n5 m5) := k74.cell 12
  have x13 : w2.cell? ⟨w.heap.size, 13, none⟩ = some (.slice (some ⟨g6, 0, none⟩) n6 m6) := k74.cell 13
  have x14 : w2.cell? ⟨w.heap.size, 14, none⟩ = some (.int .i64 (ptr : Int)) := k74.cell 14
  have x15 : w2.cell? ⟨w.heap.size, 15, none⟩ = some (.int .i64 (len : Int)) := k74.cell 15
  have y0 : w2.cell? ⟨w.heap.size + 1, 0, none⟩ = some (.int .u8 4) := k25.cell 0
  have y1 : w2.cell? ⟨w.heap.size + 1, 1, none⟩ = some (.int .i64 (s : Int)) := k25.cell 1
  have y2 : w2.cell? ⟨w.heap.size + 1, 2, none⟩ = some (.int .i64 pa) := k25.cell 2
  have y3 : w2.cell? ⟨w.heap.size + 1, 3, none⟩ = some (.int .i64 pb) := k25.cell 3
  have y4 : w2.cell? ⟨w.heap.size + 1, 4, none⟩ = some (.int .i64 pc) := k25.cell 4
  have y5 : w2.cell? ⟨w.heap.size + 1, 5, none⟩ = some (.int .i64 pr) := k25.cell 5
  have y6 : w2.cell? ⟨w.heap.size + 1, 6, none⟩ = some (.int .i64 pl) := k25.cell 6
  have b1 : w2.cell? ⟨B, 1, none⟩ = some (.int .i64 c) := b1z
  have b2 : w2.cell? ⟨B, 2, none⟩ = some (.int .i64 (bits : Int)) := b2z
  have s0 : w2.cell? ⟨g6, ptr, none⟩ = some (.int .u8 (y : Int)) := s0z
  have HF := Lib.hid (show ∀ W : World, Below w2.heap.size w2 W → W.cell? ⟨w.heap.size, 0, none⟩ = some (.int .u8 4) ∧ W.cell? ⟨w.heap.size, 1, none⟩ = some (.int .i64 (s : Int)) ∧ W.cell? ⟨w.heap.size, 2, none⟩ = some (.int .i64 pa) ∧ W.cell? ⟨w.heap.size, 3, none⟩ = some (.int .i64 pb) ∧ W.cell? ⟨w.heap.size, 4, none⟩ = some (.int .i64 pc) ∧ W.cell? ⟨w.heap.size, 5, none⟩ = some (.int .i64 pr) ∧ W.cell? ⟨w.heap.size, 6, none⟩ = some (.int .i64 pl) ∧ W.cell? ⟨w.heap.size, 7, none⟩ = some (.int .u32 h) ∧ W.cell? ⟨w.heap.size, 8, none⟩ = some (.slice A1 n1 m1) ∧ W.cell? ⟨w.heap.size, 9, none⟩ = some (.slice A2 n2 m2) ∧ W.cell? ⟨w.heap.size, 10, none⟩ = some (.slice A3 n3 m3) ∧ W.cell? ⟨w.heap.size, 11, none⟩ = some (.slice A4 n4 m4) ∧ W.cell? ⟨w.heap.size, 12, none⟩ = some (.slice A5 n5 m5) ∧ W.cell? ⟨w.heap.size, 13, none⟩ = some (.slice (some ⟨g6, 0, none⟩) n6 m6) ∧ W.cell? ⟨w.heap.size, 14, none⟩ = some (.int .i64 (ptr : Int)) ∧ W.cell? ⟨w.heap.size, 15, none⟩ = some (.int .i64 (len : Int)) ∧ W.cell? ⟨w.heap.size + 1, 0, none⟩ = some (.int .u8 4) ∧ W.cell? ⟨w.heap.size + 1, 1, none⟩ = some (.int .i64 (s : Int)) ∧ W.cell? ⟨w.heap.size + 1, 2, none⟩ = some (.int .i64 pa) ∧ W.cell? ⟨w.heap.size + 1, 3, none⟩ = some (.int .i64 pb) ∧ W.cell? ⟨w.heap.size + 1, 4, none⟩ = some (.int .i64 pc) ∧ W.cell? ⟨w.heap.size + 1, 5, none⟩ = some (.int .i64 pr) ∧ W.cell? ⟨w.heap.size + 1, 6, none⟩ = some (.int .i64 pl) ∧ W.cell? ⟨B, 1, none⟩ = some (.int .i64 c) ∧ W.cell? ⟨B, 2, none⟩ = some (.int .i64 (bits : Int)) ∧ W.cell? ⟨g6, ptr, none⟩ = some (.int .u8 (y : Int)) ∧ Below w2.heap.size w2 W from fun W hL => ⟨ck x0 hL, ck x1 hL, ck x2 hL, ck x3 hL, ck x4 hL, ck x5 hL, ck x6 hL, ck x7 hL, ck x8 hL, ck x9 hL, ck x10 hL, ck x11 hL, ck x12 hL, ck x13 hL, ck x14 hL, ck x15 hL, ck y0 hL, ck y1 hL, ck y2 hL, ck y3 hL, ck y4 hL, ck y5 hL, ck y6 hL, ck b1 hL, ck b2 hL, ck s0 hL, hL⟩)
  clear hw2 hbz k74 k25 x0 x1 x2 x3 x4 x5 x6 x7 x8 x9 x10 x11 x12 x13 x14 x15 y0 y1 y2 y3 y4 y5 y6 b1 b2 s0 b1z b2z s0z
  clear q0 q1 q2 q3 q4 q5 q6 q7 q8 q9 q10 q11 q12 q13 q14 q15 b0
  refine wp_region_held_drew (S := (fun W : World => W.cell? ⟨w.heap.size, 0, none⟩ = some (.int .u8 4) ∧ W.cell? ⟨w.heap.size, 1, none⟩ = some (.int .i64 (s : Int)) ∧ W.cell? ⟨w.heap.size, 2, none⟩ = some (.int .i64 pa) ∧ W.cell? ⟨w.heap.size, 3, none⟩ = some (.int .i64 pb) ∧ W.cell? ⟨w.heap.size, 4, none⟩ = some (.int .i64 pc) ∧ W.cell? ⟨w.heap.size, 5, none⟩ = some (.int .i64 pr) ∧ W.cell? ⟨w.heap.size, 6, none⟩ = some (.int .i64 pl) ∧ W.cell? ⟨w.heap.size, 7, none⟩ = some (.int .u32 h) ∧ W.cell? ⟨w.heap.size, 8, none⟩ = some (.slice A1 n1 m1) ∧ W.cell? ⟨w.heap.size, 9, none⟩ = some (.slice A2 n2 m2) ∧ W.cell? ⟨w.heap.size, 10, none⟩ = some (.slice A3 n3 m3) ∧ W.cell? ⟨w.heap.size, 11, none⟩ = some (.slice A4 n4 m4) ∧ W.cell? ⟨w.heap.size, 12, none⟩ = some (.slice A5 n5 m5) ∧ W.cell? ⟨w.heap.size, 13, none⟩ = some (.slice (some ⟨g6, 0, none⟩) n6 m6) ∧ W.cell? ⟨w.heap.size, 14, none⟩ = some (.int .i64 (ptr : Int)) ∧ W.cell? ⟨w.heap.size, 15, none⟩ = some (.int .i64 (len : Int)) ∧ W.cell? ⟨w.heap.size + 1, 0, none⟩ = some (.int .u8 4) ∧ W.cell? ⟨w.heap.size + 1, 1, none⟩ = some (.int .i64 (s : Int)) ∧ W.cell? ⟨w.heap.size + 1, 2, none⟩ = some (.int .i64 pa) ∧ W.cell? ⟨w.heap.size + 1, 3, none⟩ = some (.int .i64 pb) ∧ W.cell? ⟨w.heap.size + 1, 4, none⟩ = some (.int .i64 pc) ∧ W.cell? ⟨w.heap.size + 1, 5, none⟩ = some (.int .i64 pr) ∧ W.cell? ⟨w.heap.size + 1, 6, none⟩ = some (.int .i64 pl) ∧ W.cell? ⟨B, 1, none⟩ = some (.int .i64 c) ∧ W.cell? ⟨B, 2, none⟩ = some (.int .i64 (bits : Int)) ∧ W.cell? ⟨g6, ptr, none⟩ = some (.int .u8 (y : Int)) ∧ Below w2.heap.size w2 W)) (by kernel_rfl) (HF.out _ (below_drewN (Below.refl _ _) 1)) (fun hHeld => ?_)
  refine tkz (i := 0) (d := 22) rfl rfl ?_
  simp only [Act.put, zzA, zzB, zzC]
  refine tkz (i := 1) (d := 23) rfl rfl ?_
  simp only [Act.put, zzA, zzB, zzC]
  refine tkz (i := 2) (d := 24) rfl rfl ?_
  simp only [Act.put, zzA, zzB, zzC]
  refine tkz (i := 3) (d := 25) rfl rfl ?_
  simp only [Act.put, zzA, zzB, zzC]
  refine tkz (i := 4) (d := 26) rfl rfl ?_
  simp only [Act.put, zzA, zzB, zzC]
  refine tkz (i := 5) (d := 27) rfl rfl ?_
  simp only [Act.put, zzA, zzB, zzC]
  refine tkz (i := 6) (d := 28) rfl rfl ?_
  simp only [Act.put, zzA, zzB, zzC]
  refine tkz (i := 7) (d := 29) rfl rfl ?_
  simp only [Act.put, zzA, zzB, zzC]
  refine rdz (i := 8) rfl (fun K hK => ?_)
  go_simp
  refine (HPL.out _).mono ?_
  rintro e w3 ⟨rfl, rfl⟩
  go_wp2_with fail
  refine hK.out _ _ hHeld (fun hHeld => ?_)
  clear hK K
  try simp only [Act.put, zzA, zzB, zzC]
  refine tkz (i := 9) (d := 9) rfl rfl ?_
  simp only [Act.put, zzA, zzB, zzC]
  refine wpAnyH_done (by kernel_rfl) ?_ _
  have HL3 := Lib.hid (hHeld.2.2.2.2.2.2.2.2.2.2.2.2.2.2.2.2.2.2.2.2.2.2.2.2.2.2)
  obtain ⟨x0, x1, x2, x3, x4, x5, x6, x7, x8, x9, x10, x11, x12, x13, x14, x15, y0, y1, y2, y3, y4, y5, y6, b1, b2, s0, _⟩ := hHeld
  clear HPL
  have HFT := Lib.hid (foretoldR B h c s ptr len y bits pa pb pc pr pl A1 A2 A3 A4 A5 g6 n1 m1 n2 m2 n3 m3 n4 m4 n5 m5 n6 m6 w2.drew hy hlen hptr hbt cc0 cc1 b1 b2 s0)
  clear hy hlen hptr hbt cc0 cc1 s0 b2
  go_upto_region 12 with fail
  go_wp2_with fail
  refine (HFT.out).mono ?_
  rintro e w4 ⟨rfl, hb4⟩
  have HL4 := Lib.hid (bl_step HL3.out hb4)
  clear hb4
  go_wp2
  go_ret
  exact ⟨rfl, bl_step HB2.out HL4.out⟩
end Go.Proofs.Ytnohfeaamfjimaa
