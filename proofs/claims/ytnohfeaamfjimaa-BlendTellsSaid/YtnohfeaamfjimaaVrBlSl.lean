/- A chance that learns ever slower: walks. · blend: a constant; what most units do: walks. · blend: a counter: walks. · blend: a history: walks. · blend: an average, a pair: walks. · blend: a pair learns: walk. · blend: a refined chance: walks. -/
import Derived.Test.YtnohfeaamfjimaaVrBlAt
import Derived.StillTailTactics
import Derived.IntWalk
namespace Go.Proofs.Ytnohfeaamfjimaa
open Go.RowKit
set_option linter.unusedVariables false
set_option linter.unusedSimpArgs false
def ints (l : List Int) : List Value := l.map (.int .i64)
def octs (l : List Int) : List Value := l.map (.int .u8)
theorem ints_length (l : List Int) : (ints l).length = l.length := by simp [ints]
theorem octs_length (l : List Int) : (octs l).length = l.length := by simp [octs]
theorem ints_at {l : List Int} {k : Nat} {x : Int} (h : l[k]? = some x) : (ints l).toArray[k]? = some (.int .i64 x) := by simp [ints, h]
theorem octs_at {l : List Int} {k : Nat} {x : Int} (h : l[k]? = some x) : (octs l).toArray[k]? = some (.int .u8 x) := by simp [octs, h]
theorem ints_set (l : List Int) (k : Nat) (x : Int) : (ints l).toArray.setIfInBounds k (.int .i64 x) = (ints (l.set k x)).toArray := by
  rw [List.setIfInBounds_toArray]
  unfold ints
  rw [List.map_set]
theorem octs_set (l : List Int) (k : Nat) (x : Int) : (octs l).toArray.setIfInBounds k (.int .u8 x) = (octs (l.set k x)).toArray := by
  rw [List.setIfInBounds_toArray]
  unfold octs
  rw [List.map_set]
theorem slowLean_any (g k : Nat) (x : Int) (w : World) (h : w.cell? ⟨g, k, none⟩ = some (.int .i64 x)) (x0 : 0 ≤ x) (x1 : x ≤ 4194303) : Calls Try.prog 96 #[.pointer (some ⟨g, k, none⟩)] w (Quiet (.int .i64 (stI (x / 1024))) w) := by
  have HS := Lib.hid (fun w => stretch_any (x / 1024) w)
  go_enter Try.func96, Try.ntmps96
  go_wp2_with fail
  refine (HS.out w).mono ?_
  rintro e w1 ⟨rfl, hl⟩
  go_wp2
  go_ret
  exact ⟨rfl, hl⟩
def chL (x n bit : Int) : Int := x + (bit * 4194303 - x).tdiv (n + 2)
theorem chL_bd {x n bit : Int} (x0 : 0 ≤ x) (x1 : x ≤ 4194303) (n0 : 0 ≤ n) (hb : bit = 0 ∨ bit = 1) : 0 ≤ chL x n bit ∧ chL x n bit ≤ 4194303 := by
  unfold chL
  rcases hb with rfl | rfl
  · have : (0 * 4194303 - x).tdiv (n + 2) = -(x / (n + 2)) := by rw [Int.zero_mul, Int.zero_sub, Int.neg_tdiv, Int.tdiv_eq_ediv_of_nonneg x0]
    rw [this]
    have h1 := Int.ediv_nonneg x0 (show 0 ≤ n + 2 by omega)
    have h2 := Int.ediv_le_self (n + 2) x0
    omega
  · rw [Int.one_mul]
    have hx : 0 ≤ 4194303 - x := by omega
    rw [Int.tdiv_eq_ediv_of_nonneg hx]
    have h1 := Int.ediv_nonneg hx (show 0 ≤ n + 2 by omega)
    have h2 := Int.ediv_le_self (n + 2) hx
    omega
structure SlowL (g k : Nat) (x n : Int) (l : List Int) (w0 : World) (e : Ending) (w : World) : Prop where
  ret : e = .returned (.tuple #[])
  blk : Blk w g 89 (ints ((l.set k x).set (k + 1) n)).toArray
  frm : Frm (fun b => b = g) w0 w
set_option maxHeartbeats 1000000 in
set_option maxRecDepth 100000 in
theorem slowLearn_any (g k : Nat) (x n bit lim : Int) (l : List Int) (w : World) (h : Blk w g 89 (ints l).toArray) (h0 : l[k]? = some x) (h1 : l[k + 1]? = some n) (x0 : 0 ≤ x) (x1 : x ≤ 4194303) (n0 : 0 ≤ n) (n1 : n ≤ 1023) (hb : bit = 0 ∨ bit = 1) :
    Calls Try.prog 97 #[.pointer (some ⟨g, k, none⟩), .int .i64 bit, .int .i64 lim] w (SlowL g k (chL x n bit) (min (n + 1) lim) l w) := by
  have k0 := (h.cell k).trans (ints_at h0)
  have k1 := (h.cell (k + 1)).trans (ints_at h1)
  have f0 := h.frozen k
  have f1 := h.frozen (k + 1)
  have hx := chL_bd x0 x1 n0 hb
  have hne : ¬ n + 2 = 0 := by omega
  have hq : 0 ≤ n + 2 ∧ n + 2 ≤ 1025 := by omega
  have hm : 0 ≤ bit * 4194303 ∧ bit * 4194303 ≤ 4194303 := by omega
  have hd : -4194303 ≤ bit * 4194303 - x ∧ bit * 4194303 - x ≤ 4194303 := by omega
  have hw : Blk w.drew g 89 (ints l).toArray := h
  have hfr : Frm (fun b => b = g) w w.drew := (Frm.refl _ w).drew
  have hv : chL x n bit = x + (bit * 4194303 - x).tdiv (n + 2) := rfl
  rw [hv] at hx
  have hz : -4194303 ≤ (bit * 4194303 - x).tdiv (n + 2) ∧ (bit * 4194303 - x).tdiv (n + 2) ≤ 4194303 := by omega
  have hfin : ∀ W : World, Blk W g 89 (ints l).toArray → Frm (fun b => b = g) w W → SlowL g k (chL x n bit) (min (n + 1) lim) l w (.returned (.tuple #[])) ((W.setCell ⟨g, k, none⟩ (.int .i64 (chL x n bit))).setCell ⟨g, k + 1, none⟩ (.int .i64 (min (n + 1) lim))) := fun W hb hf => by
    have h1 := (hb.set k (.int .i64 (chL x n bit))).set (k + 1) (.int .i64 (min (n + 1) lim))
    rw [ints_set, ints_set] at h1
    exact ⟨rfl, h1, (hf.setCell (p := ⟨g, k, none⟩) (fun _ => rfl) _).setCell (p := ⟨g, k + 1, none⟩) (fun _ => rfl) _⟩
  have HFIN := Lib.hid hfin
  have HW := Lib.hid hw
  have HFR := Lib.hid hfr
  have HN := Lib.hid (show -9223372036854775808 ≤ n + 1 ∧ n + 1 ≤ 9223372036854775807 by omega)
  have w1 := IntWalk.i64_in (bit * 4194303) (by omega)
  have w2 := IntWalk.i64_in (bit * 4194303 - x) (by omega)
  have w3 := IntWalk.i64_in (n + 2) (by omega)
  have w4 := IntWalk.i64_in ((bit * 4194303 - x).tdiv (n + 2)) (by omega)
  have w5 := IntWalk.i64_in (x + (bit * 4194303 - x).tdiv (n + 2)) (by omega)
  have HB := Lib.hid h
  clear hfin hw hfr h hq hm hd hx hz x0 x1 hb
  rw [show x + (bit * 4194303 - x).tdiv (n + 2) = chL x n bit from rfl] at w5
  have w5 : IntKind.i64.wrap (x + (bit * 4194303 - x).tdiv (n + 2)) = chL x n bit := w5
  clear hv
  obtain ⟨y, hy⟩ : ∃ y, chL x n bit = y := ⟨_, rfl⟩
  rw [hy] at w5 HFIN ⊢
  clear hy
  go_enter Try.func97, Try.ntmps97
  go_upto_region 0 with fail
  go_still_tail 20, (by kernel_rfl)
  change wpList _ _ _ _ _ w.drew
  clear w1 w2 w3 w4 w5 hne
  replace k0 : w.drew.cell? ⟨g, k, none⟩ = some (.int .i64 x) := k0
  replace k1 : w.drew.cell? ⟨g, k + 1, none⟩ = some (.int .i64 n) := k1
  replace f0 : w.drew.frozen? ⟨g, k, none⟩ = false := f0
  replace f1 : w.drew.frozen? ⟨g, k + 1, none⟩ = false := f1
  have hn1 := HN.out
  generalize w.drew = W at *
  go_wp2
  · refine bodyPost_ret (v := .tuple #[]) (by simp [results, Try.results97, go_sem]) rfl ?_
    rw [show min (n + 1) lim = lim by omega] at HFIN ⊢
    exact HFIN.out _ HW.out HFR.out
  · refine bodyPost_ret (v := .tuple #[]) (by simp [results, Try.results97, go_sem]) rfl ?_
    rw [show min (n + 1) lim = n + 1 by omega] at HFIN ⊢
    exact HFIN.out _ HW.out HFR.out
end Go.Proofs.Ytnohfeaamfjimaa
namespace Go.Proofs.Ytnohfeaamfjimaa
open Go.RowKit Go.WideShapes
set_option linter.unusedVariables false
set_option linter.unusedSimpArgs false
theorem ck {w w' : World} {p : Addr} {v : Value} (h : w.cell? p = some v) (hb : Below w.heap.size w w') : w'.cell? p = some v := (hb.cell (block_lt_of_cell h)).trans h
theorem bl_step {w W W' : World} (h : Below w.heap.size w W) (hb : Below W.heap.size W W') : Below w.heap.size w W' := h.trans (hb.mono h.size)
theorem mulB {a b A B : Int} (h1 : -A ≤ a) (h2 : a ≤ A) (h3 : -B ≤ b) (h4 : b ≤ B) : -(A * B) ≤ a * b ∧ a * b ≤ A * B := by
  have hA : 0 ≤ A := by omega
  have hB : 0 ≤ B := by omega
  have h : (a * b).natAbs ≤ (A * B).natAbs := by
    rw [Int.natAbs_mul, Int.natAbs_mul]
    exact Nat.mul_le_mul (by omega) (by omega)
  have := Int.mul_nonneg hA hB
  omega
/-- Nothing told, the world as it was but for one thing. -/
structure Did (Q : World → Prop) (e : Ending) (w : World) : Prop where
  ret : e = .returned (.tuple #[])
  q : Q w
set_option maxRecDepth 100000 in
set_option maxHeartbeats 4000000 in
theorem lean120 (g B : Nat) (x : Int) (w : World) (k4 : w.cell? ⟨g, 4, none⟩ = some (.int .i64 x)) :
    Calls Try.prog 120 #[.pointer (some ⟨g, 0, none⟩), .pointer (some ⟨B, 1, none⟩)] w (Quiet (.int .i64 x) w) := by
  go_enter Try.func120, Try.ntmps120
  go_wp2
  go_ret
  exact ⟨rfl, Below.refl _ _⟩
set_option maxRecDepth 100000 in
set_option maxHeartbeats 4000000 in
theorem context90 (g B : Nat) (h x : Int) (w : World) (k7 : w.cell? ⟨g, 7, none⟩ = some (.int .u32 x)) (f7 : w.frozen? ⟨g, 7, none⟩ = false) :
    Calls Try.prog 90 #[.pointer (some ⟨g, 0, none⟩), .pointer (some ⟨B, 1, none⟩), .int .u32 h] w (Did (fun w' => w' = w.setCell ⟨g, 7, none⟩ (.int .u32 h))) := by
  go_enter Try.func90, Try.ntmps90
  go_wp2
  refine bodyPost_ret (v := .tuple #[]) (by simp [results, Try.results90, go_sem]) rfl ?_
  exact ⟨rfl, rfl⟩
set_option maxRecDepth 100000 in
set_option maxHeartbeats 4000000 in
theorem end91 (g B : Nat) (w : World) :
    Calls Try.prog 91 #[.pointer (some ⟨g, 0, none⟩), .pointer (some ⟨B, 1, none⟩)] w (Did (fun w' => w' = w)) := by
  go_enter Try.func91, Try.ntmps91
  go_wp2
  refine bodyPost_ret (v := .tuple #[]) (by simp [results, Try.results91, go_sem]) rfl ?_
  exact ⟨rfl, rfl⟩
set_option maxRecDepth 100000 in
set_option maxHeartbeats 4000000 in
theorem learn106 (g B : Nat) (d bit : Int) (w : World) :
    Calls Try.prog 106 #[.pointer (some ⟨g, 0, none⟩), .pointer (some ⟨B, 1, none⟩), .int .i64 d, .int .i64 bit] w (Did (fun w' => w' = w)) := by
  go_enter Try.func106, Try.ntmps106
  go_wp2
  refine bodyPost_ret (v := .tuple #[]) (by simp [results, Try.results106, go_sem]) rfl ?_
  exact ⟨rfl, rfl⟩
end Go.Proofs.Ytnohfeaamfjimaa
namespace Go.Proofs.Ytnohfeaamfjimaa
open Go.RowKit Go.WideShapes
set_option linter.unusedVariables false
set_option linter.unusedSimpArgs false
set_option maxRecDepth 100000 in
set_option maxHeartbeats 4000000 in
theorem lean92 (g B gt n cp : Nat) (h c x : Int) (s a : Nat) (w : World) (h0 : 0 ≤ h) (h1 : h ≤ 4294967295) (c0 : 0 ≤ c) (c1 : c ≤ 255) (s2 : s ≤ 16) (ha : placeI h c s = (a : Int)) (hn : a < n) (hn2 : n ≤ 3000000) (x0 : 0 ≤ x) (x1 : x ≤ 4194303) (k7 : w.cell? ⟨g, 7, none⟩ = some (.int .u32 h)) (k1 : w.cell? ⟨g, 1, none⟩ = some (.int .i64 (s : Int))) (b1 : w.cell? ⟨B, 1, none⟩ = some (.int .i64 c)) (k8 : w.cell? ⟨g, 8, none⟩ = some (.slice (some ⟨gt, 0, none⟩) n cp)) (t0 : w.cell? ⟨gt, a * 2, none⟩ = some (.int .i64 x)) :
    Calls Try.prog 92 #[.pointer (some ⟨g, 0, none⟩), .pointer (some ⟨B, 1, none⟩)] w (Quiet (.int .i64 (stI (x / 1024))) w) := by
  have HL := Lib.hid (show Below w.heap.size w w from Below.refl _ _)
  have HF := Lib.hid (show ∀ W : World, Below w.heap.size w W → W.cell? ⟨g, 7, none⟩ = some (.int .u32 h) ∧ W.cell? ⟨g, 1, none⟩ = some (.int .i64 (s : Int)) ∧ W.cell? ⟨B, 1, none⟩ = some (.int .i64 c) ∧ W.cell? ⟨g, 8, none⟩ = some (.slice (some ⟨gt, 0, none⟩) n cp) ∧ W.cell? ⟨gt, a * 2, none⟩ = some (.int .i64 x) ∧ Below w.heap.size w W from fun W hL => ⟨ck k7 hL, ck k1 hL, ck b1 hL, ck k8 hL, ck t0 hL, hL⟩)
  have HAT := Lib.hid (show ∀ W : World, (W.cell? ⟨g, 7, none⟩ = some (.int .u32 h) ∧ W.cell? ⟨g, 1, none⟩ = some (.int .i64 (s : Int)) ∧ W.cell? ⟨B, 1, none⟩ = some (.int .i64 c) ∧ W.cell? ⟨g, 8, none⟩ = some (.slice (some ⟨gt, 0, none⟩) n cp) ∧ W.cell? ⟨gt, a * 2, none⟩ = some (.int .i64 x) ∧ Below w.heap.size w W) → Calls Try.prog 95 #[.pointer (some ⟨g, 0, none⟩), .pointer (some ⟨B, 1, none⟩)] W (Quiet (.int .i64 (a : Int)) W) from fun W hW => ha ▸ atU_any g B h c s W h0 h1 c0 c1 s2 (hW.1) (hW.2.1) (hW.2.2.1))
  have HSL := Lib.hid (show ∀ W : World, (W.cell? ⟨g, 7, none⟩ = some (.int .u32 h) ∧ W.cell? ⟨g, 1, none⟩ = some (.int .i64 (s : Int)) ∧ W.cell? ⟨B, 1, none⟩ = some (.int .i64 c) ∧ W.cell? ⟨g, 8, none⟩ = some (.slice (some ⟨gt, 0, none⟩) n cp) ∧ W.cell? ⟨gt, a * 2, none⟩ = some (.int .i64 x) ∧ Below w.heap.size w W) → Calls Try.prog 96 #[.pointer (some ⟨gt, a * 2, none⟩)] W (Quiet (.int .i64 (stI (x / 1024))) W) from fun W hW => slowLean_any gt (a * 2) x W (hW.2.2.2.2.1) x0 x1)
  clear h0 h1 c0 c1 s2 x0 x1 ha
  go_enter Try.func92, Try.ntmps92
  go_upto_region 1 with fail
  refine wp_region_held_drew (S := (fun W : World => W.cell? ⟨g, 7, none⟩ = some (.int .u32 h) ∧ W.cell? ⟨g, 1, none⟩ = some (.int .i64 (s : Int)) ∧ W.cell? ⟨B, 1, none⟩ = some (.int .i64 c) ∧ W.cell? ⟨g, 8, none⟩ = some (.slice (some ⟨gt, 0, none⟩) n cp) ∧ W.cell? ⟨gt, a * 2, none⟩ = some (.int .i64 x) ∧ Below w.heap.size w W)) (by kernel_rfl) (HF.out _ (below_drewN HL.out 1)) (fun hHeld => ?_)
  refine tkz (i := 0) (d := 5) rfl rfl ?_
  simp only [Act.put, zzA, zzB, zzC]
  refine tkz (i := 1) (d := 6) rfl rfl ?_
  simp only [Act.put, zzA, zzB, zzC]
  refine tkz (i := 2) (d := 7) rfl rfl ?_
  simp only [Act.put, zzA, zzB, zzC]
  refine tkz (i := 3) (d := 8) rfl rfl ?_
  simp only [Act.put, zzA, zzB, zzC]
  refine tkz (i := 4) (d := 9) rfl rfl ?_
  simp only [Act.put, zzA, zzB, zzC]
  refine tkz (i := 5) (d := 10) rfl rfl ?_
  simp only [Act.put, zzA, zzB, zzC]
  refine tkz (i := 6) (d := 11) rfl rfl ?_
  simp only [Act.put, zzA, zzB, zzC]
  refine tkz (i := 7) (d := 12) rfl rfl ?_
  simp only [Act.put, zzA, zzB, zzC]
  refine rdz (i := 8) rfl (fun K hK => ?_)
  go_simp
  refine (HAT.out _ hHeld).mono ?_
  rintro e w1 ⟨rfl, hb⟩
  go_wp2_with fail
  refine hK.out _ _ (HF.out _ (bl_step (hHeld.2.2.2.2.2) hb)) (fun hHeld => ?_)
  clear hK K
  try simp only [Act.put, zzA, zzB, zzC]
  refine tkz (i := 9) (d := 14) rfl rfl ?_
  simp only [Act.put, zzA, zzB, zzC]
  refine rdz (i := 10) rfl (fun K hK => ?_)
  go_simp
  refine (HSL.out _ hHeld).mono ?_
  rintro e w2 ⟨rfl, hb⟩
  go_wp2_with fail
  refine hK.out _ _ (HF.out _ (bl_step (hHeld.2.2.2.2.2) hb)) (fun hHeld => ?_)
  clear hK K
  try simp only [Act.put, zzA, zzB, zzC]
  refine tkz (i := 11) (d := 4) rfl rfl ?_
  simp only [Act.put, zzA, zzB, zzC]
  refine wpAnyH_done (by kernel_rfl) ?_ _
  go_wp2
  go_ret
  exact ⟨rfl, hHeld.2.2.2.2.2⟩
set_option maxRecDepth 100000 in
set_option maxHeartbeats 4000000 in
theorem learn93 (g B gt n cp : Nat) (h c x m d bit lim : Int) (l : List Int) (s a : Nat) (w : World) (h0 : 0 ≤ h) (h1 : h ≤ 4294967295) (c0 : 0 ≤ c) (c1 : c ≤ 255) (s2 : s ≤ 16) (ha : placeI h c s = (a : Int)) (hn : a < n) (hn2 : n ≤ 3000000) (hB : Blk w gt 89 (ints l).toArray) (hx : l[a * 2]? = some x) (hm : l[a * 2 + 1]? = some m) (x0 : 0 ≤ x) (x1 : x ≤ 4194303) (m0 : 0 ≤ m) (m1 : m ≤ 1023) (hbit : bit = 0 ∨ bit = 1) (ng : ¬ g = gt) (nB : ¬ B = gt) (k7 : w.cell? ⟨g, 7, none⟩ = some (.int .u32 h)) (k1 : w.cell? ⟨g, 1, none⟩ = some (.int .i64 (s : Int))) (b1 : w.cell? ⟨B, 1, none⟩ = some (.int .i64 c)) (k8 : w.cell? ⟨g, 8, none⟩ = some (.slice (some ⟨gt, 0, none⟩) n cp)) (k6 : w.cell? ⟨g, 6, none⟩ = some (.int .i64 lim)) :
    Calls Try.prog 93 #[.pointer (some ⟨g, 0, none⟩), .pointer (some ⟨B, 1, none⟩), .int .i64 d, .int .i64 bit] w (SlowL gt (a * 2) (chL x m bit) (min (m + 1) lim) l w) := by
  have HL := Lib.hid (show Frm (fun b => b = gt) w w from Frm.refl _ _)
  have HF := Lib.hid (show ∀ W : World, Frm (fun b => b = gt) w W → W.cell? ⟨g, 7, none⟩ = some (.int .u32 h) ∧ W.cell? ⟨g, 1, none⟩ = some (.int .i64 (s : Int)) ∧ W.cell? ⟨B, 1, none⟩ = some (.int .i64 c) ∧ W.cell? ⟨g, 8, none⟩ = some (.slice (some ⟨gt, 0, none⟩) n cp) ∧ W.cell? ⟨g, 6, none⟩ = some (.int .i64 lim) ∧ Frm (fun b => b = gt) w W from fun W hL => ⟨(hL.cell (block_lt_of_cell k7) (ng)).trans k7, (hL.cell (block_lt_of_cell k1) (ng)).trans k1, (hL.cell (block_lt_of_cell b1) (nB)).trans b1, (hL.cell (block_lt_of_cell k8) (ng)).trans k8, (hL.cell (block_lt_of_cell k6) (ng)).trans k6, hL⟩)
  have HAT := Lib.hid (show ∀ W : World, (W.cell? ⟨g, 7, none⟩ = some (.int .u32 h) ∧ W.cell? ⟨g, 1, none⟩ = some (.int .i64 (s : Int)) ∧ W.cell? ⟨B, 1, none⟩ = some (.int .i64 c) ∧ W.cell? ⟨g, 8, none⟩ = some (.slice (some ⟨gt, 0, none⟩) n cp) ∧ W.cell? ⟨g, 6, none⟩ = some (.int .i64 lim) ∧ Frm (fun b => b = gt) w W) → Calls Try.prog 95 #[.pointer (some ⟨g, 0, none⟩), .pointer (some ⟨B, 1, none⟩)] W (Quiet (.int .i64 (a : Int)) W) from fun W hW => ha ▸ atU_any g B h c s W h0 h1 c0 c1 s2 (hW.1) (hW.2.1) (hW.2.2.1))
  have HB := Lib.hid hB
  have HSL := Lib.hid (fun (W : World) (hW : Blk W gt 89 (ints l).toArray) => slowLearn_any gt (a * 2) x m bit lim l W hW hx hm x0 x1 m0 m1 hbit)
  clear h0 h1 c0 c1 s2 ha hx hm x0 x1 m0 m1 hB ng nB hbit
  go_enter Try.func93, Try.ntmps93
  go_upto_region 0 with fail
  refine wp_region_held_drew (S := (fun W : World => W.cell? ⟨g, 7, none⟩ = some (.int .u32 h) ∧ W.cell? ⟨g, 1, none⟩ = some (.int .i64 (s : Int)) ∧ W.cell? ⟨B, 1, none⟩ = some (.int .i64 c) ∧ W.cell? ⟨g, 8, none⟩ = some (.slice (some ⟨gt, 0, none⟩) n cp) ∧ W.cell? ⟨g, 6, none⟩ = some (.int .i64 lim) ∧ Frm (fun b => b = gt) w W)) (by kernel_rfl) (HF.out _ (HL.out.drew)) (fun hHeld => ?_)
  refine tkz (i := 0) (d := 8) rfl rfl ?_
  simp only [Act.put, zzA, zzB, zzC]
  refine tkz (i := 1) (d := 9) rfl rfl ?_
  simp only [Act.put, zzA, zzB, zzC]
  refine tkz (i := 2) (d := 10) rfl rfl ?_
  simp only [Act.put, zzA, zzB, zzC]
  refine tkz (i := 3) (d := 11) rfl rfl ?_
  simp only [Act.put, zzA, zzB, zzC]
  refine tkz (i := 4) (d := 12) rfl rfl ?_
  simp only [Act.put, zzA, zzB, zzC]
  refine tkz (i := 5) (d := 13) rfl rfl ?_
  simp only [Act.put, zzA, zzB, zzC]
  refine tkz (i := 6) (d := 14) rfl rfl ?_
  simp only [Act.put, zzA, zzB, zzC]
  refine tkz (i := 7) (d := 15) rfl rfl ?_
  simp only [Act.put, zzA, zzB, zzC]
  refine tkz (i := 10) (d := 18) rfl rfl ?_
  simp only [Act.put, zzA, zzB, zzC]
  refine tkz (i := 11) (d := 19) rfl rfl ?_
  simp only [Act.put, zzA, zzB, zzC]
  refine tkz (i := 12) (d := 20) rfl rfl ?_
  simp only [Act.put, zzA, zzB, zzC]
  refine tkz (i := 13) (d := 21) rfl rfl ?_
  simp only [Act.put, zzA, zzB, zzC]
  refine tkz (i := 14) (d := 22) rfl rfl ?_
  simp only [Act.put, zzA, zzB, zzC]
  refine tkz (i := 15) (d := 23) rfl rfl ?_
  simp only [Act.put, zzA, zzB, zzC]
  refine tkz (i := 16) (d := 24) rfl rfl ?_
  simp only [Act.put, zzA, zzB, zzC]
  refine rdz (i := 8) rfl (fun K hK => ?_)
  go_simp
  refine (HAT.out _ hHeld).mono ?_
  rintro e w1 ⟨rfl, hb⟩
  have HB1 := Lib.hid ((show Blk w.drew gt 89 (ints l).toArray from HB.out).below hb)
  go_wp2_with fail
  refine hK.out _ _ (HF.out _ ((hHeld.2.2.2.2.2).below hb)) (fun hHeld => ?_)
  clear hK K
  try simp only [Act.put, zzA, zzB, zzC]
  refine tkz (i := 9) (d := 17) rfl rfl ?_
  simp only [Act.put, zzA, zzB, zzC]
  refine rdz (i := 17) rfl (fun K hK => ?_)
  go_simp
  refine (HSL.out _ HB1.out).mono ?_
  rintro e w2 ⟨rfl, hblk, hfr⟩
  have HBL := Lib.hid hblk
  have HFR := Lib.hid hfr
  go_wp2_with fail
  refine hK.out _ _ (HF.out _ ((hHeld.2.2.2.2.2).trans HFR.out (fun _ _ h => h))) (fun hHeld => ?_)
  clear hK K
  try simp only [Act.put, zzA, zzB, zzC]
  refine wpAnyH_done (by kernel_rfl) ?_ _
  go_wp2
  refine bodyPost_ret (v := .tuple #[]) (by simp [results, Try.results93, go_sem]) rfl ?_
  exact ⟨rfl, HBL.out, hHeld.2.2.2.2.2⟩
end Go.Proofs.Ytnohfeaamfjimaa
namespace Go.Proofs.Ytnohfeaamfjimaa
open Go.RowKit Go.WideShapes
set_option linter.unusedVariables false
set_option linter.unusedSimpArgs false
set_option maxRecDepth 100000 in
set_option maxHeartbeats 4000000 in
theorem lean99 (g B gs n cp : Nat) (h c z : Int) (s a y : Nat) (w : World) (h0 : 0 ≤ h) (h1 : h ≤ 4294967295) (c0 : 0 ≤ c) (c1 : c ≤ 255) (s2 : s ≤ 16) (ha : placeI h c s = (a : Int)) (hn : a < n) (hn2 : n ≤ 3000000) (hy : y < 256) (z0 : 0 ≤ z) (z1 : z ≤ 65535) (k7 : w.cell? ⟨g, 7, none⟩ = some (.int .u32 h)) (k1 : w.cell? ⟨g, 1, none⟩ = some (.int .i64 (s : Int))) (b1 : w.cell? ⟨B, 1, none⟩ = some (.int .i64 c)) (k8 : w.cell? ⟨g, 8, none⟩ = some (.slice (some ⟨gs, 0, none⟩) n cp)) (s0 : w.cell? ⟨gs, a, none⟩ = some (.int .u8 (y : Int))) (x0 : w.cell? ⟨g, 9 + y, none⟩ = some (.int .i64 z)) :
    Calls Try.prog 99 #[.pointer (some ⟨g, 0, none⟩), .pointer (some ⟨B, 1, none⟩)] w (Quiet (.int .i64 (stI (z / 16))) w) := by
  have HL := Lib.hid (show Below w.heap.size w w from Below.refl _ _)
  have HF := Lib.hid (show ∀ W : World, Below w.heap.size w W → W.cell? ⟨g, 7, none⟩ = some (.int .u32 h) ∧ W.cell? ⟨g, 1, none⟩ = some (.int .i64 (s : Int)) ∧ W.cell? ⟨B, 1, none⟩ = some (.int .i64 c) ∧ W.cell? ⟨g, 8, none⟩ = some (.slice (some ⟨gs, 0, none⟩) n cp) ∧ W.cell? ⟨gs, a, none⟩ = some (.int .u8 (y : Int)) ∧ W.cell? ⟨g, 9 + y, none⟩ = some (.int .i64 z) ∧ Below w.heap.size w W from fun W hL => ⟨ck k7 hL, ck k1 hL, ck b1 hL, ck k8 hL, ck s0 hL, ck x0 hL, hL⟩)
  have HAT := Lib.hid (show ∀ W : World, (W.cell? ⟨g, 7, none⟩ = some (.int .u32 h) ∧ W.cell? ⟨g, 1, none⟩ = some (.int .i64 (s : Int)) ∧ W.cell? ⟨B, 1, none⟩ = some (.int .i64 c) ∧ W.cell? ⟨g, 8, none⟩ = some (.slice (some ⟨gs, 0, none⟩) n cp) ∧ W.cell? ⟨gs, a, none⟩ = some (.int .u8 (y : Int)) ∧ W.cell? ⟨g, 9 + y, none⟩ = some (.int .i64 z) ∧ Below w.heap.size w W) → Calls Try.prog 95 #[.pointer (some ⟨g, 0, none⟩), .pointer (some ⟨B, 1, none⟩)] W (Quiet (.int .i64 (a : Int)) W) from fun W hW => ha ▸ atU_any g B h c s W h0 h1 c0 c1 s2 (hW.1) (hW.2.1) (hW.2.2.1))
  have HST := Lib.hid (fun (W : World) => stretch_any (z / 16) W)
  have hy0 : (0 : Int) ≤ (y : Int) := by omega
  have hy1 : (y : Int) < 256 := by omega
  clear h0 h1 c0 c1 s2 ha
  go_enter Try.func99, Try.ntmps99
  go_upto_region 1 with fail
  refine wp_region_held_drew (S := (fun W : World => W.cell? ⟨g, 7, none⟩ = some (.int .u32 h) ∧ W.cell? ⟨g, 1, none⟩ = some (.int .i64 (s : Int)) ∧ W.cell? ⟨B, 1, none⟩ = some (.int .i64 c) ∧ W.cell? ⟨g, 8, none⟩ = some (.slice (some ⟨gs, 0, none⟩) n cp) ∧ W.cell? ⟨gs, a, none⟩ = some (.int .u8 (y : Int)) ∧ W.cell? ⟨g, 9 + y, none⟩ = some (.int .i64 z) ∧ Below w.heap.size w W)) (by kernel_rfl) (HF.out _ (below_drewN HL.out 1)) (fun hHeld => ?_)
  refine tkz (i := 0) (d := 5) rfl rfl ?_
  simp only [Act.put, zzA, zzB, zzC]
  refine tkz (i := 1) (d := 6) rfl rfl ?_
  simp only [Act.put, zzA, zzB, zzC]
  refine tkz (i := 2) (d := 7) rfl rfl ?_
  simp only [Act.put, zzA, zzB, zzC]
  refine tkz (i := 3) (d := 8) rfl rfl ?_
  simp only [Act.put, zzA, zzB, zzC]
  refine tkz (i := 4) (d := 9) rfl rfl ?_
  simp only [Act.put, zzA, zzB, zzC]
  refine tkz (i := 5) (d := 10) rfl rfl ?_
  simp only [Act.put, zzA, zzB, zzC]
  refine tkz (i := 6) (d := 11) rfl rfl ?_
  simp only [Act.put, zzA, zzB, zzC]
  refine tkz (i := 7) (d := 12) rfl rfl ?_
  simp only [Act.put, zzA, zzB, zzC]
  refine tkz (i := 8) (d := 13) rfl rfl ?_
  simp only [Act.put, zzA, zzB, zzC]
  refine tkz (i := 12) (d := 17) rfl rfl ?_
  simp only [Act.put, zzA, zzB, zzC]
  refine tkz (i := 13) (d := 18) rfl rfl ?_
  simp only [Act.put, zzA, zzB, zzC]
  refine rdz (i := 9) rfl (fun K hK => ?_)
  go_simp
  refine (HAT.out _ hHeld).mono ?_
  rintro e w1 ⟨rfl, hb⟩
  go_wp2_with fail
  refine hK.out _ _ (HF.out _ (bl_step (hHeld.2.2.2.2.2.2) hb)) (fun hHeld => ?_)
  clear hK K
  try simp only [Act.put, zzA, zzB, zzC]
  refine tkz (i := 10) (d := 15) rfl rfl ?_
  simp only [Act.put, zzA, zzB, zzC]
  refine tkz (i := 11) (d := 16) rfl rfl ?_
  simp only [Act.put, zzA, zzB, zzC]
  refine tkz (i := 14) (d := 19) rfl rfl ?_
  simp only [Act.put, zzA, zzB, zzC]
  refine tkz (i := 15) (d := 20) rfl rfl ?_
  simp only [Act.put, zzA, zzB, zzC]
  refine tkz (i := 16) (d := 21) rfl rfl ?_
  simp only [Act.put, zzA, zzB, zzC]
  refine rdz (i := 17) rfl (fun K hK => ?_)
  go_simp
  refine (HST.out _).mono ?_
  rintro e w2 ⟨rfl, hb⟩
  go_wp2_with fail
  refine hK.out _ _ (HF.out _ (bl_step (hHeld.2.2.2.2.2.2) hb)) (fun hHeld => ?_)
  clear hK K
  try simp only [Act.put, zzA, zzB, zzC]
  refine tkz (i := 18) (d := 4) rfl rfl ?_
  simp only [Act.put, zzA, zzB, zzC]
  refine wpAnyH_done (by kernel_rfl) ?_ _
  go_wp2
  go_ret
  exact ⟨rfl, hHeld.2.2.2.2.2.2⟩
def hiL (z bit : Int) : Int := z + (bit * 65535 - z).tdiv 64
theorem hiL_bd {z bit : Int} (z0 : 0 ≤ z) (z1 : z ≤ 65535) (hb : bit = 0 ∨ bit = 1) : 0 ≤ hiL z bit ∧ hiL z bit ≤ 65535 ∧ -65535 ≤ (bit * 65535 - z).tdiv 64 ∧ (bit * 65535 - z).tdiv 64 ≤ 65535 := by
  unfold hiL
  rcases hb with rfl | rfl
  · have : (0 * 65535 - z).tdiv 64 = -(z / 64) := by rw [Int.zero_mul, Int.zero_sub, Int.neg_tdiv, Int.tdiv_eq_ediv_of_nonneg z0]
    rw [this]
    omega
  · rw [Int.one_mul]
    have hx : 0 ≤ 65535 - z := by omega
    rw [Int.tdiv_eq_ediv_of_nonneg hx]
    omega
structure HistL (g gs : Nat) (G : Array Value) (l : List Int) (w0 : World) (e : Ending) (w : World) : Prop where
  ret : e = .returned (.tuple #[])
  blk : Blk w g 95 G
  oct : Blk w gs 5 (octs l).toArray
  frm : Frm (fun b => b = g ∨ b = gs) w0 w
set_option maxRecDepth 100000 in
set_option maxHeartbeats 4000000 in
theorem learn100 (g B gs n cp : Nat) (G : Array Value) (l : List Int) (h c z d bit : Int) (s a y : Nat) (w : World) (h0 : 0 ≤ h) (h1 : h ≤ 4294967295) (c0 : 0 ≤ c) (c1 : c ≤ 255) (s2 : s ≤ 16) (ha : placeI h c s = (a : Int)) (hn : a < n) (hn2 : n ≤ 3000000) (hy : y < 256) (z0 : 0 ≤ z) (z1 : z ≤ 65535) (hbit : bit = 0 ∨ bit = 1) (hG : Blk w g 95 G) (hS : Blk w gs 5 (octs l).toArray) (hGx : G[9 + y]? = some (.int .i64 z)) (hne : ¬ g = gs) (k7 : w.cell? ⟨g, 7, none⟩ = some (.int .u32 h)) (k1 : w.cell? ⟨g, 1, none⟩ = some (.int .i64 (s : Int))) (b1 : w.cell? ⟨B, 1, none⟩ = some (.int .i64 c)) (k8 : w.cell? ⟨g, 8, none⟩ = some (.slice (some ⟨gs, 0, none⟩) n cp)) (s0 : w.cell? ⟨gs, a, none⟩ = some (.int .u8 (y : Int))) :
    Calls Try.prog 100 #[.pointer (some ⟨g, 0, none⟩), .pointer (some ⟨B, 1, none⟩), .int .i64 d, .int .i64 bit] w (HistL g gs (G.setIfInBounds (9 + y) (.int .i64 (hiL z bit))) (l.set a (nextI y bit)) w) := by
  have HL := Lib.hid (show Below w.heap.size w w from Below.refl _ _)
  have HF := Lib.hid (show ∀ W : World, Below w.heap.size w W → W.cell? ⟨g, 7, none⟩ = some (.int .u32 h) ∧ W.cell? ⟨g, 1, none⟩ = some (.int .i64 (s : Int)) ∧ W.cell? ⟨B, 1, none⟩ = some (.int .i64 c) ∧ W.cell? ⟨g, 8, none⟩ = some (.slice (some ⟨gs, 0, none⟩) n cp) ∧ W.cell? ⟨gs, a, none⟩ = some (.int .u8 (y : Int)) ∧ Below w.heap.size w W from fun W hL => ⟨ck k7 hL, ck k1 hL, ck b1 hL, ck k8 hL, ck s0 hL, hL⟩)
  have HAT := Lib.hid (show ∀ W : World, (W.cell? ⟨g, 7, none⟩ = some (.int .u32 h) ∧ W.cell? ⟨g, 1, none⟩ = some (.int .i64 (s : Int)) ∧ W.cell? ⟨B, 1, none⟩ = some (.int .i64 c) ∧ W.cell? ⟨g, 8, none⟩ = some (.slice (some ⟨gs, 0, none⟩) n cp) ∧ W.cell? ⟨gs, a, none⟩ = some (.int .u8 (y : Int)) ∧ Below w.heap.size w W) → Calls Try.prog 95 #[.pointer (some ⟨g, 0, none⟩), .pointer (some ⟨B, 1, none⟩)] W (Quiet (.int .i64 (a : Int)) W) from fun W hW => ha ▸ atU_any g B h c s W h0 h1 c0 c1 s2 (hW.1) (hW.2.1) (hW.2.2.1))
  have hq := hiL_bd z0 z1 hbit
  have hm : 0 ≤ bit * 65535 ∧ bit * 65535 ≤ 65535 := by omega
  have hd : -65535 ≤ bit * 65535 - z ∧ bit * 65535 - z ≤ 65535 := by omega
  have e1 := IntWalk.i64_in (bit * 65535) (by omega)
  have e2 := IntWalk.i64_in (bit * 65535 - z) (by omega)
  have e4 : IntKind.i64.wrap (z + (bit * 65535 - z).tdiv 64) = hiL z bit := IntWalk.i64_in (hiL z bit) (by omega)
  have e5 := IntWalk.i64_in ((bit * 65535 - z).tdiv 64) (by omega)
  have hnx := next_any (y : Int) bit
  have HNX := Lib.hid (show ∀ W : World, Calls Try.prog 101 #[.int .u8 (y : Int), .int .i64 bit] W fun e W' => e = .returned (.int .u8 (nextI y bit)) ∧ W = W' from fun W => next_any (y : Int) bit W (by omega) (by omega))
  have E1 := Lib.hid e1
  have E2 := Lib.hid e2
  have E4 := Lib.hid e4
  have E5 := Lib.hid e5
  have HG := Lib.hid hG
  have HS := Lib.hid hS
  have HGX := Lib.hid hGx
  have hy0 : (0 : Int) ≤ (y : Int) := by omega
  have hy1 : (y : Int) < 256 := by omega
  clear h0 h1 c0 c1 s2 ha hq hm hd e1 e2 e4 e5 hnx hG hS hGx z0 z1 hbit
  obtain ⟨z2, hz2⟩ : ∃ z2, hiL z bit = z2 := ⟨_, rfl⟩
  obtain ⟨y2, hy2⟩ : ∃ y2, nextI (y : Int) bit = y2 := ⟨_, rfl⟩
  rw [hz2] at E4 ⊢
  rw [hy2] at HNX ⊢
  clear hz2 hy2
  go_enter Try.func100, Try.ntmps100
  go_upto_region 0 with fail
  refine wp_region_held_drew (S := (fun W : World => W.cell? ⟨g, 7, none⟩ = some (.int .u32 h) ∧ W.cell? ⟨g, 1, none⟩ = some (.int .i64 (s : Int)) ∧ W.cell? ⟨B, 1, none⟩ = some (.int .i64 c) ∧ W.cell? ⟨g, 8, none⟩ = some (.slice (some ⟨gs, 0, none⟩) n cp) ∧ W.cell? ⟨gs, a, none⟩ = some (.int .u8 (y : Int)) ∧ Below w.heap.size w W)) (by kernel_rfl) (HF.out _ (below_drewN HL.out 1)) (fun hHeld => ?_)
  refine tkz (i := 0) (d := 9) rfl rfl ?_
  simp only [Act.put, zzA, zzB, zzC]
  refine tkz (i := 1) (d := 10) rfl rfl ?_
  simp only [Act.put, zzA, zzB, zzC]
  refine tkz (i := 2) (d := 11) rfl rfl ?_
  simp only [Act.put, zzA, zzB, zzC]
  refine tkz (i := 3) (d := 12) rfl rfl ?_
  simp only [Act.put, zzA, zzB, zzC]
  refine tkz (i := 4) (d := 13) rfl rfl ?_
  simp only [Act.put, zzA, zzB, zzC]
  refine tkz (i := 5) (d := 14) rfl rfl ?_
  simp only [Act.put, zzA, zzB, zzC]
  refine tkz (i := 6) (d := 15) rfl rfl ?_
  simp only [Act.put, zzA, zzB, zzC]
  refine tkz (i := 7) (d := 16) rfl rfl ?_
  simp only [Act.put, zzA, zzB, zzC]
  refine rdz (i := 8) rfl (fun K hK => ?_)
  go_simp
  refine (HAT.out _ hHeld).mono ?_
  rintro e w1 ⟨rfl, hb⟩
  have HB1 := Lib.hid hb
  go_wp2_with fail
  refine hK.out _ _ (HF.out _ (bl_step (hHeld.2.2.2.2.2) hb)) (fun hHeld => ?_)
  clear hK K
  try simp only [Act.put, zzA, zzB, zzC]
  refine tkz (i := 9) (d := 18) rfl rfl ?_
  simp only [Act.put, zzA, zzB, zzC]
  refine tkz (i := 10) (d := 8) rfl rfl ?_
  simp only [Act.put, zzA, zzB, zzC]
  refine wpAnyH_done (by kernel_rfl) ?_ _
  have hbl : Below w.heap.size w w1 := (below_drewN (Below.refl w.heap.size w) 1).trans HB1.out
  have hG1 : Blk w1.drew g 95 G := Blk.drew (HG.out.below hbl)
  have hS1 : Blk w1.drew gs 5 (octs l).toArray := Blk.drew (HS.out.below hbl)
  have z1c : w1.cell? ⟨g, 9 + y, none⟩ = some (.int .i64 z) := (hG1.cell (9 + y)).trans HGX.out
  have z1f : w1.frozen? ⟨g, 9 + y, none⟩ = false := hG1.frozen (9 + y)
  have y1c : w1.cell? ⟨gs, a, none⟩ = some (.int .u8 (y : Int)) := hHeld.2.2.2.2.1
  have y1f : w1.frozen? ⟨gs, a, none⟩ = false := hS1.frozen a
  have hFR : Frm (fun b => b = g ∨ b = gs) w w1.drew := (Frm.of_below hbl).drew
  have HG1 := Lib.hid hG1
  have HS1 := Lib.hid hS1
  have HFR := Lib.hid hFR
  clear hG1 hS1 hFR hbl hHeld
  go_upto_region 1 with fail
  have e1 := E1.out
  have e2 := E2.out
  have e4 := E4.out
  have e5 := E5.out
  go_still_tail 24, (by kernel_rfl)
  change wpList _ _ _ _ _ w1.drew
  clear e1 e2 e4 e5
  replace z1c : w1.drew.cell? ⟨g, 9 + y, none⟩ = some (.int .i64 z) := z1c
  replace z1f : w1.drew.frozen? ⟨g, 9 + y, none⟩ = false := z1f
  replace y1c : w1.drew.cell? ⟨gs, a, none⟩ = some (.int .u8 (y : Int)) := y1c
  replace y1f : w1.drew.frozen? ⟨gs, a, none⟩ = false := y1f
  generalize w1.drew = W at *
  go_wp2_with fail
  refine (HNX.out _).mono ?_
  rintro e w5 ⟨rfl, rfl⟩
  go_wp2
  refine bodyPost_ret (v := .tuple #[]) (by simp [results, Try.results100, go_sem]) rfl ?_
  have k1 := (HG1.out.set (9 + y) (.int .i64 z2)).far (p := ⟨gs, a, none⟩) (fun h => hne h) (.int .u8 y2)
  have k2 := (HS1.out.far (p := ⟨g, 9 + y, none⟩) (fun h => hne h.symm) (.int .i64 z2)).set a (.int .u8 y2)
  rw [octs_set] at k2
  exact ⟨rfl, k1, k2, (HFR.out.setCell (p := ⟨g, 9 + y, none⟩) (fun _ => .inl rfl) _).setCell (p := ⟨gs, a, none⟩) (fun _ => .inr rfl) _⟩
end Go.Proofs.Ytnohfeaamfjimaa
namespace Go.Proofs.Ytnohfeaamfjimaa
open Go.RowKit Go.WideShapes
set_option linter.unusedVariables false
set_option linter.unusedSimpArgs false
set_option maxRecDepth 100000 in
set_option maxHeartbeats 4000000 in
theorem lean107 (g B : Nat) (g2 m cm p q : Nat) (x y : Int) (C : Int) (w : World) (hp : p < m) (hq : q < m) (hm : m ≤ 1000) (x0 : -2047 ≤ x) (x1 : x ≤ 2047) (y0 : -2047 ≤ y) (y1 : y ≤ 2047) (c0 : 0 ≤ C) (c1 : C ≤ 256) (k4 : w.cell? ⟨g, 4, none⟩ = some (.int .i64 C)) (l4 : w.cell? ⟨B, 4, none⟩ = some (.slice (some ⟨g2, 0, none⟩) m cm)) (k2 : w.cell? ⟨g, 2, none⟩ = some (.int .i64 (p : Int))) (k3 : w.cell? ⟨g, 3, none⟩ = some (.int .i64 (q : Int))) (lx : w.cell? ⟨g2, p, none⟩ = some (.int .i64 x)) (ly : w.cell? ⟨g2, q, none⟩ = some (.int .i64 y)) :
    Calls Try.prog 107 #[.pointer (some ⟨g, 0, none⟩), .pointer (some ⟨B, 1, none⟩)] w (Quiet (.int .i64 ((C * x + (256 - C) * y) / 256)) w) := by
  have HL := Lib.hid (show Below w.heap.size w w from Below.refl _ _)
  have HF := Lib.hid (show ∀ W : World, Below w.heap.size w W → W.cell? ⟨g, 4, none⟩ = some (.int .i64 C) ∧ W.cell? ⟨B, 4, none⟩ = some (.slice (some ⟨g2, 0, none⟩) m cm) ∧ W.cell? ⟨g, 2, none⟩ = some (.int .i64 (p : Int)) ∧ W.cell? ⟨g, 3, none⟩ = some (.int .i64 (q : Int)) ∧ W.cell? ⟨g2, p, none⟩ = some (.int .i64 x) ∧ W.cell? ⟨g2, q, none⟩ = some (.int .i64 y) ∧ Below w.heap.size w W from fun W hL => ⟨ck k4 hL, ck l4 hL, ck k2 hL, ck k3 hL, ck lx hL, ck ly hL, hL⟩)
  have HTW := Lib.hid (show ∀ W : World, (W.cell? ⟨g, 4, none⟩ = some (.int .i64 C) ∧ W.cell? ⟨B, 4, none⟩ = some (.slice (some ⟨g2, 0, none⟩) m cm) ∧ W.cell? ⟨g, 2, none⟩ = some (.int .i64 (p : Int)) ∧ W.cell? ⟨g, 3, none⟩ = some (.int .i64 (q : Int)) ∧ W.cell? ⟨g2, p, none⟩ = some (.int .i64 x) ∧ W.cell? ⟨g2, q, none⟩ = some (.int .i64 y) ∧ Below w.heap.size w W) → Calls Try.prog 108 #[.pointer (some ⟨g, 0, none⟩), .pointer (some ⟨B, 1, none⟩)] W (Quiet (.tuple #[.int .i64 x, .int .i64 y]) W) from fun W hW => two_any g B p q x y g2 m cm W (hW.2.1) (hW.2.2.1) (hW.2.2.2.1) hp hq (hW.2.2.2.2.1) (hW.2.2.2.2.2.1) hm)
  have h1 := mulB (a := C) (b := x) (A := 256) (B := 2047) (by omega) c1 x0 x1
  have h2 := mulB (a := 256 - C) (b := y) (A := 256) (B := 2047) (by omega) (by omega) y0 y1
  have e1 := IntWalk.i64_in (C * x) (by omega)
  have e2 := IntWalk.i64_in (256 - C) (by omega)
  have e3 := IntWalk.i64_in ((256 - C) * y) (by omega)
  have e4 := IntWalk.i64_in (C * x + (256 - C) * y) (by omega)
  have E1 := Lib.hid e1
  have E2 := Lib.hid e2
  have E3 := Lib.hid e3
  have E4 := Lib.hid e4
  clear h1 h2 e1 e2 e3 e4 x0 x1 y0 y1 c0 c1
  go_enter Try.func107, Try.ntmps107
  go_wp2_with fail
  refine (HTW.out _ (HF.out _ HL.out)).mono ?_
  rintro e w1 ⟨rfl, hb⟩
  have HB1 := Lib.hid hb
  go_upto_region 2 with fail
  have hk4 := (HF.out w1 HB1.out).1
  have e1 := E1.out
  have e2 := E2.out
  have e3 := E3.out
  have e4 := E4.out
  clear hb
  go_quiet (fail)
  clear e1 e2 e3 e4
  go_wp2
  go_ret
  exact ⟨rfl, below_drewN HB1.out nq⟩
set_option maxRecDepth 100000 in
set_option maxHeartbeats 4000000 in
theorem lean109 (g B gt n cp : Nat) (g2 m cm p q : Nat) (x y : Int) (h c v : Int) (s a : Nat) (w : World) (h0 : 0 ≤ h) (h1 : h ≤ 4294967295) (c0 : 0 ≤ c) (c1 : c ≤ 255) (s2 : s ≤ 16) (ha : placeI h c s = (a : Int)) (hn : a < n) (hn2 : n ≤ 3000000) (hp : p < m) (hq : q < m) (hm : m ≤ 1000) (x0 : -2047 ≤ x) (x1 : x ≤ 2047) (y0 : -2047 ≤ y) (y1 : y ≤ 2047) (v0 : 0 ≤ v) (v1 : v ≤ 65535) (k7 : w.cell? ⟨g, 7, none⟩ = some (.int .u32 h)) (k1 : w.cell? ⟨g, 1, none⟩ = some (.int .i64 (s : Int))) (b1 : w.cell? ⟨B, 1, none⟩ = some (.int .i64 c)) (k8 : w.cell? ⟨g, 8, none⟩ = some (.slice (some ⟨gt, 0, none⟩) n cp)) (t0 : w.cell? ⟨gt, a, none⟩ = some (.int .i64 v)) (l4 : w.cell? ⟨B, 4, none⟩ = some (.slice (some ⟨g2, 0, none⟩) m cm)) (k2 : w.cell? ⟨g, 2, none⟩ = some (.int .i64 (p : Int))) (k3 : w.cell? ⟨g, 3, none⟩ = some (.int .i64 (q : Int))) (lx : w.cell? ⟨g2, p, none⟩ = some (.int .i64 x)) (ly : w.cell? ⟨g2, q, none⟩ = some (.int .i64 y)) :
    Calls Try.prog 109 #[.pointer (some ⟨g, 0, none⟩), .pointer (some ⟨B, 1, none⟩)] w (Quiet (.int .i64 ((v * x + (65536 - v) * y) / 65536)) w) := by
  have HL := Lib.hid (show Below w.heap.size w w from Below.refl _ _)
  have HF := Lib.hid (show ∀ W : World, Below w.heap.size w W → W.cell? ⟨g, 7, none⟩ = some (.int .u32 h) ∧ W.cell? ⟨g, 1, none⟩ = some (.int .i64 (s : Int)) ∧ W.cell? ⟨B, 1, none⟩ = some (.int .i64 c) ∧ W.cell? ⟨g, 8, none⟩ = some (.slice (some ⟨gt, 0, none⟩) n cp) ∧ W.cell? ⟨gt, a, none⟩ = some (.int .i64 v) ∧ W.cell? ⟨B, 4, none⟩ = some (.slice (some ⟨g2, 0, none⟩) m cm) ∧ W.cell? ⟨g, 2, none⟩ = some (.int .i64 (p : Int)) ∧ W.cell? ⟨g, 3, none⟩ = some (.int .i64 (q : Int)) ∧ W.cell? ⟨g2, p, none⟩ = some (.int .i64 x) ∧ W.cell? ⟨g2, q, none⟩ = some (.int .i64 y) ∧ Below w.heap.size w W from fun W hL => ⟨ck k7 hL, ck k1 hL, ck b1 hL, ck k8 hL, ck t0 hL, ck l4 hL, ck k2 hL, ck k3 hL, ck lx hL, ck ly hL, hL⟩)
  have HTW := Lib.hid (show ∀ W : World, (W.cell? ⟨g, 7, none⟩ = some (.int .u32 h) ∧ W.cell? ⟨g, 1, none⟩ = some (.int .i64 (s : Int)) ∧ W.cell? ⟨B, 1, none⟩ = some (.int .i64 c) ∧ W.cell? ⟨g, 8, none⟩ = some (.slice (some ⟨gt, 0, none⟩) n cp) ∧ W.cell? ⟨gt, a, none⟩ = some (.int .i64 v) ∧ W.cell? ⟨B, 4, none⟩ = some (.slice (some ⟨g2, 0, none⟩) m cm) ∧ W.cell? ⟨g, 2, none⟩ = some (.int .i64 (p : Int)) ∧ W.cell? ⟨g, 3, none⟩ = some (.int .i64 (q : Int)) ∧ W.cell? ⟨g2, p, none⟩ = some (.int .i64 x) ∧ W.cell? ⟨g2, q, none⟩ = some (.int .i64 y) ∧ Below w.heap.size w W) → Calls Try.prog 108 #[.pointer (some ⟨g, 0, none⟩), .pointer (some ⟨B, 1, none⟩)] W (Quiet (.tuple #[.int .i64 x, .int .i64 y]) W) from fun W hW => two_any g B p q x y g2 m cm W (hW.2.2.2.2.2.1) (hW.2.2.2.2.2.2.1) (hW.2.2.2.2.2.2.2.1) hp hq (hW.2.2.2.2.2.2.2.2.1) (hW.2.2.2.2.2.2.2.2.2.1) hm)
  have HAT := Lib.hid (show ∀ W : World, (W.cell? ⟨g, 7, none⟩ = some (.int .u32 h) ∧ W.cell? ⟨g, 1, none⟩ = some (.int .i64 (s : Int)) ∧ W.cell? ⟨B, 1, none⟩ = some (.int .i64 c) ∧ W.cell? ⟨g, 8, none⟩ = some (.slice (some ⟨gt, 0, none⟩) n cp) ∧ W.cell? ⟨gt, a, none⟩ = some (.int .i64 v) ∧ W.cell? ⟨B, 4, none⟩ = some (.slice (some ⟨g2, 0, none⟩) m cm) ∧ W.cell? ⟨g, 2, none⟩ = some (.int .i64 (p : Int)) ∧ W.cell? ⟨g, 3, none⟩ = some (.int .i64 (q : Int)) ∧ W.cell? ⟨g2, p, none⟩ = some (.int .i64 x) ∧ W.cell? ⟨g2, q, none⟩ = some (.int .i64 y) ∧ Below w.heap.size w W) → Calls Try.prog 95 #[.pointer (some ⟨g, 0, none⟩), .pointer (some ⟨B, 1, none⟩)] W (Quiet (.int .i64 (a : Int)) W) from fun W hW => ha ▸ atU_any g B h c s W h0 h1 c0 c1 s2 (hW.1) (hW.2.1) (hW.2.2.1))
  have g1 := mulB (a := v) (b := x) (A := 65536) (B := 2047) (by omega) (by omega) x0 x1
  have g3 := mulB (a := 65536 - v) (b := y) (A := 65536) (B := 2047) (by omega) (by omega) y0 y1
  have G1 := Lib.hid g1
  have G3 := Lib.hid g3
  clear g1 g3 x0 x1 y0 y1 h0 h1 c0 c1 s2 ha
  go_enter Try.func109, Try.ntmps109
  go_wp2_with fail
  refine (HTW.out _ (HF.out _ HL.out)).mono ?_
  rintro e w1 ⟨rfl, hb⟩
  have HB1 := Lib.hid hb
  clear hb
  go_upto_region 2 with fail
  refine wp_region_held_drew (S := (fun W : World => W.cell? ⟨g, 7, none⟩ = some (.int .u32 h) ∧ W.cell? ⟨g, 1, none⟩ = some (.int .i64 (s : Int)) ∧ W.cell? ⟨B, 1, none⟩ = some (.int .i64 c) ∧ W.cell? ⟨g, 8, none⟩ = some (.slice (some ⟨gt, 0, none⟩) n cp) ∧ W.cell? ⟨gt, a, none⟩ = some (.int .i64 v) ∧ W.cell? ⟨B, 4, none⟩ = some (.slice (some ⟨g2, 0, none⟩) m cm) ∧ W.cell? ⟨g, 2, none⟩ = some (.int .i64 (p : Int)) ∧ W.cell? ⟨g, 3, none⟩ = some (.int .i64 (q : Int)) ∧ W.cell? ⟨g2, p, none⟩ = some (.int .i64 x) ∧ W.cell? ⟨g2, q, none⟩ = some (.int .i64 y) ∧ Below w.heap.size w W)) (by kernel_rfl) (HF.out _ (below_drewN (HB1.out) 1)) (fun hHeld => ?_)
  refine tkz (i := 0) (d := 16) rfl rfl ?_
  simp only [Act.put, zzA, zzB, zzC]
  refine tkz (i := 1) (d := 17) rfl rfl ?_
  simp only [Act.put, zzA, zzB, zzC]
  refine tkz (i := 2) (d := 18) rfl rfl ?_
  simp only [Act.put, zzA, zzB, zzC]
  refine tkz (i := 3) (d := 19) rfl rfl ?_
  simp only [Act.put, zzA, zzB, zzC]
  refine tkz (i := 4) (d := 20) rfl rfl ?_
  simp only [Act.put, zzA, zzB, zzC]
  refine tkz (i := 5) (d := 21) rfl rfl ?_
  simp only [Act.put, zzA, zzB, zzC]
  refine tkz (i := 6) (d := 22) rfl rfl ?_
  simp only [Act.put, zzA, zzB, zzC]
  refine tkz (i := 7) (d := 23) rfl rfl ?_
  simp only [Act.put, zzA, zzB, zzC]
  refine rdz (i := 8) rfl (fun K hK => ?_)
  go_simp
  refine (HAT.out _ hHeld).mono ?_
  rintro e w2 ⟨rfl, hb⟩
  go_wp2_with fail
  refine hK.out _ _ (HF.out _ (bl_step (hHeld.2.2.2.2.2.2.2.2.2.2) hb)) (fun hHeld => ?_)
  clear hK K
  try simp only [Act.put, zzA, zzB, zzC]
  refine tkz (i := 9) (d := 25) rfl rfl ?_
  simp only [Act.put, zzA, zzB, zzC]
  refine tkz (i := 10) (d := 26) rfl rfl ?_
  simp only [Act.put, zzA, zzB, zzC]
  refine tkz (i := 11) (d := 7) rfl rfl ?_
  simp only [Act.put, zzA, zzB, zzC]
  refine wpAnyH_done (by kernel_rfl) ?_ _
  have g1 := G1.out
  have g3 := G3.out
  go_wp2
  go_ret
  exact ⟨rfl, hHeld.2.2.2.2.2.2.2.2.2.2⟩
end Go.Proofs.Ytnohfeaamfjimaa
namespace Go.Proofs.Ytnohfeaamfjimaa
open Go.RowKit Go.WideShapes
set_option linter.unusedVariables false
set_option linter.unusedSimpArgs false
structure PutI (g : Nat) (t : TypeId) (cs : Array Value) (w0 : World) (e : Ending) (w : World) : Prop where
  ret : e = .returned (.tuple #[])
  blk : Blk w g t cs
  frm : Frm (fun b => b = g) w0 w
def paL (v E r x y : Int) : Int := intoI (v + (E * r * (x - y) + 512) / 1024) 0 65535
set_option maxRecDepth 100000 in
set_option maxHeartbeats 4000000 in
theorem learn110 (g B gt n cp : Nat) (g2 m cm p q : Nat) (x y : Int) (h c v d bit r : Int) (l : List Int) (s a : Nat) (w : World) (h0 : 0 ≤ h) (h1 : h ≤ 4294967295) (c0 : 0 ≤ c) (c1 : c ≤ 255) (s2 : s ≤ 16) (ha : placeI h c s = (a : Int)) (hn : a < n) (hn2 : n ≤ 3000000) (hp : p < m) (hq : q < m) (hm : m ≤ 1000) (x0 : -2047 ≤ x) (x1 : x ≤ 2047) (y0 : -2047 ≤ y) (y1 : y ≤ 2047) (v0 : 0 ≤ v) (v1 : v ≤ 65535) (r0 : 1 ≤ r) (r1 : r ≤ 64) (hbit : bit = 0 ∨ bit = 1) (E : Int) (hE : 4095 * bit - sqI d = E) (hB : Blk w gt 3 (ints l).toArray) (hv : l[a]? = some v) (ng : ¬ g = gt) (k5 : w.cell? ⟨g, 5, none⟩ = some (.int .i64 r)) (k7 : w.cell? ⟨g, 7, none⟩ = some (.int .u32 h)) (k1 : w.cell? ⟨g, 1, none⟩ = some (.int .i64 (s : Int))) (b1 : w.cell? ⟨B, 1, none⟩ = some (.int .i64 c)) (k8 : w.cell? ⟨g, 8, none⟩ = some (.slice (some ⟨gt, 0, none⟩) n cp)) (l4 : w.cell? ⟨B, 4, none⟩ = some (.slice (some ⟨g2, 0, none⟩) m cm)) (k2 : w.cell? ⟨g, 2, none⟩ = some (.int .i64 (p : Int))) (k3 : w.cell? ⟨g, 3, none⟩ = some (.int .i64 (q : Int))) (lx : w.cell? ⟨g2, p, none⟩ = some (.int .i64 x)) (ly : w.cell? ⟨g2, q, none⟩ = some (.int .i64 y)) :
    Calls Try.prog 110 #[.pointer (some ⟨g, 0, none⟩), .pointer (some ⟨B, 1, none⟩), .int .i64 d, .int .i64 bit] w (PutI gt 3 (ints (l.set a (paL v E r x y))).toArray w) := by
  have HL := Lib.hid (show Below w.heap.size w w from Below.refl _ _)
  have HF := Lib.hid (show ∀ W : World, Below w.heap.size w W → W.cell? ⟨g, 7, none⟩ = some (.int .u32 h) ∧ W.cell? ⟨g, 1, none⟩ = some (.int .i64 (s : Int)) ∧ W.cell? ⟨B, 1, none⟩ = some (.int .i64 c) ∧ W.cell? ⟨g, 8, none⟩ = some (.slice (some ⟨gt, 0, none⟩) n cp) ∧ W.cell? ⟨B, 4, none⟩ = some (.slice (some ⟨g2, 0, none⟩) m cm) ∧ W.cell? ⟨g, 2, none⟩ = some (.int .i64 (p : Int)) ∧ W.cell? ⟨g, 3, none⟩ = some (.int .i64 (q : Int)) ∧ W.cell? ⟨g2, p, none⟩ = some (.int .i64 x) ∧ W.cell? ⟨g2, q, none⟩ = some (.int .i64 y) ∧ Below w.heap.size w W from fun W hL => ⟨ck k7 hL, ck k1 hL, ck b1 hL, ck k8 hL, ck l4 hL, ck k2 hL, ck k3 hL, ck lx hL, ck ly hL, hL⟩)
  have HG := Lib.hid (show ∀ W : World, Frm (fun b => b = gt) w W → W.cell? ⟨g, 5, none⟩ = some (.int .i64 r) ∧ Frm (fun b => b = gt) w W from fun W hL => ⟨(hL.cell (block_lt_of_cell k5) (ng)).trans k5, hL⟩)
  have HTW := Lib.hid (show ∀ W : World, (W.cell? ⟨g, 7, none⟩ = some (.int .u32 h) ∧ W.cell? ⟨g, 1, none⟩ = some (.int .i64 (s : Int)) ∧ W.cell? ⟨B, 1, none⟩ = some (.int .i64 c) ∧ W.cell? ⟨g, 8, none⟩ = some (.slice (some ⟨gt, 0, none⟩) n cp) ∧ W.cell? ⟨B, 4, none⟩ = some (.slice (some ⟨g2, 0, none⟩) m cm) ∧ W.cell? ⟨g, 2, none⟩ = some (.int .i64 (p : Int)) ∧ W.cell? ⟨g, 3, none⟩ = some (.int .i64 (q : Int)) ∧ W.cell? ⟨g2, p, none⟩ = some (.int .i64 x) ∧ W.cell? ⟨g2, q, none⟩ = some (.int .i64 y) ∧ Below w.heap.size w W) → Calls Try.prog 108 #[.pointer (some ⟨g, 0, none⟩), .pointer (some ⟨B, 1, none⟩)] W (Quiet (.tuple #[.int .i64 x, .int .i64 y]) W) from fun W hW => two_any g B p q x y g2 m cm W (hW.2.2.2.2.1) (hW.2.2.2.2.2.1) (hW.2.2.2.2.2.2.1) hp hq (hW.2.2.2.2.2.2.2.1) (hW.2.2.2.2.2.2.2.2.1) hm)
  have HAT := Lib.hid (show ∀ W : World, (W.cell? ⟨g, 7, none⟩ = some (.int .u32 h) ∧ W.cell? ⟨g, 1, none⟩ = some (.int .i64 (s : Int)) ∧ W.cell? ⟨B, 1, none⟩ = some (.int .i64 c) ∧ W.cell? ⟨g, 8, none⟩ = some (.slice (some ⟨gt, 0, none⟩) n cp) ∧ W.cell? ⟨B, 4, none⟩ = some (.slice (some ⟨g2, 0, none⟩) m cm) ∧ W.cell? ⟨g, 2, none⟩ = some (.int .i64 (p : Int)) ∧ W.cell? ⟨g, 3, none⟩ = some (.int .i64 (q : Int)) ∧ W.cell? ⟨g2, p, none⟩ = some (.int .i64 x) ∧ W.cell? ⟨g2, q, none⟩ = some (.int .i64 y) ∧ Below w.heap.size w W) → Calls Try.prog 95 #[.pointer (some ⟨g, 0, none⟩), .pointer (some ⟨B, 1, none⟩)] W (Quiet (.int .i64 (a : Int)) W) from fun W hW => ha ▸ atU_any g B h c s W h0 h1 c0 c1 s2 (hW.1) (hW.2.1) (hW.2.2.1))
  have hE2 : -4095 ≤ E ∧ E ≤ 4095 := by have := sq_bd d; omega
  have HMI := Lib.hid (show ∀ W : World, Calls Try.prog 94 #[.pointer (some ⟨g, 0, none⟩), .int .i64 d, .int .i64 bit] W (Quiet (.int .i64 E) W) from fun W => hE ▸ miss_any g d bit W hbit)
  have g1 := mulB (a := E) (b := r) (A := 4095) (B := 64) (by omega) (by omega) (by omega) r1
  have g2x : -4094 ≤ x - y ∧ x - y ≤ 4094 := by omega
  have g3 := mulB (a := E * r) (b := x - y) (A := 262080) (B := 4094) (by omega) (by omega) (by omega) (by omega)
  have e1 := IntWalk.i64_in (E * r) (by omega)
  have e2 := IntWalk.i64_in (x - y) (by omega)
  have e3 := IntWalk.i64_in (E * r * (x - y)) (by omega)
  have e4 := IntWalk.i64_in (E * r * (x - y) + 512) (by omega)
  have e5 := IntWalk.i64_in (v + (E * r * (x - y) + 512) / 1024) (by omega)
  have E1 := Lib.hid e1
  have E2 := Lib.hid e2
  have E3 := Lib.hid e3
  have E4 := Lib.hid e4
  have E5 := Lib.hid e5
  have HBK := Lib.hid hB
  have HV := Lib.hid hv
  have hR : paL v E r x y = intoI (v + (E * r * (x - y) + 512) / 1024) 0 65535 := rfl
  obtain ⟨R, hR2⟩ : ∃ R, paL v E r x y = R := ⟨_, rfl⟩
  rw [hR2] at hR ⊢
  have HR := Lib.hid hR
  clear g1 g2x g3 e1 e2 e3 e4 e5 x0 x1 y0 y1 h0 h1 c0 c1 s2 ha hB hv hE hE2 hbit r0 r1 v0 v1 hR2 hR
  go_enter Try.func110, Try.ntmps110
  go_wp2_with fail
  refine (HTW.out _ (HF.out _ HL.out)).mono ?_
  rintro e w1 ⟨rfl, hb⟩
  have HB1 := Lib.hid hb
  clear hb
  go_upto_region 1 with fail
  refine wp_region_held_drew (S := (fun W : World => W.cell? ⟨g, 7, none⟩ = some (.int .u32 h) ∧ W.cell? ⟨g, 1, none⟩ = some (.int .i64 (s : Int)) ∧ W.cell? ⟨B, 1, none⟩ = some (.int .i64 c) ∧ W.cell? ⟨g, 8, none⟩ = some (.slice (some ⟨gt, 0, none⟩) n cp) ∧ W.cell? ⟨B, 4, none⟩ = some (.slice (some ⟨g2, 0, none⟩) m cm) ∧ W.cell? ⟨g, 2, none⟩ = some (.int .i64 (p : Int)) ∧ W.cell? ⟨g, 3, none⟩ = some (.int .i64 (q : Int)) ∧ W.cell? ⟨g2, p, none⟩ = some (.int .i64 x) ∧ W.cell? ⟨g2, q, none⟩ = some (.int .i64 y) ∧ Below w.heap.size w W)) (by kernel_rfl) (HF.out _ (below_drewN (HB1.out) 1)) (fun hHeld => ?_)
  refine tkz (i := 0) (d := 19) rfl rfl ?_
  simp only [Act.put, zzA, zzB, zzC]
  refine tkz (i := 1) (d := 20) rfl rfl ?_
  simp only [Act.put, zzA, zzB, zzC]
  refine tkz (i := 2) (d := 21) rfl rfl ?_
  simp only [Act.put, zzA, zzB, zzC]
  refine tkz (i := 3) (d := 22) rfl rfl ?_
  simp only [Act.put, zzA, zzB, zzC]
  refine tkz (i := 4) (d := 23) rfl rfl ?_
  simp only [Act.put, zzA, zzB, zzC]
  refine tkz (i := 5) (d := 24) rfl rfl ?_
  simp only [Act.put, zzA, zzB, zzC]
  refine tkz (i := 6) (d := 25) rfl rfl ?_
  simp only [Act.put, zzA, zzB, zzC]
  refine tkz (i := 7) (d := 26) rfl rfl ?_
  simp only [Act.put, zzA, zzB, zzC]
  refine rdz (i := 8) rfl (fun K hK => ?_)
  go_simp
  refine (HAT.out _ hHeld).mono ?_
  rintro e w2 ⟨rfl, hb⟩
  go_wp2_with fail
  refine hK.out _ _ (HF.out _ (bl_step (hHeld.2.2.2.2.2.2.2.2.2) hb)) (fun hHeld => ?_)
  clear hK K
  try simp only [Act.put, zzA, zzB, zzC]
  refine tkz (i := 9) (d := 28) rfl rfl ?_
  simp only [Act.put, zzA, zzB, zzC]
  refine tkz (i := 10) (d := 10) rfl rfl ?_
  simp only [Act.put, zzA, zzB, zzC]
  refine wpAnyH_done (by kernel_rfl) ?_ _
  have HB2 := Lib.hid (hHeld.2.2.2.2.2.2.2.2.2)
  clear hHeld
  have HBK2 := Lib.hid (Blk.drew (HBK.out.below HB2.out))
  have q2 := (HBK2.out.cell a).trans (ints_at HV.out)
  have z2 := HBK2.out.frozen a
  have HFR := Lib.hid (show Frm (fun b => b = gt) w w2 from Frm.of_below HB2.out)
  go_upto_region 2 with fail
  have e1 := E1.out
  have e2 := E2.out
  have e3 := E3.out
  have e4 := E4.out
  have e5 := E5.out
  have hR := HR.out
  refine wp_region_held_drew (S := (fun W : World => W.cell? ⟨g, 5, none⟩ = some (.int .i64 r) ∧ Frm (fun b => b = gt) w W)) (by kernel_rfl) (HG.out _ ((HFR.out).drew)) (fun hHeld => ?_)
  refine tkz (i := 0) (d := 29) rfl rfl ?_
  simp only [Act.put, zzA, zzB, zzC]
  refine tkz (i := 1) (d := 30) rfl rfl ?_
  simp only [Act.put, zzA, zzB, zzC]
  refine tkz (i := 2) (d := 31) rfl rfl ?_
  simp only [Act.put, zzA, zzB, zzC]
  refine tkz (i := 4) (d := 33) rfl rfl ?_
  simp only [Act.put, zzA, zzB, zzC]
  refine tkz (i := 5) (d := 34) rfl rfl ?_
  simp only [Act.put, zzA, zzB, zzC]
  refine tkz (i := 6) (d := 35) rfl rfl ?_
  simp only [Act.put, zzA, zzB, zzC]
  refine tkz (i := 7) (d := 36) rfl rfl ?_
  simp only [Act.put, zzA, zzB, zzC]
  refine tkz (i := 8) (d := 37) rfl rfl ?_
  simp only [Act.put, zzA, zzB, zzC]
  refine tkz (i := 10) (d := 39) rfl rfl ?_
  simp only [Act.put, zzA, zzB, zzC]
  refine tkz (i := 11) (d := 40) rfl rfl ?_
  simp only [Act.put, zzA, zzB, zzC]
  refine tkz (i := 12) (d := 41) rfl rfl ?_
  simp only [Act.put, zzA, zzB, zzC]
  refine tkz (i := 13) (d := 42) rfl rfl ?_
  simp only [Act.put, zzA, zzB, zzC]
  refine tkz (i := 14) (d := 43) rfl rfl ?_
  simp only [Act.put, zzA, zzB, zzC]
  refine tkz (i := 15) (d := 44) rfl rfl ?_
  simp only [Act.put, zzA, zzB, zzC]
  refine tkz (i := 17) (d := 46) rfl rfl ?_
  simp only [Act.put, zzA, zzB, zzC]
  refine tkz (i := 18) (d := 47) rfl rfl ?_
  simp only [Act.put, zzA, zzB, zzC]
  refine tkz (i := 19) (d := 48) rfl rfl ?_
  simp only [Act.put, zzA, zzB, zzC]
  refine wpAnyH_ready (rs := [3, 9]) (by kernel_rfl) (by simp) ?_
  refine AllReadyH.cons (o := _) rfl (fun K hK => ?_) (AllReadyH.cons (o := _) rfl (fun K hK => ?_) AllReadyH.nil)
  · go_simp
    refine hK.out _ _ hHeld (fun hHeld => ?_)
    clear hK K
    try simp only [Act.put, zzA, zzB, zzC]
    refine rdz (i := 9) rfl (fun K hK => ?_)
    go_simp
    refine (HMI.out _).mono ?_
    rintro e w3 ⟨rfl, hb⟩
    have HBK3 := Lib.hid (HBK2.out.below hb)
    have q3 := (HBK3.out.cell a).trans (ints_at HV.out)
    have z3 := HBK3.out.frozen a
    go_wp2_with fail
    refine hK.out _ _ (HG.out _ ((hHeld.2).below hb)) (fun hHeld => ?_)
    clear hK K
    try simp only [Act.put, zzA, zzB, zzC]
    refine tkz (i := 16) (d := 45) rfl rfl ?_
    simp only [Act.put, zzA, zzB, zzC]
    refine tkz (i := 20) (d := 49) rfl rfl ?_
    simp only [Act.put, zzA, zzB, zzC]
    refine tkz (i := 21) (d := 50) rfl rfl ?_
    simp only [Act.put, zzA, zzB, zzC]
    refine tkz (i := 22) (d := 51) rfl rfl ?_
    simp only [Act.put, zzA, zzB, zzC]
    refine tkz (i := 23) (d := 52) rfl rfl ?_
    simp only [Act.put, zzA, zzB, zzC]
    refine rdz (i := 24) rfl (fun K hK => ?_)
    go_simp
    refine (into_any _ _ _ _).mono ?_
    rintro e w9 ⟨rfl, rfl⟩
    go_wp2_with fail
    refine hK.out _ _ hHeld (fun hHeld => ?_)
    clear hK K
    try simp only [Act.put, zzA, zzB, zzC]
    refine tkz (i := 25) (d := 54) rfl rfl ?_
    simp only [Act.put, zzA, zzB, zzC]
    refine rdz (i := 26) rfl (fun K hK => ?_)
    go_simp
    refine hK.out _ _ (HG.out _ ((hHeld.2).setCell (p := ⟨gt, a, none⟩) (fun _ => rfl) _)) (fun hHeld => ?_)
    clear hK K
    try simp only [Act.put, zzA, zzB, zzC]
    refine wpAnyH_done (by kernel_rfl) ?_ _
    go_wp2
    refine bodyPost_ret (v := .tuple #[]) (by simp [results, Try.results110, go_sem]) rfl ?_
    have hk := HBK3.out.set a (.int .i64 (intoI (v + (E * r * (x - y) + 512) / 1024) 0 65535))
    rw [ints_set] at hk
    rw [← hR] at hk ⊢
    exact ⟨rfl, hk, by rw [hR]; exact hHeld.2⟩
  · go_simp
    refine (HMI.out _).mono ?_
    rintro e w3 ⟨rfl, hb⟩
    have HBK3 := Lib.hid (HBK2.out.below hb)
    have q3 := (HBK3.out.cell a).trans (ints_at HV.out)
    have z3 := HBK3.out.frozen a
    go_wp2_with fail
    refine hK.out _ _ (HG.out _ ((hHeld.2).below hb)) (fun hHeld => ?_)
    clear hK K
    try simp only [Act.put, zzA, zzB, zzC]
    refine tkz (i := 16) (d := 45) rfl rfl ?_
    simp only [Act.put, zzA, zzB, zzC]
    refine tkz (i := 20) (d := 49) rfl rfl ?_
    simp only [Act.put, zzA, zzB, zzC]
    refine tkz (i := 21) (d := 50) rfl rfl ?_
    simp only [Act.put, zzA, zzB, zzC]
    refine tkz (i := 22) (d := 51) rfl rfl ?_
    simp only [Act.put, zzA, zzB, zzC]
    refine rdz (i := 3) rfl (fun K hK => ?_)
    go_simp
    refine hK.out _ _ hHeld (fun hHeld => ?_)
    clear hK K
    try simp only [Act.put, zzA, zzB, zzC]
    refine tkz (i := 23) (d := 52) rfl rfl ?_
    simp only [Act.put, zzA, zzB, zzC]
    refine rdz (i := 24) rfl (fun K hK => ?_)
    go_simp
    refine (into_any _ _ _ _).mono ?_
    rintro e w9 ⟨rfl, rfl⟩
    go_wp2_with fail
    refine hK.out _ _ hHeld (fun hHeld => ?_)
    clear hK K
    try simp only [Act.put, zzA, zzB, zzC]
    refine tkz (i := 25) (d := 54) rfl rfl ?_
    simp only [Act.put, zzA, zzB, zzC]
    refine rdz (i := 26) rfl (fun K hK => ?_)
    go_simp
    refine hK.out _ _ (HG.out _ ((hHeld.2).setCell (p := ⟨gt, a, none⟩) (fun _ => rfl) _)) (fun hHeld => ?_)
    clear hK K
    try simp only [Act.put, zzA, zzB, zzC]
    refine wpAnyH_done (by kernel_rfl) ?_ _
    go_wp2
    refine bodyPost_ret (v := .tuple #[]) (by simp [results, Try.results110, go_sem]) rfl ?_
    have hk := HBK3.out.set a (.int .i64 (intoI (v + (E * r * (x - y) + 512) / 1024) 0 65535))
    rw [ints_set] at hk
    rw [← hR] at hk ⊢
    exact ⟨rfl, hk, by rw [hR]; exact hHeld.2⟩
end Go.Proofs.Ytnohfeaamfjimaa
namespace Go.Proofs.Ytnohfeaamfjimaa
open Go.RowKit Go.WideShapes
set_option linter.unusedVariables false
set_option linter.unusedSimpArgs false
set_option maxRecDepth 100000 in
set_option maxHeartbeats 4000000 in
theorem entry119 (g B gt n cp : Nat) (g2 m cm p j : Nat) (x : Int) (h c : Int) (s a : Nat) (w : World) (h0 : 0 ≤ h) (h1 : h ≤ 4294967295) (c0 : 0 ≤ c) (c1 : c ≤ 255) (s2 : s ≤ 16) (ha : placeI h c s = (a : Int)) (hp : p < m) (hm : m ≤ 1000) (x0 : -2047 ≤ x) (x1 : x ≤ 2047) (hj : (a : Int) * 32 + (x + 2047) / 128 = (j : Int)) (hjn : j < n) (hn2 : n ≤ 3000000) (k7 : w.cell? ⟨g, 7, none⟩ = some (.int .u32 h)) (k1 : w.cell? ⟨g, 1, none⟩ = some (.int .i64 (s : Int))) (b1 : w.cell? ⟨B, 1, none⟩ = some (.int .i64 c)) (k8 : w.cell? ⟨g, 8, none⟩ = some (.slice (some ⟨gt, 0, none⟩) n cp)) (l4 : w.cell? ⟨B, 4, none⟩ = some (.slice (some ⟨g2, 0, none⟩) m cm)) (k2 : w.cell? ⟨g, 2, none⟩ = some (.int .i64 (p : Int))) (lx : w.cell? ⟨g2, p, none⟩ = some (.int .i64 x)) :
    Calls Try.prog 119 #[.pointer (some ⟨g, 0, none⟩), .pointer (some ⟨B, 1, none⟩)] w (Quiet (.pointer (some ⟨gt, j * 2, none⟩)) w) := by
  have HL := Lib.hid (show Below w.heap.size w w from Below.refl _ _)
  have HF := Lib.hid (show ∀ W : World, Below w.heap.size w W → W.cell? ⟨g, 7, none⟩ = some (.int .u32 h) ∧ W.cell? ⟨g, 1, none⟩ = some (.int .i64 (s : Int)) ∧ W.cell? ⟨B, 1, none⟩ = some (.int .i64 c) ∧ W.cell? ⟨g, 8, none⟩ = some (.slice (some ⟨gt, 0, none⟩) n cp) ∧ W.cell? ⟨B, 4, none⟩ = some (.slice (some ⟨g2, 0, none⟩) m cm) ∧ W.cell? ⟨g, 2, none⟩ = some (.int .i64 (p : Int)) ∧ W.cell? ⟨g2, p, none⟩ = some (.int .i64 x) ∧ Below w.heap.size w W from fun W hL => ⟨ck k7 hL, ck k1 hL, ck b1 hL, ck k8 hL, ck l4 hL, ck k2 hL, ck lx hL, hL⟩)
  have HAT := Lib.hid (show ∀ W : World, (W.cell? ⟨g, 7, none⟩ = some (.int .u32 h) ∧ W.cell? ⟨g, 1, none⟩ = some (.int .i64 (s : Int)) ∧ W.cell? ⟨B, 1, none⟩ = some (.int .i64 c) ∧ W.cell? ⟨g, 8, none⟩ = some (.slice (some ⟨gt, 0, none⟩) n cp) ∧ W.cell? ⟨B, 4, none⟩ = some (.slice (some ⟨g2, 0, none⟩) m cm) ∧ W.cell? ⟨g, 2, none⟩ = some (.int .i64 (p : Int)) ∧ W.cell? ⟨g2, p, none⟩ = some (.int .i64 x) ∧ Below w.heap.size w W) → Calls Try.prog 95 #[.pointer (some ⟨g, 0, none⟩), .pointer (some ⟨B, 1, none⟩)] W (Quiet (.int .i64 (a : Int)) W) from fun W hW => ha ▸ atU_any g B h c s W h0 h1 c0 c1 s2 (hW.1) (hW.2.1) (hW.2.2.1))
  have ha3 : a ≤ 3000000 := by omega
  have e1 := IntWalk.i64_in ((a : Int) * 32) (by omega)
  have e2 := IntWalk.i64_in (x + 2047) (by omega)
  have e3 : IntKind.i64.wrap ((a : Int) * 32 + (x + 2047) / 128) = (j : Int) := hj ▸ IntWalk.i64_in ((a : Int) * 32 + (x + 2047) / 128) (by omega)
  clear h0 h1 c0 c1 s2 ha x0 x1 hj ha3
  go_enter Try.func119, Try.ntmps119
  go_upto_region 1 with fail
  refine wp_region_held_drew (S := (fun W : World => W.cell? ⟨g, 7, none⟩ = some (.int .u32 h) ∧ W.cell? ⟨g, 1, none⟩ = some (.int .i64 (s : Int)) ∧ W.cell? ⟨B, 1, none⟩ = some (.int .i64 c) ∧ W.cell? ⟨g, 8, none⟩ = some (.slice (some ⟨gt, 0, none⟩) n cp) ∧ W.cell? ⟨B, 4, none⟩ = some (.slice (some ⟨g2, 0, none⟩) m cm) ∧ W.cell? ⟨g, 2, none⟩ = some (.int .i64 (p : Int)) ∧ W.cell? ⟨g2, p, none⟩ = some (.int .i64 x) ∧ Below w.heap.size w W)) (by kernel_rfl) (HF.out _ (below_drewN (HL.out) 1)) (fun hHeld => ?_)
  refine tkz (i := 0) (d := 5) rfl rfl ?_
  simp only [Act.put, zzA, zzB, zzC]
  refine tkz (i := 1) (d := 6) rfl rfl ?_
  simp only [Act.put, zzA, zzB, zzC]
  refine tkz (i := 2) (d := 7) rfl rfl ?_
  simp only [Act.put, zzA, zzB, zzC]
  refine tkz (i := 3) (d := 8) rfl rfl ?_
  simp only [Act.put, zzA, zzB, zzC]
  refine tkz (i := 4) (d := 9) rfl rfl ?_
  simp only [Act.put, zzA, zzB, zzC]
  refine tkz (i := 5) (d := 10) rfl rfl ?_
  simp only [Act.put, zzA, zzB, zzC]
  refine tkz (i := 6) (d := 11) rfl rfl ?_
  simp only [Act.put, zzA, zzB, zzC]
  refine tkz (i := 7) (d := 12) rfl rfl ?_
  simp only [Act.put, zzA, zzB, zzC]
  refine tkz (i := 10) (d := 15) rfl rfl ?_
  simp only [Act.put, zzA, zzB, zzC]
  refine tkz (i := 11) (d := 16) rfl rfl ?_
  simp only [Act.put, zzA, zzB, zzC]
  refine tkz (i := 12) (d := 17) rfl rfl ?_
  simp only [Act.put, zzA, zzB, zzC]
  refine tkz (i := 13) (d := 18) rfl rfl ?_
  simp only [Act.put, zzA, zzB, zzC]
  refine tkz (i := 14) (d := 19) rfl rfl ?_
  simp only [Act.put, zzA, zzB, zzC]
  refine tkz (i := 15) (d := 20) rfl rfl ?_
  simp only [Act.put, zzA, zzB, zzC]
  refine tkz (i := 16) (d := 21) rfl rfl ?_
  simp only [Act.put, zzA, zzB, zzC]
  refine tkz (i := 17) (d := 22) rfl rfl ?_
  simp only [Act.put, zzA, zzB, zzC]
  refine tkz (i := 18) (d := 23) rfl rfl ?_
  simp only [Act.put, zzA, zzB, zzC]
  refine tkz (i := 19) (d := 24) rfl rfl ?_
  simp only [Act.put, zzA, zzB, zzC]
  refine tkz (i := 20) (d := 25) rfl rfl ?_
  simp only [Act.put, zzA, zzB, zzC]
  refine tkz (i := 21) (d := 26) rfl rfl ?_
  simp only [Act.put, zzA, zzB, zzC]
  refine tkz (i := 22) (d := 27) rfl rfl ?_
  simp only [Act.put, zzA, zzB, zzC]
  refine tkz (i := 23) (d := 28) rfl rfl ?_
  simp only [Act.put, zzA, zzB, zzC]
  refine rdz (i := 8) rfl (fun K hK => ?_)
  go_simp
  refine (HAT.out _ hHeld).mono ?_
  rintro e w1 ⟨rfl, hb⟩
  go_wp2_with fail
  refine hK.out _ _ (HF.out _ (bl_step (hHeld.2.2.2.2.2.2.2) hb)) (fun hHeld => ?_)
  clear hK K
  try simp only [Act.put, zzA, zzB, zzC]
  refine tkz (i := 9) (d := 14) rfl rfl ?_
  simp only [Act.put, zzA, zzB, zzC]
  refine tkz (i := 24) (d := 29) rfl rfl ?_
  simp only [Act.put, zzA, zzB, zzC]
  refine tkz (i := 25) (d := 30) rfl rfl ?_
  simp only [Act.put, zzA, zzB, zzC]
  refine tkz (i := 26) (d := 4) rfl rfl ?_
  simp only [Act.put, zzA, zzB, zzC]
  refine wpAnyH_done (by kernel_rfl) ?_ _
  clear e1 e2 e3
  go_wp2
  go_ret
  exact ⟨rfl, hHeld.2.2.2.2.2.2.2⟩
set_option maxRecDepth 100000 in
set_option maxHeartbeats 4000000 in
theorem lean117 (g B gt n cp : Nat) (g2 m cm p j : Nat) (x : Int) (h c v : Int) (s a : Nat) (w : World) (h0 : 0 ≤ h) (h1 : h ≤ 4294967295) (c0 : 0 ≤ c) (c1 : c ≤ 255) (s2 : s ≤ 16) (ha : placeI h c s = (a : Int)) (hp : p < m) (hm : m ≤ 1000) (x0 : -2047 ≤ x) (x1 : x ≤ 2047) (hj : (a : Int) * 32 + (x + 2047) / 128 = (j : Int)) (hjn : j < n) (hn2 : n ≤ 3000000) (v0 : 0 ≤ v) (v1 : v ≤ 4194303) (k7 : w.cell? ⟨g, 7, none⟩ = some (.int .u32 h)) (k1 : w.cell? ⟨g, 1, none⟩ = some (.int .i64 (s : Int))) (b1 : w.cell? ⟨B, 1, none⟩ = some (.int .i64 c)) (k8 : w.cell? ⟨g, 8, none⟩ = some (.slice (some ⟨gt, 0, none⟩) n cp)) (l4 : w.cell? ⟨B, 4, none⟩ = some (.slice (some ⟨g2, 0, none⟩) m cm)) (k2 : w.cell? ⟨g, 2, none⟩ = some (.int .i64 (p : Int))) (lx : w.cell? ⟨g2, p, none⟩ = some (.int .i64 x)) (t0 : w.cell? ⟨gt, j * 2, none⟩ = some (.int .i64 v)) :
    Calls Try.prog 117 #[.pointer (some ⟨g, 0, none⟩), .pointer (some ⟨B, 1, none⟩)] w (Quiet (.int .i64 (stI (v / 1024))) w) := by
  have HL := Lib.hid (show Below w.heap.size w w from Below.refl _ _)
  have HF := Lib.hid (show ∀ W : World, Below w.heap.size w W → W.cell? ⟨g, 7, none⟩ = some (.int .u32 h) ∧ W.cell? ⟨g, 1, none⟩ = some (.int .i64 (s : Int)) ∧ W.cell? ⟨B, 1, none⟩ = some (.int .i64 c) ∧ W.cell? ⟨g, 8, none⟩ = some (.slice (some ⟨gt, 0, none⟩) n cp) ∧ W.cell? ⟨B, 4, none⟩ = some (.slice (some ⟨g2, 0, none⟩) m cm) ∧ W.cell? ⟨g, 2, none⟩ = some (.int .i64 (p : Int)) ∧ W.cell? ⟨g2, p, none⟩ = some (.int .i64 x) ∧ W.cell? ⟨gt, j * 2, none⟩ = some (.int .i64 v) ∧ Below w.heap.size w W from fun W hL => ⟨ck k7 hL, ck k1 hL, ck b1 hL, ck k8 hL, ck l4 hL, ck k2 hL, ck lx hL, ck t0 hL, hL⟩)
  have HEN := Lib.hid (show ∀ W : World, (W.cell? ⟨g, 7, none⟩ = some (.int .u32 h) ∧ W.cell? ⟨g, 1, none⟩ = some (.int .i64 (s : Int)) ∧ W.cell? ⟨B, 1, none⟩ = some (.int .i64 c) ∧ W.cell? ⟨g, 8, none⟩ = some (.slice (some ⟨gt, 0, none⟩) n cp) ∧ W.cell? ⟨B, 4, none⟩ = some (.slice (some ⟨g2, 0, none⟩) m cm) ∧ W.cell? ⟨g, 2, none⟩ = some (.int .i64 (p : Int)) ∧ W.cell? ⟨g2, p, none⟩ = some (.int .i64 x) ∧ W.cell? ⟨gt, j * 2, none⟩ = some (.int .i64 v) ∧ Below w.heap.size w W) → Calls Try.prog 119 #[.pointer (some ⟨g, 0, none⟩), .pointer (some ⟨B, 1, none⟩)] W (Quiet (.pointer (some ⟨gt, j * 2, none⟩)) W) from fun W hW => entry119 g B gt n cp g2 m cm p j x h c s a W h0 h1 c0 c1 s2 ha hp hm x0 x1 hj hjn hn2 (hW.1) (hW.2.1) (hW.2.2.1) (hW.2.2.2.1) (hW.2.2.2.2.1) (hW.2.2.2.2.2.1) (hW.2.2.2.2.2.2.1))
  have HSL := Lib.hid (show ∀ W : World, (W.cell? ⟨g, 7, none⟩ = some (.int .u32 h) ∧ W.cell? ⟨g, 1, none⟩ = some (.int .i64 (s : Int)) ∧ W.cell? ⟨B, 1, none⟩ = some (.int .i64 c) ∧ W.cell? ⟨g, 8, none⟩ = some (.slice (some ⟨gt, 0, none⟩) n cp) ∧ W.cell? ⟨B, 4, none⟩ = some (.slice (some ⟨g2, 0, none⟩) m cm) ∧ W.cell? ⟨g, 2, none⟩ = some (.int .i64 (p : Int)) ∧ W.cell? ⟨g2, p, none⟩ = some (.int .i64 x) ∧ W.cell? ⟨gt, j * 2, none⟩ = some (.int .i64 v) ∧ Below w.heap.size w W) → Calls Try.prog 96 #[.pointer (some ⟨gt, j * 2, none⟩)] W (Quiet (.int .i64 (stI (v / 1024))) W) from fun W hW => slowLean_any gt (j * 2) v W (hW.2.2.2.2.2.2.2.1) v0 v1)
  clear h0 h1 c0 c1 s2 ha x0 x1 hj v0 v1
  go_enter Try.func117, Try.ntmps117
  go_wp2_with fail
  refine (HEN.out _ (HF.out _ HL.out)).mono ?_
  rintro e w1 ⟨rfl, hb⟩
  have HB1 := Lib.hid hb
  clear hb
  go_wp2_with fail
  refine (HSL.out _ (HF.out _ HB1.out)).mono ?_
  rintro e w2 ⟨rfl, hb⟩
  have HB2 := Lib.hid (bl_step HB1.out hb)
  clear hb
  go_wp2
  go_ret
  exact ⟨rfl, HB2.out⟩
set_option maxRecDepth 100000 in
set_option maxHeartbeats 4000000 in
theorem learn118 (g B gt n cp : Nat) (g2 m cm p j : Nat) (x : Int) (h c v k d bit lim : Int) (l : List Int) (s a : Nat) (w : World) (h0 : 0 ≤ h) (h1 : h ≤ 4294967295) (c0 : 0 ≤ c) (c1 : c ≤ 255) (s2 : s ≤ 16) (ha : placeI h c s = (a : Int)) (hp : p < m) (hm : m ≤ 1000) (x0 : -2047 ≤ x) (x1 : x ≤ 2047) (hj : (a : Int) * 32 + (x + 2047) / 128 = (j : Int)) (hjn : j < n) (hn2 : n ≤ 3000000) (hB : Blk w gt 89 (ints l).toArray) (hv : l[j * 2]? = some v) (hk : l[j * 2 + 1]? = some k) (v0 : 0 ≤ v) (v1 : v ≤ 4194303) (m0 : 0 ≤ k) (m1 : k ≤ 1023) (hbit : bit = 0 ∨ bit = 1) (ng : ¬ g = gt) (nB : ¬ B = gt) (n2 : ¬ g2 = gt) (k7 : w.cell? ⟨g, 7, none⟩ = some (.int .u32 h)) (k1 : w.cell? ⟨g, 1, none⟩ = some (.int .i64 (s : Int))) (b1 : w.cell? ⟨B, 1, none⟩ = some (.int .i64 c)) (k8 : w.cell? ⟨g, 8, none⟩ = some (.slice (some ⟨gt, 0, none⟩) n cp)) (l4 : w.cell? ⟨B, 4, none⟩ = some (.slice (some ⟨g2, 0, none⟩) m cm)) (k2 : w.cell? ⟨g, 2, none⟩ = some (.int .i64 (p : Int))) (lx : w.cell? ⟨g2, p, none⟩ = some (.int .i64 x)) (k6 : w.cell? ⟨g, 6, none⟩ = some (.int .i64 lim)) :
    Calls Try.prog 118 #[.pointer (some ⟨g, 0, none⟩), .pointer (some ⟨B, 1, none⟩), .int .i64 d, .int .i64 bit] w (SlowL gt (j * 2) (chL v k bit) (min (k + 1) lim) l w) := by
  have HL := Lib.hid (show Frm (fun b => b = gt) w w from Frm.refl _ _)
  have HF := Lib.hid (show ∀ W : World, Frm (fun b => b = gt) w W → W.cell? ⟨g, 7, none⟩ = some (.int .u32 h) ∧ W.cell? ⟨g, 1, none⟩ = some (.int .i64 (s : Int)) ∧ W.cell? ⟨B, 1, none⟩ = some (.int .i64 c) ∧ W.cell? ⟨g, 8, none⟩ = some (.slice (some ⟨gt, 0, none⟩) n cp) ∧ W.cell? ⟨B, 4, none⟩ = some (.slice (some ⟨g2, 0, none⟩) m cm) ∧ W.cell? ⟨g, 2, none⟩ = some (.int .i64 (p : Int)) ∧ W.cell? ⟨g2, p, none⟩ = some (.int .i64 x) ∧ W.cell? ⟨g, 6, none⟩ = some (.int .i64 lim) ∧ Frm (fun b => b = gt) w W from fun W hL => ⟨(hL.cell (block_lt_of_cell k7) (ng)).trans k7, (hL.cell (block_lt_of_cell k1) (ng)).trans k1, (hL.cell (block_lt_of_cell b1) (nB)).trans b1, (hL.cell (block_lt_of_cell k8) (ng)).trans k8, (hL.cell (block_lt_of_cell l4) (nB)).trans l4, (hL.cell (block_lt_of_cell k2) (ng)).trans k2, (hL.cell (block_lt_of_cell lx) (n2)).trans lx, (hL.cell (block_lt_of_cell k6) (ng)).trans k6, hL⟩)
  have HEN := Lib.hid (show ∀ W : World, (W.cell? ⟨g, 7, none⟩ = some (.int .u32 h) ∧ W.cell? ⟨g, 1, none⟩ = some (.int .i64 (s : Int)) ∧ W.cell? ⟨B, 1, none⟩ = some (.int .i64 c) ∧ W.cell? ⟨g, 8, none⟩ = some (.slice (some ⟨gt, 0, none⟩) n cp) ∧ W.cell? ⟨B, 4, none⟩ = some (.slice (some ⟨g2, 0, none⟩) m cm) ∧ W.cell? ⟨g, 2, none⟩ = some (.int .i64 (p : Int)) ∧ W.cell? ⟨g2, p, none⟩ = some (.int .i64 x) ∧ W.cell? ⟨g, 6, none⟩ = some (.int .i64 lim) ∧ Frm (fun b => b = gt) w W) → Calls Try.prog 119 #[.pointer (some ⟨g, 0, none⟩), .pointer (some ⟨B, 1, none⟩)] W (Quiet (.pointer (some ⟨gt, j * 2, none⟩)) W) from fun W hW => entry119 g B gt n cp g2 m cm p j x h c s a W h0 h1 c0 c1 s2 ha hp hm x0 x1 hj hjn hn2 (hW.1) (hW.2.1) (hW.2.2.1) (hW.2.2.2.1) (hW.2.2.2.2.1) (hW.2.2.2.2.2.1) (hW.2.2.2.2.2.2.1))
  have HB := Lib.hid hB
  have HSL := Lib.hid (fun (W : World) (hW : Blk W gt 89 (ints l).toArray) => slowLearn_any gt (j * 2) v k bit lim l W hW hv hk v0 v1 m0 m1 hbit)
  clear h0 h1 c0 c1 s2 ha hv hk v0 v1 m0 m1 hB ng nB n2 hbit x0 x1 hj
  go_enter Try.func118, Try.ntmps118
  go_upto_region 0 with fail
  refine wp_region_held_drew (S := (fun W : World => W.cell? ⟨g, 7, none⟩ = some (.int .u32 h) ∧ W.cell? ⟨g, 1, none⟩ = some (.int .i64 (s : Int)) ∧ W.cell? ⟨B, 1, none⟩ = some (.int .i64 c) ∧ W.cell? ⟨g, 8, none⟩ = some (.slice (some ⟨gt, 0, none⟩) n cp) ∧ W.cell? ⟨B, 4, none⟩ = some (.slice (some ⟨g2, 0, none⟩) m cm) ∧ W.cell? ⟨g, 2, none⟩ = some (.int .i64 (p : Int)) ∧ W.cell? ⟨g2, p, none⟩ = some (.int .i64 x) ∧ W.cell? ⟨g, 6, none⟩ = some (.int .i64 lim) ∧ Frm (fun b => b = gt) w W)) (by kernel_rfl) (HF.out _ ((HL.out).drew)) (fun hHeld => ?_)
  refine tkz (i := 0) (d := 8) rfl rfl ?_
  simp only [Act.put, zzA, zzB, zzC]
  refine tkz (i := 1) (d := 9) rfl rfl ?_
  simp only [Act.put, zzA, zzB, zzC]
  refine tkz (i := 3) (d := 11) rfl rfl ?_
  simp only [Act.put, zzA, zzB, zzC]
  refine tkz (i := 4) (d := 12) rfl rfl ?_
  simp only [Act.put, zzA, zzB, zzC]
  refine tkz (i := 5) (d := 13) rfl rfl ?_
  simp only [Act.put, zzA, zzB, zzC]
  refine tkz (i := 6) (d := 14) rfl rfl ?_
  simp only [Act.put, zzA, zzB, zzC]
  refine tkz (i := 7) (d := 15) rfl rfl ?_
  simp only [Act.put, zzA, zzB, zzC]
  refine tkz (i := 8) (d := 16) rfl rfl ?_
  simp only [Act.put, zzA, zzB, zzC]
  refine tkz (i := 9) (d := 17) rfl rfl ?_
  simp only [Act.put, zzA, zzB, zzC]
  refine rdz (i := 2) rfl (fun K hK => ?_)
  go_simp
  refine (HEN.out _ hHeld).mono ?_
  rintro e w1 ⟨rfl, hb⟩
  have HB1 := Lib.hid ((show Blk w.drew gt 89 (ints l).toArray from HB.out).below hb)
  go_wp2_with fail
  refine hK.out _ _ (HF.out _ ((hHeld.2.2.2.2.2.2.2.2).below hb)) (fun hHeld => ?_)
  clear hK K
  try simp only [Act.put, zzA, zzB, zzC]
  refine rdz (i := 10) rfl (fun K hK => ?_)
  go_simp
  refine (HSL.out _ HB1.out).mono ?_
  rintro e w2 ⟨rfl, hblk, hfr⟩
  have HBL := Lib.hid hblk
  have HFR := Lib.hid hfr
  go_wp2_with fail
  refine hK.out _ _ (HF.out _ ((hHeld.2.2.2.2.2.2.2.2).trans HFR.out (fun _ _ h => h))) (fun hHeld => ?_)
  clear hK K
  try simp only [Act.put, zzA, zzB, zzC]
  refine wpAnyH_done (by kernel_rfl) ?_ _
  go_wp2
  refine bodyPost_ret (v := .tuple #[]) (by simp [results, Try.results118, go_sem]) rfl ?_
  exact ⟨rfl, HBL.out, hHeld.2.2.2.2.2.2.2.2⟩
end Go.Proofs.Ytnohfeaamfjimaa
