/- blend: a mix leans: walks. · blend: a mix leans and learns: walks. · blend: a mix learns: walk. · blend: a chain leans: walk. · blend: a chain learns: walk. -/
import Derived.Test.YtnohfeaamfjimaaVrBlSl
import Derived.StillTailTactics
import Derived.IntWalk
namespace Go.Proofs.Ytnohfeaamfjimaa
open Go.RowKit Go.WideShapes
set_option linter.unusedVariables false
set_option linter.unusedSimpArgs false
set_option maxRecDepth 100000 in
set_option maxHeartbeats 4000000 in
theorem row114 (g B gt n cp : Nat) (g2 m cm p b : Nat) (h c : Int) (s a : Nat) (w : World) (h0 : 0 ≤ h) (h1 : h ≤ 4294967295) (c0 : 0 ≤ c) (c1 : c ≤ 255) (s2 : s ≤ 16) (ha : placeI h c s = (a : Int)) (hb0 : 1 ≤ b) (hb8 : b ≤ 8) (hib : a * b + b ≤ n) (hpb : p + b ≤ m) (hncp : n ≤ cp) (hmcm : m ≤ cm) (hn2 : n ≤ 3000000) (hm : m ≤ 1000) (k7 : w.cell? ⟨g, 7, none⟩ = some (.int .u32 h)) (k1 : w.cell? ⟨g, 1, none⟩ = some (.int .i64 (s : Int))) (b1 : w.cell? ⟨B, 1, none⟩ = some (.int .i64 c)) (k8 : w.cell? ⟨g, 8, none⟩ = some (.slice (some ⟨gt, 0, none⟩) n cp)) (l4 : w.cell? ⟨B, 4, none⟩ = some (.slice (some ⟨g2, 0, none⟩) m cm)) (k2 : w.cell? ⟨g, 2, none⟩ = some (.int .i64 (p : Int))) (k3 : w.cell? ⟨g, 3, none⟩ = some (.int .i64 (b : Int))) :
    Calls Try.prog 114 #[.pointer (some ⟨g, 0, none⟩), .pointer (some ⟨B, 1, none⟩)] w (Quiet (.tuple #[.slice (some ⟨gt, a * b, none⟩) b (cp - a * b), .slice (some ⟨g2, p, none⟩) b (cm - p)]) w) := by
  have HL := Lib.hid (show Below w.heap.size w w from Below.refl _ _)
  have HF := Lib.hid (show ∀ W : World, Below w.heap.size w W → W.cell? ⟨g, 7, none⟩ = some (.int .u32 h) ∧ W.cell? ⟨g, 1, none⟩ = some (.int .i64 (s : Int)) ∧ W.cell? ⟨B, 1, none⟩ = some (.int .i64 c) ∧ W.cell? ⟨g, 8, none⟩ = some (.slice (some ⟨gt, 0, none⟩) n cp) ∧ W.cell? ⟨B, 4, none⟩ = some (.slice (some ⟨g2, 0, none⟩) m cm) ∧ W.cell? ⟨g, 2, none⟩ = some (.int .i64 (p : Int)) ∧ W.cell? ⟨g, 3, none⟩ = some (.int .i64 (b : Int)) ∧ Below w.heap.size w W from fun W hL => ⟨ck k7 hL, ck k1 hL, ck b1 hL, ck k8 hL, ck l4 hL, ck k2 hL, ck k3 hL, hL⟩)
  have HAT := Lib.hid (show ∀ W : World, (W.cell? ⟨g, 7, none⟩ = some (.int .u32 h) ∧ W.cell? ⟨g, 1, none⟩ = some (.int .i64 (s : Int)) ∧ W.cell? ⟨B, 1, none⟩ = some (.int .i64 c) ∧ W.cell? ⟨g, 8, none⟩ = some (.slice (some ⟨gt, 0, none⟩) n cp) ∧ W.cell? ⟨B, 4, none⟩ = some (.slice (some ⟨g2, 0, none⟩) m cm) ∧ W.cell? ⟨g, 2, none⟩ = some (.int .i64 (p : Int)) ∧ W.cell? ⟨g, 3, none⟩ = some (.int .i64 (b : Int)) ∧ Below w.heap.size w W) → Calls Try.prog 95 #[.pointer (some ⟨g, 0, none⟩), .pointer (some ⟨B, 1, none⟩)] W (Quiet (.int .i64 (a : Int)) W) from fun W hW => ha ▸ atU_any g B h c s W h0 h1 c0 c1 s2 (hW.1) (hW.2.1) (hW.2.2.1))
  obtain ⟨i, hi⟩ : ∃ i, a * b = i := ⟨_, rfl⟩
  have hib2 := hib
  rw [hi] at hib2
  have ei : (a : Int) * (b : Int) = (i : Int) := by rw [← hi]; exact (Int.natCast_mul a b).symm
  have e1 : IntKind.i64.wrap ((a : Int) * (b : Int)) = (i : Int) := by rw [ei]; exact IntWalk.i64_in (i : Int) (by omega)
  have e2 := IntWalk.i64_in ((i : Int) + (b : Int)) (by omega)
  have e3 := IntWalk.i64_in ((p : Int) + (b : Int)) (by omega)
  have u1 : (i : Int) + (b : Int) ≤ (cp : Int) := by omega
  have u2 : (p : Int) + (b : Int) ≤ (cm : Int) := by omega
  have u3 : ¬ cp - i = 0 := by omega
  have u4 : ¬ cm - p = 0 := by omega
  have u5 : (i : Int) ≤ (i : Int) + (b : Int) := by omega
  have u6 : (p : Int) ≤ (p : Int) + (b : Int) := by omega
  have u7 : 0 ≤ (i : Int) + (b : Int) := by omega
  have u8 : 0 ≤ (p : Int) + (b : Int) := by omega
  have u9 : ((i : Int) + (b : Int)).toNat = i + b := by omega
  have u10 : ((p : Int) + (b : Int)).toNat = p + b := by omega
  have u11 : i + b - i = b := by omega
  have u12 : p + b - p = b := by omega
  rw [hi]
  have E1 := Lib.hid e1
  have E2 := Lib.hid e2
  have E3 := Lib.hid e3
  clear h0 h1 c0 c1 s2 ha e1 e2 e3 ei hi hib hib2 hpb
  go_enter Try.func114, Try.ntmps114
  go_upto_region 1 with fail
  have e1 := E1.out
  refine wp_region_held_drew (S := (fun W : World => W.cell? ⟨g, 7, none⟩ = some (.int .u32 h) ∧ W.cell? ⟨g, 1, none⟩ = some (.int .i64 (s : Int)) ∧ W.cell? ⟨B, 1, none⟩ = some (.int .i64 c) ∧ W.cell? ⟨g, 8, none⟩ = some (.slice (some ⟨gt, 0, none⟩) n cp) ∧ W.cell? ⟨B, 4, none⟩ = some (.slice (some ⟨g2, 0, none⟩) m cm) ∧ W.cell? ⟨g, 2, none⟩ = some (.int .i64 (p : Int)) ∧ W.cell? ⟨g, 3, none⟩ = some (.int .i64 (b : Int)) ∧ Below w.heap.size w W)) (by kernel_rfl) (HF.out _ (below_drewN (HL.out) 1)) (fun hHeld => ?_)
  refine tkz (i := 0) (d := 7) rfl rfl ?_
  simp only [Act.put, zzA, zzB, zzC]
  refine tkz (i := 1) (d := 8) rfl rfl ?_
  simp only [Act.put, zzA, zzB, zzC]
  refine tkz (i := 2) (d := 9) rfl rfl ?_
  simp only [Act.put, zzA, zzB, zzC]
  refine tkz (i := 3) (d := 10) rfl rfl ?_
  simp only [Act.put, zzA, zzB, zzC]
  refine tkz (i := 5) (d := 12) rfl rfl ?_
  simp only [Act.put, zzA, zzB, zzC]
  refine tkz (i := 6) (d := 13) rfl rfl ?_
  simp only [Act.put, zzA, zzB, zzC]
  refine tkz (i := 7) (d := 14) rfl rfl ?_
  simp only [Act.put, zzA, zzB, zzC]
  refine tkz (i := 8) (d := 15) rfl rfl ?_
  simp only [Act.put, zzA, zzB, zzC]
  refine tkz (i := 9) (d := 16) rfl rfl ?_
  simp only [Act.put, zzA, zzB, zzC]
  refine tkz (i := 10) (d := 17) rfl rfl ?_
  simp only [Act.put, zzA, zzB, zzC]
  refine rdz (i := 4) rfl (fun K hK => ?_)
  go_simp
  refine (HAT.out _ hHeld).mono ?_
  rintro e w1 ⟨rfl, hb⟩
  go_wp2_with fail
  refine hK.out _ _ (HF.out _ (bl_step (hHeld.2.2.2.2.2.2.2) hb)) (fun hHeld => ?_)
  clear hK K
  try simp only [Act.put, zzA, zzB, zzC]
  refine tkz (i := 11) (d := 18) rfl rfl ?_
  simp only [Act.put, zzA, zzB, zzC]
  refine tkz (i := 12) (d := 6) rfl rfl ?_
  simp only [Act.put, zzA, zzB, zzC]
  refine wpAnyH_done (by kernel_rfl) ?_ _
  clear e1
  have HB1 := Lib.hid (hHeld.2.2.2.2.2.2.2)
  clear hHeld
  go_upto_region 2 with fail
  obtain ⟨q7, q1, qb, q8, q4, q2, q3, _⟩ := HF.out w1 HB1.out
  have e2 := E2.out
  have e3 := E3.out
  go_quiet (fail)
  clear e2 e3
  go_wp2
  go_ret2
  exact ⟨rfl, below_drewN HB1.out nq⟩
end Go.Proofs.Ytnohfeaamfjimaa
namespace Go.Proofs.Ytnohfeaamfjimaa
open Go.RowKit Go.WideShapes
set_option linter.unusedVariables false
set_option linter.unusedSimpArgs false
/-- The sum over the first k. -/
def dotK (l L : List Int) (i p : Nat) : Nat → Int
  | 0 => 0
  | k + 1 => dotK l L i p k + l.getD (i + k) 0 * L.getD (p + k) 0
theorem dot_bd {l L : List Int} {i p b : Nat} (hl : ∀ k, k < b → -1048576 ≤ l.getD (i + k) 0 ∧ l.getD (i + k) 0 ≤ 1048576) (hL : ∀ k, k < b → -2047 ≤ L.getD (p + k) 0 ∧ L.getD (p + k) 0 ≤ 2047) : ∀ k, k ≤ b → -((k : Int) * 2146435072) ≤ dotK l L i p k ∧ dotK l L i p k ≤ (k : Int) * 2146435072
  | 0, _ => by simp [dotK]
  | k + 1, hk => by
    have h1 := dot_bd hl hL k (by omega)
    have h2 := hl k (by omega)
    have h3 := hL k (by omega)
    have h4 := mulB h2.1 h2.2 h3.1 h3.2
    unfold dotK
    push_cast
    omega
/-- The weights, the first k of them turned. -/
def mixK (l L : List Int) (i p : Nat) (e : Int) : Nat → List Int
  | 0 => l
  | k + 1 => (mixK l L i p e k).set (i + k) (intoI ((mixK l L i p e k).getD (i + k) 0 + (e * L.getD (p + k) 0 + 8192) / 16384) (-1048576) 1048576)
theorem mixK_length (l L : List Int) (i p : Nat) (e : Int) : ∀ k, (mixK l L i p e k).length = l.length
  | 0 => rfl
  | k + 1 => by unfold mixK; rw [List.length_set, mixK_length l L i p e k]
theorem into_bd (n a b : Int) (h : a ≤ b) : a ≤ intoI n a b ∧ intoI n a b ≤ b := by unfold intoI; omega
theorem mixK_bd {l L : List Int} {i p : Nat} {e : Int} (h : ∀ x ∈ l, -1048576 ≤ x ∧ x ≤ 1048576) : ∀ k, ∀ x ∈ mixK l L i p e k, -1048576 ≤ x ∧ x ≤ 1048576
  | 0 => h
  | k + 1 => fun x hx => by
    unfold mixK at hx
    rcases List.mem_or_eq_of_mem_set hx with hx | rfl
    · exact mixK_bd h k x hx
    · exact into_bd _ _ _ (by omega)
theorem getD_mem {l : List Int} {i : Nat} (h : i < l.length) : l.getD i 0 ∈ l := by
  rw [List.getD_eq_getElem?_getD, List.getElem?_eq_getElem h]
  exact List.getElem_mem h
theorem getD_some {l : List Int} {i : Nat} (h : i < l.length) : l[i]? = some (l.getD i 0) := by
  rw [List.getD_eq_getElem?_getD, List.getElem?_eq_getElem h]
  rfl
set_option maxRecDepth 100000 in
set_option maxHeartbeats 4000000 in
theorem lean112 (g B gt n cp : Nat) (g2 m cm p b : Nat) (l L : List Int) (h c : Int) (s a : Nat) (w : World) (h0 : 0 ≤ h) (h1 : h ≤ 4294967295) (c0 : 0 ≤ c) (c1 : c ≤ 255) (s2 : s ≤ 16) (ha : placeI h c s = (a : Int)) (hb0 : 1 ≤ b) (hb8 : b ≤ 8) (hib : a * b + b ≤ n) (hpb : p + b ≤ m) (hncp : n ≤ cp) (hmcm : m ≤ cm) (hn2 : n ≤ 3000000) (hm : m ≤ 1000) (hlc : ∀ k, k < b → w.cell? ⟨gt, a * b + k, none⟩ = some (.int .i64 (l.getD (a * b + k) 0))) (hxc : ∀ k, k < b → w.cell? ⟨g2, p + k, none⟩ = some (.int .i64 (L.getD (p + k) 0))) (hl : ∀ k, k < b → -1048576 ≤ l.getD (a * b + k) 0 ∧ l.getD (a * b + k) 0 ≤ 1048576) (hx : ∀ k, k < b → -2047 ≤ L.getD (p + k) 0 ∧ L.getD (p + k) 0 ≤ 2047) (k7 : w.cell? ⟨g, 7, none⟩ = some (.int .u32 h)) (k1 : w.cell? ⟨g, 1, none⟩ = some (.int .i64 (s : Int))) (b1 : w.cell? ⟨B, 1, none⟩ = some (.int .i64 c)) (k8 : w.cell? ⟨g, 8, none⟩ = some (.slice (some ⟨gt, 0, none⟩) n cp)) (l4 : w.cell? ⟨B, 4, none⟩ = some (.slice (some ⟨g2, 0, none⟩) m cm)) (k2 : w.cell? ⟨g, 2, none⟩ = some (.int .i64 (p : Int))) (k3 : w.cell? ⟨g, 3, none⟩ = some (.int .i64 (b : Int))) :
    Calls Try.prog 112 #[.pointer (some ⟨g, 0, none⟩), .pointer (some ⟨B, 1, none⟩)] w (Quiet (.int .i64 (intoI (dotK l L (a * b) p b / 65536) (-2047) 2047)) w) := by
  have HL := Lib.hid (show Below w.heap.size w w from Below.refl _ _)
  have HF := Lib.hid (show ∀ W : World, Below w.heap.size w W → W.cell? ⟨g, 7, none⟩ = some (.int .u32 h) ∧ W.cell? ⟨g, 1, none⟩ = some (.int .i64 (s : Int)) ∧ W.cell? ⟨B, 1, none⟩ = some (.int .i64 c) ∧ W.cell? ⟨g, 8, none⟩ = some (.slice (some ⟨gt, 0, none⟩) n cp) ∧ W.cell? ⟨B, 4, none⟩ = some (.slice (some ⟨g2, 0, none⟩) m cm) ∧ W.cell? ⟨g, 2, none⟩ = some (.int .i64 (p : Int)) ∧ W.cell? ⟨g, 3, none⟩ = some (.int .i64 (b : Int)) ∧ Below w.heap.size w W from fun W hL => ⟨ck k7 hL, ck k1 hL, ck b1 hL, ck k8 hL, ck l4 hL, ck k2 hL, ck k3 hL, hL⟩)
  have HRW := Lib.hid (show ∀ W : World, (W.cell? ⟨g, 7, none⟩ = some (.int .u32 h) ∧ W.cell? ⟨g, 1, none⟩ = some (.int .i64 (s : Int)) ∧ W.cell? ⟨B, 1, none⟩ = some (.int .i64 c) ∧ W.cell? ⟨g, 8, none⟩ = some (.slice (some ⟨gt, 0, none⟩) n cp) ∧ W.cell? ⟨B, 4, none⟩ = some (.slice (some ⟨g2, 0, none⟩) m cm) ∧ W.cell? ⟨g, 2, none⟩ = some (.int .i64 (p : Int)) ∧ W.cell? ⟨g, 3, none⟩ = some (.int .i64 (b : Int)) ∧ Below w.heap.size w W) → Calls Try.prog 114 #[.pointer (some ⟨g, 0, none⟩), .pointer (some ⟨B, 1, none⟩)] W (Quiet (.tuple #[.slice (some ⟨gt, a * b, none⟩) b (cp - a * b), .slice (some ⟨g2, p, none⟩) b (cm - p)]) W) from fun W hW => row114 g B gt n cp g2 m cm p b h c s a W h0 h1 c0 c1 s2 ha hb0 hb8 hib hpb hncp hmcm hn2 hm (hW.1) (hW.2.1) (hW.2.2.1) (hW.2.2.2.1) (hW.2.2.2.2.1) (hW.2.2.2.2.2.1) (hW.2.2.2.2.2.2.1))
  have hdb := dot_bd hl hx
  have HDB := Lib.hid hdb
  have HLC := Lib.hid (show ∀ (W : World), Below w.heap.size w W → ∀ k, k < b → W.cell? ⟨gt, a * b + k, none⟩ = some (.int .i64 (l.getD (a * b + k) 0)) ∧ W.cell? ⟨g2, p + k, none⟩ = some (.int .i64 (L.getD (p + k) 0)) from fun W hW k hk => ⟨ck (hlc k hk) hW, ck (hxc k hk) hW⟩)
  have HLB := Lib.hid hl
  have HXB := Lib.hid hx
  have u3 : ¬ cp - a * b = 0 := by omega
  clear h0 h1 c0 c1 s2 ha hl hx hlc hxc hdb
  go_enter Try.func112, Try.ntmps112
  go_wp2_with fail
  refine (HRW.out _ (HF.out _ HL.out)).mono ?_
  rintro e w1 ⟨rfl, hb⟩
  have HB1 := Lib.hid hb
  clear hb
  go_wp2_with fail
  go_loopw [7, 18] (fun u v wr => ∃ k : Nat, k ≤ b ∧ v = .int .i64 k ∧ u = .int .i64 (dotK l L (a * b) p k) ∧ Below w.heap.size w wr) (fun _ v _ => b - (intOf v).toNat)
  case atStart => exact ⟨0, by omega, rfl, rfl, HB1.out⟩
  case round =>
    obtain ⟨k, hk, rfl, rfl, hlow⟩ := hrel
    have HLOW := Lib.hid hlow
    clear hlow
    have hd1 := HDB.out k hk
    by_cases hlt : k < b
    · obtain ⟨c1, c2⟩ := HLC.out wr HLOW.out k hlt
      have hw1 := HLB.out k hlt
      have hx1 := HXB.out k hlt
      have hp1 := mulB hw1.1 hw1.2 hx1.1 hx1.2
      have hn1 := HDB.out (k + 1) hlt
      have hst : dotK l L (a * b) p (k + 1) = dotK l L (a * b) p k + l.getD (a * b + k) 0 * L.getD (p + k) 0 := rfl
      rw [hst] at hn1
      have HST := Lib.hid hst
      have hki : (k : Int) < b := by omega
      have hk2 : k + 1 ≤ 1000 := by omega
      clear hst
      generalize dotK l L (a * b) p k = D at *
      generalize l.getD (a * b + k) 0 = X at *
      generalize L.getD (p + k) 0 = Y at *
      have hd2 : -17171480576 ≤ D ∧ D ≤ 17171480576 := by omega
      have hp2 : -17171480576 ≤ X * Y ∧ X * Y ≤ 17171480576 := by omega
      have hn2' : -17171480576 ≤ D + X * Y ∧ D + X * Y ≤ 17171480576 := by omega
      clear hd1 hn1 hp1 hw1 hx1
      go_wp2
      go_roundw
      case rel => exact ⟨k + 1, by omega, by go_num, by rw [HST.out], HLOW.out⟩
      case measure => simp [intOf]; omega
    · obtain rfl : k = b := by omega
      generalize dotK l L (a * k) p k = D at *
      have hd2 : -17171480576 ≤ D ∧ D ≤ 17171480576 := by omega
      clear hd1
      go_wp2_with fail
      refine (into_any _ _ _ _).mono ?_
      rintro e w9 ⟨rfl, rfl⟩
      go_wp2
      go_ret
      exact ⟨rfl, HLOW.out⟩
end Go.Proofs.Ytnohfeaamfjimaa
namespace Go.Proofs.Ytnohfeaamfjimaa
open Go.RowKit Go.WideShapes
set_option linter.unusedVariables false
set_option linter.unusedSimpArgs false
set_option maxRecDepth 100000 in
set_option maxHeartbeats 4000000 in
theorem learn113 (g B gt n cp : Nat) (g2 m cm p b : Nat) (l L : List Int) (h c d bit r : Int) (s a : Nat) (w : World) (h0 : 0 ≤ h) (h1 : h ≤ 4294967295) (c0 : 0 ≤ c) (c1 : c ≤ 255) (s2 : s ≤ 16) (ha : placeI h c s = (a : Int)) (hb0 : 1 ≤ b) (hb8 : b ≤ 8) (hib : a * b + b ≤ n) (hpb : p + b ≤ m) (hncp : n ≤ cp) (hmcm : m ≤ cm) (hn2 : n ≤ 3000000) (hm : m ≤ 1000) (r0 : 1 ≤ r) (r1 : r ≤ 64) (hbit : bit = 0 ∨ bit = 1) (E : Int) (hE : 4095 * bit - sqI d = E) (hB : Blk w gt 3 (ints l).toArray) (hln : l.length = n) (n2 : ¬ g2 = gt) (k5 : w.cell? ⟨g, 5, none⟩ = some (.int .i64 r)) (hxc : ∀ k, k < b → w.cell? ⟨g2, p + k, none⟩ = some (.int .i64 (L.getD (p + k) 0))) (hl : ∀ x ∈ l, -1048576 ≤ x ∧ x ≤ 1048576) (hx : ∀ k, k < b → -2047 ≤ L.getD (p + k) 0 ∧ L.getD (p + k) 0 ≤ 2047) (k7 : w.cell? ⟨g, 7, none⟩ = some (.int .u32 h)) (k1 : w.cell? ⟨g, 1, none⟩ = some (.int .i64 (s : Int))) (b1 : w.cell? ⟨B, 1, none⟩ = some (.int .i64 c)) (k8 : w.cell? ⟨g, 8, none⟩ = some (.slice (some ⟨gt, 0, none⟩) n cp)) (l4 : w.cell? ⟨B, 4, none⟩ = some (.slice (some ⟨g2, 0, none⟩) m cm)) (k2 : w.cell? ⟨g, 2, none⟩ = some (.int .i64 (p : Int))) (k3 : w.cell? ⟨g, 3, none⟩ = some (.int .i64 (b : Int))) :
    Calls Try.prog 113 #[.pointer (some ⟨g, 0, none⟩), .pointer (some ⟨B, 1, none⟩), .int .i64 d, .int .i64 bit] w (PutI gt 3 (ints (mixK l L (a * b) p (E * r) b)).toArray w) := by
  have HL := Lib.hid (show Below w.heap.size w w from Below.refl _ _)
  have HF := Lib.hid (show ∀ W : World, Below w.heap.size w W → W.cell? ⟨g, 7, none⟩ = some (.int .u32 h) ∧ W.cell? ⟨g, 1, none⟩ = some (.int .i64 (s : Int)) ∧ W.cell? ⟨B, 1, none⟩ = some (.int .i64 c) ∧ W.cell? ⟨g, 8, none⟩ = some (.slice (some ⟨gt, 0, none⟩) n cp) ∧ W.cell? ⟨B, 4, none⟩ = some (.slice (some ⟨g2, 0, none⟩) m cm) ∧ W.cell? ⟨g, 2, none⟩ = some (.int .i64 (p : Int)) ∧ W.cell? ⟨g, 3, none⟩ = some (.int .i64 (b : Int)) ∧ Below w.heap.size w W from fun W hL => ⟨ck k7 hL, ck k1 hL, ck b1 hL, ck k8 hL, ck l4 hL, ck k2 hL, ck k3 hL, hL⟩)
  have HG := Lib.hid (show ∀ W : World, Below w.heap.size w W → W.cell? ⟨g, 5, none⟩ = some (.int .i64 r) ∧ Below w.heap.size w W from fun W hL => ⟨ck k5 hL, hL⟩)
  have HRW := Lib.hid (show ∀ W : World, (W.cell? ⟨g, 7, none⟩ = some (.int .u32 h) ∧ W.cell? ⟨g, 1, none⟩ = some (.int .i64 (s : Int)) ∧ W.cell? ⟨B, 1, none⟩ = some (.int .i64 c) ∧ W.cell? ⟨g, 8, none⟩ = some (.slice (some ⟨gt, 0, none⟩) n cp) ∧ W.cell? ⟨B, 4, none⟩ = some (.slice (some ⟨g2, 0, none⟩) m cm) ∧ W.cell? ⟨g, 2, none⟩ = some (.int .i64 (p : Int)) ∧ W.cell? ⟨g, 3, none⟩ = some (.int .i64 (b : Int)) ∧ Below w.heap.size w W) → Calls Try.prog 114 #[.pointer (some ⟨g, 0, none⟩), .pointer (some ⟨B, 1, none⟩)] W (Quiet (.tuple #[.slice (some ⟨gt, a * b, none⟩) b (cp - a * b), .slice (some ⟨g2, p, none⟩) b (cm - p)]) W) from fun W hW => row114 g B gt n cp g2 m cm p b h c s a W h0 h1 c0 c1 s2 ha hb0 hb8 hib hpb hncp hmcm hn2 hm (hW.1) (hW.2.1) (hW.2.2.1) (hW.2.2.2.1) (hW.2.2.2.2.1) (hW.2.2.2.2.2.1) (hW.2.2.2.2.2.2.1))
  have hE2 : -4095 ≤ E ∧ E ≤ 4095 := by have := sq_bd d; omega
  have HMI := Lib.hid (show ∀ W : World, Calls Try.prog 94 #[.pointer (some ⟨g, 0, none⟩), .int .i64 d, .int .i64 bit] W (Quiet (.int .i64 E) W) from fun W => hE ▸ miss_any g d bit W hbit)
  have g1 := mulB (a := E) (b := r) (A := 4095) (B := 64) (by omega) (by omega) (by omega) r1
  have e1 := IntWalk.i64_in (E * r) (by omega)
  have G1 := Lib.hid g1
  have E1 := Lib.hid e1
  have HBK := Lib.hid hB
  have HXC := Lib.hid hxc
  have HXB := Lib.hid hx
  have HLB := Lib.hid hl
  have HLN := Lib.hid hln
  have N2 := Lib.hid n2
  have u3 : ¬ cp - a * b = 0 := by omega
  clear h0 h1 c0 c1 s2 ha hl hx hxc hln g1 e1 hE hE2 hbit r0 r1 hB n2
  go_enter Try.func113, Try.ntmps113
  go_wp2_with fail
  refine (HRW.out _ (HF.out _ HL.out)).mono ?_
  rintro e w1 ⟨rfl, hb⟩
  have HB1 := Lib.hid hb
  clear hb
  go_upto_region 1 with fail
  have e1 := E1.out
  refine wp_region_held_drew (S := (fun W : World => W.cell? ⟨g, 5, none⟩ = some (.int .i64 r) ∧ Below w.heap.size w W)) (by kernel_rfl) (HG.out _ (below_drewN (HB1.out) 1)) (fun hHeld => ?_)
  refine tkz (i := 0) (d := 19) rfl rfl ?_
  simp only [Act.put, zzA, zzB, zzC]
  refine tkz (i := 1) (d := 20) rfl rfl ?_
  simp only [Act.put, zzA, zzB, zzC]
  refine tkz (i := 2) (d := 21) rfl rfl ?_
  simp only [Act.put, zzA, zzB, zzC]
  refine tkz (i := 3) (d := 22) rfl rfl ?_
  simp only [Act.put, zzA, zzB, zzC]
  refine tkz (i := 4) (d := 23) rfl rfl ?_
  simp only [Act.put, zzA, zzB, zzC]
  refine tkz (i := 6) (d := 25) rfl rfl ?_
  simp only [Act.put, zzA, zzB, zzC]
  refine tkz (i := 7) (d := 26) rfl rfl ?_
  simp only [Act.put, zzA, zzB, zzC]
  refine tkz (i := 8) (d := 27) rfl rfl ?_
  simp only [Act.put, zzA, zzB, zzC]
  refine tkz (i := 9) (d := 28) rfl rfl ?_
  simp only [Act.put, zzA, zzB, zzC]
  refine tkz (i := 10) (d := 29) rfl rfl ?_
  simp only [Act.put, zzA, zzB, zzC]
  refine tkz (i := 11) (d := 30) rfl rfl ?_
  simp only [Act.put, zzA, zzB, zzC]
  refine rdz (i := 5) rfl (fun K hK => ?_)
  go_simp
  refine (HMI.out _).mono ?_
  rintro e w2 ⟨rfl, hb⟩
  go_wp2_with fail
  refine hK.out _ _ (HG.out _ (bl_step (hHeld.2) hb)) (fun hHeld => ?_)
  clear hK K
  try simp only [Act.put, zzA, zzB, zzC]
  refine tkz (i := 12) (d := 31) rfl rfl ?_
  simp only [Act.put, zzA, zzB, zzC]
  refine tkz (i := 13) (d := 10) rfl rfl ?_
  simp only [Act.put, zzA, zzB, zzC]
  refine wpAnyH_done (by kernel_rfl) ?_ _
  clear e1
  have HB2 := Lib.hid (hHeld.2)
  clear hHeld
  have HBK2 := Lib.hid (HBK.out.below HB2.out)
  have HFR := Lib.hid (show Frm (fun b => b = gt) w w2 from Frm.of_below HB2.out)
  obtain ⟨e, he⟩ : ∃ e, E * r = e := ⟨_, rfl⟩
  have g1 := G1.out
  have HE := Lib.hid he
  rw [he] at g1 ⊢
  clear he
  have G2 := Lib.hid (show -262080 ≤ e ∧ e ≤ 262080 by omega)
  clear g1
  go_wp2_with fail
  go_loopw [34] (fun v wr => ∃ k : Nat, k ≤ b ∧ v = .int .i64 k ∧ Blk wr gt 3 (ints (mixK l L (a * b) p e k)).toArray ∧ Frm (fun b => b = gt) w wr) (fun v _ => b - (intOf v).toNat)
  case atStart => exact ⟨0, by omega, rfl, HBK2.out, HFR.out⟩
  case round =>
    obtain ⟨k, hk, rfl, hbk, hfr⟩ := hrel
    have HBL := Lib.hid hbk
    have HFL := Lib.hid hfr
    by_cases hlt : k < b
    · have hlen : a * b + k < (mixK l L (a * b) p e k).length := by rw [mixK_length, HLN.out]; omega
      have c1 := (hbk.cell (a * b + k)).trans (ints_at (getD_some hlen))
      have z1 := hbk.frozen (a * b + k)
      have c2 : wr.cell? ⟨g2, p + k, none⟩ = some (.int .i64 (L.getD (p + k) 0)) := (hfr.cell (block_lt_of_cell (HXC.out k hlt)) N2.out).trans (HXC.out k hlt)
      have hw1 := mixK_bd (L := L) (i := a * b) (p := p) (e := e) HLB.out k _ (getD_mem hlen)
      have hx1 := HXB.out k hlt
      have g2 := G2.out
      have hp1 := mulB g2.1 g2.2 hx1.1 hx1.2
      have HST := Lib.hid (show mixK l L (a * b) p e (k + 1) = (mixK l L (a * b) p e k).set (a * b + k) (intoI ((mixK l L (a * b) p e k).getD (a * b + k) 0 + (e * L.getD (p + k) 0 + 8192) / 16384) (-1048576) 1048576) from rfl)
      have hki : (k : Int) < b := by omega
      have hk2 : k + 1 ≤ 1000 := by omega
      clear hbk hfr hlen
      generalize mixK l L (a * b) p e k = M at *
      generalize M.getD (a * b + k) 0 = X at *
      generalize L.getD (p + k) 0 = Y at *
      have hp2 : -536477760 ≤ e * Y ∧ e * Y ≤ 536477760 := by omega
      have hp3 : -268435456 ≤ X + (e * Y + 8192) / 16384 ∧ X + (e * Y + 8192) / 16384 ≤ 268435456 := by omega
      clear hp1 hx1 g2
      go_wp2_with fail
      refine (into_any _ _ _ _).mono ?_
      rintro e9 w9 ⟨rfl, rfl⟩
      have HN := Lib.hid (HBL.out.set (a * b + k) (.int .i64 (intoI (X + (e * Y + 8192) / 16384) (-1048576) 1048576)))
      have HFN := Lib.hid (HFL.out.setCell (p := ⟨gt, a * b + k, none⟩) (fun _ => rfl) (.int .i64 (intoI (X + (e * Y + 8192) / 16384) (-1048576) 1048576)))
      go_wp2
      go_roundw
      case rel => exact ⟨k + 1, by omega, by go_num, by rw [HST.out, ← ints_set]; exact HN.out, HFN.out⟩
      case measure => simp [intOf]; omega
    · obtain rfl : k = b := by omega
      go_wp2
      refine bodyPost_ret (v := .tuple #[]) (by simp [results, Try.results113, go_sem]) rfl ?_
      rw [HE.out]
      exact ⟨rfl, HBL.out, HFL.out⟩
end Go.Proofs.Ytnohfeaamfjimaa
namespace Go.Proofs.Ytnohfeaamfjimaa
open Go.RowKit Go.WideShapes
set_option linter.unusedVariables false
set_option linter.unusedSimpArgs false
def isL (u v x : Int) : Int := intoI ((u * x + v * 64) / 65536) (-2047) 2047
set_option maxRecDepth 100000 in
set_option maxHeartbeats 4000000 in
theorem lean115 (g B gs n cp g2 m cm p : Nat) (h c u v x : Int) (s a y : Nat) (w : World) (h0 : 0 ≤ h) (h1 : h ≤ 4294967295) (c0 : 0 ≤ c) (c1 : c ≤ 255) (s2 : s ≤ 16) (ha : placeI h c s = (a : Int)) (hn : a < n) (hn2 : n ≤ 3000000) (hy : y < 256) (hp : p < m) (hm : m ≤ 1000) (u0 : -1048576 ≤ u) (u1 : u ≤ 1048576) (v0 : -1048576 ≤ v) (v1 : v ≤ 1048576) (x0 : -2047 ≤ x) (x1 : x ≤ 2047) (k7 : w.cell? ⟨g, 7, none⟩ = some (.int .u32 h)) (k1 : w.cell? ⟨g, 1, none⟩ = some (.int .i64 (s : Int))) (b1 : w.cell? ⟨B, 1, none⟩ = some (.int .i64 c)) (k8 : w.cell? ⟨g, 8, none⟩ = some (.slice (some ⟨gs, 0, none⟩) n cp)) (s0 : w.cell? ⟨gs, a, none⟩ = some (.int .u8 (y : Int))) (w0 : w.cell? ⟨g, 9 + y * 2, none⟩ = some (.int .i64 u)) (w1 : w.cell? ⟨g, 9 + y * 2 + 1, none⟩ = some (.int .i64 v)) (l4 : w.cell? ⟨B, 4, none⟩ = some (.slice (some ⟨g2, 0, none⟩) m cm)) (k2 : w.cell? ⟨g, 2, none⟩ = some (.int .i64 (p : Int))) (lx : w.cell? ⟨g2, p, none⟩ = some (.int .i64 x)) :
    Calls Try.prog 115 #[.pointer (some ⟨g, 0, none⟩), .pointer (some ⟨B, 1, none⟩)] w (Quiet (.int .i64 (isL u v x)) w) := by
  have HL := Lib.hid (show Below w.heap.size w w from Below.refl _ _)
  have HF := Lib.hid (show ∀ W : World, Below w.heap.size w W → W.cell? ⟨g, 7, none⟩ = some (.int .u32 h) ∧ W.cell? ⟨g, 1, none⟩ = some (.int .i64 (s : Int)) ∧ W.cell? ⟨B, 1, none⟩ = some (.int .i64 c) ∧ W.cell? ⟨g, 8, none⟩ = some (.slice (some ⟨gs, 0, none⟩) n cp) ∧ W.cell? ⟨gs, a, none⟩ = some (.int .u8 (y : Int)) ∧ W.cell? ⟨g, 9 + y * 2, none⟩ = some (.int .i64 u) ∧ W.cell? ⟨g, 9 + y * 2 + 1, none⟩ = some (.int .i64 v) ∧ W.cell? ⟨B, 4, none⟩ = some (.slice (some ⟨g2, 0, none⟩) m cm) ∧ W.cell? ⟨g, 2, none⟩ = some (.int .i64 (p : Int)) ∧ W.cell? ⟨g2, p, none⟩ = some (.int .i64 x) ∧ Below w.heap.size w W from fun W hL => ⟨ck k7 hL, ck k1 hL, ck b1 hL, ck k8 hL, ck s0 hL, ck w0 hL, ck w1 hL, ck l4 hL, ck k2 hL, ck lx hL, hL⟩)
  have HAT := Lib.hid (show ∀ W : World, (W.cell? ⟨g, 7, none⟩ = some (.int .u32 h) ∧ W.cell? ⟨g, 1, none⟩ = some (.int .i64 (s : Int)) ∧ W.cell? ⟨B, 1, none⟩ = some (.int .i64 c) ∧ W.cell? ⟨g, 8, none⟩ = some (.slice (some ⟨gs, 0, none⟩) n cp) ∧ W.cell? ⟨gs, a, none⟩ = some (.int .u8 (y : Int)) ∧ W.cell? ⟨g, 9 + y * 2, none⟩ = some (.int .i64 u) ∧ W.cell? ⟨g, 9 + y * 2 + 1, none⟩ = some (.int .i64 v) ∧ W.cell? ⟨B, 4, none⟩ = some (.slice (some ⟨g2, 0, none⟩) m cm) ∧ W.cell? ⟨g, 2, none⟩ = some (.int .i64 (p : Int)) ∧ W.cell? ⟨g2, p, none⟩ = some (.int .i64 x) ∧ Below w.heap.size w W) → Calls Try.prog 95 #[.pointer (some ⟨g, 0, none⟩), .pointer (some ⟨B, 1, none⟩)] W (Quiet (.int .i64 (a : Int)) W) from fun W hW => ha ▸ atU_any g B h c s W h0 h1 c0 c1 s2 (hW.1) (hW.2.1) (hW.2.2.1))
  have g1 := mulB (a := u) (b := x) (A := 1048576) (B := 2047) u0 u1 x0 x1
  have e1 := IntWalk.i64_in (u * x) (by omega)
  have e2 := IntWalk.i64_in (v * 64) (by omega)
  have e3 := IntWalk.i64_in (u * x + v * 64) (by omega)
  have E1 := Lib.hid e1
  have E2 := Lib.hid e2
  have E3 := Lib.hid e3
  have hy0 : (0 : Int) ≤ (y : Int) := by omega
  have hy1 : (y : Int) < 256 := by omega
  clear h0 h1 c0 c1 s2 ha e1 e2 e3 g1 u0 u1 v0 v1 x0 x1
  go_enter Try.func115, Try.ntmps115
  go_upto_region 1 with fail
  refine wp_region_held_drew (S := (fun W : World => W.cell? ⟨g, 7, none⟩ = some (.int .u32 h) ∧ W.cell? ⟨g, 1, none⟩ = some (.int .i64 (s : Int)) ∧ W.cell? ⟨B, 1, none⟩ = some (.int .i64 c) ∧ W.cell? ⟨g, 8, none⟩ = some (.slice (some ⟨gs, 0, none⟩) n cp) ∧ W.cell? ⟨gs, a, none⟩ = some (.int .u8 (y : Int)) ∧ W.cell? ⟨g, 9 + y * 2, none⟩ = some (.int .i64 u) ∧ W.cell? ⟨g, 9 + y * 2 + 1, none⟩ = some (.int .i64 v) ∧ W.cell? ⟨B, 4, none⟩ = some (.slice (some ⟨g2, 0, none⟩) m cm) ∧ W.cell? ⟨g, 2, none⟩ = some (.int .i64 (p : Int)) ∧ W.cell? ⟨g2, p, none⟩ = some (.int .i64 x) ∧ Below w.heap.size w W)) (by kernel_rfl) (HF.out _ (below_drewN (HL.out) 1)) (fun hHeld => ?_)
  refine tkz (i := 0) (d := 6) rfl rfl ?_
  simp only [Act.put, zzA, zzB, zzC]
  refine tkz (i := 1) (d := 7) rfl rfl ?_
  simp only [Act.put, zzA, zzB, zzC]
  refine tkz (i := 2) (d := 8) rfl rfl ?_
  simp only [Act.put, zzA, zzB, zzC]
  refine tkz (i := 3) (d := 9) rfl rfl ?_
  simp only [Act.put, zzA, zzB, zzC]
  refine tkz (i := 4) (d := 10) rfl rfl ?_
  simp only [Act.put, zzA, zzB, zzC]
  refine tkz (i := 5) (d := 11) rfl rfl ?_
  simp only [Act.put, zzA, zzB, zzC]
  refine tkz (i := 6) (d := 12) rfl rfl ?_
  simp only [Act.put, zzA, zzB, zzC]
  refine tkz (i := 7) (d := 13) rfl rfl ?_
  simp only [Act.put, zzA, zzB, zzC]
  refine tkz (i := 8) (d := 14) rfl rfl ?_
  simp only [Act.put, zzA, zzB, zzC]
  refine tkz (i := 12) (d := 18) rfl rfl ?_
  simp only [Act.put, zzA, zzB, zzC]
  refine tkz (i := 13) (d := 19) rfl rfl ?_
  simp only [Act.put, zzA, zzB, zzC]
  refine rdz (i := 9) rfl (fun K hK => ?_)
  go_simp
  refine (HAT.out _ hHeld).mono ?_
  rintro e w1 ⟨rfl, hb⟩
  go_wp2_with fail
  refine hK.out _ _ (HF.out _ (bl_step (hHeld.2.2.2.2.2.2.2.2.2.2) hb)) (fun hHeld => ?_)
  clear hK K
  try simp only [Act.put, zzA, zzB, zzC]
  refine tkz (i := 10) (d := 16) rfl rfl ?_
  simp only [Act.put, zzA, zzB, zzC]
  refine tkz (i := 11) (d := 17) rfl rfl ?_
  simp only [Act.put, zzA, zzB, zzC]
  refine tkz (i := 14) (d := 20) rfl rfl ?_
  simp only [Act.put, zzA, zzB, zzC]
  refine tkz (i := 15) (d := 5) rfl rfl ?_
  simp only [Act.put, zzA, zzB, zzC]
  refine wpAnyH_done (by kernel_rfl) ?_ _
  have HB1 := Lib.hid (hHeld.2.2.2.2.2.2.2.2.2.2)
  clear hHeld
  go_upto_region 2 with fail
  have e1 := E1.out
  have e2 := E2.out
  have e3 := E3.out
  refine wp_region_held_drew (S := (fun W : World => W.cell? ⟨g, 7, none⟩ = some (.int .u32 h) ∧ W.cell? ⟨g, 1, none⟩ = some (.int .i64 (s : Int)) ∧ W.cell? ⟨B, 1, none⟩ = some (.int .i64 c) ∧ W.cell? ⟨g, 8, none⟩ = some (.slice (some ⟨gs, 0, none⟩) n cp) ∧ W.cell? ⟨gs, a, none⟩ = some (.int .u8 (y : Int)) ∧ W.cell? ⟨g, 9 + y * 2, none⟩ = some (.int .i64 u) ∧ W.cell? ⟨g, 9 + y * 2 + 1, none⟩ = some (.int .i64 v) ∧ W.cell? ⟨B, 4, none⟩ = some (.slice (some ⟨g2, 0, none⟩) m cm) ∧ W.cell? ⟨g, 2, none⟩ = some (.int .i64 (p : Int)) ∧ W.cell? ⟨g2, p, none⟩ = some (.int .i64 x) ∧ Below w.heap.size w W)) (by kernel_rfl) (HF.out _ (below_drewN (HB1.out) 1)) (fun hHeld => ?_)
  refine tkz (i := 0) (d := 21) rfl rfl ?_
  simp only [Act.put, zzA, zzB, zzC]
  refine tkz (i := 1) (d := 22) rfl rfl ?_
  simp only [Act.put, zzA, zzB, zzC]
  refine tkz (i := 2) (d := 23) rfl rfl ?_
  simp only [Act.put, zzA, zzB, zzC]
  refine tkz (i := 3) (d := 24) rfl rfl ?_
  simp only [Act.put, zzA, zzB, zzC]
  refine tkz (i := 4) (d := 25) rfl rfl ?_
  simp only [Act.put, zzA, zzB, zzC]
  refine tkz (i := 5) (d := 26) rfl rfl ?_
  simp only [Act.put, zzA, zzB, zzC]
  refine tkz (i := 6) (d := 27) rfl rfl ?_
  simp only [Act.put, zzA, zzB, zzC]
  refine tkz (i := 7) (d := 28) rfl rfl ?_
  simp only [Act.put, zzA, zzB, zzC]
  refine tkz (i := 8) (d := 29) rfl rfl ?_
  simp only [Act.put, zzA, zzB, zzC]
  refine tkz (i := 9) (d := 30) rfl rfl ?_
  simp only [Act.put, zzA, zzB, zzC]
  refine tkz (i := 10) (d := 31) rfl rfl ?_
  simp only [Act.put, zzA, zzB, zzC]
  refine tkz (i := 11) (d := 32) rfl rfl ?_
  simp only [Act.put, zzA, zzB, zzC]
  refine tkz (i := 12) (d := 33) rfl rfl ?_
  simp only [Act.put, zzA, zzB, zzC]
  refine tkz (i := 13) (d := 34) rfl rfl ?_
  simp only [Act.put, zzA, zzB, zzC]
  refine tkz (i := 14) (d := 35) rfl rfl ?_
  simp only [Act.put, zzA, zzB, zzC]
  refine tkz (i := 15) (d := 36) rfl rfl ?_
  simp only [Act.put, zzA, zzB, zzC]
  refine tkz (i := 16) (d := 37) rfl rfl ?_
  simp only [Act.put, zzA, zzB, zzC]
  refine tkz (i := 17) (d := 38) rfl rfl ?_
  simp only [Act.put, zzA, zzB, zzC]
  refine tkz (i := 18) (d := 39) rfl rfl ?_
  simp only [Act.put, zzA, zzB, zzC]
  refine tkz (i := 19) (d := 40) rfl rfl ?_
  simp only [Act.put, zzA, zzB, zzC]
  refine tkz (i := 20) (d := 41) rfl rfl ?_
  simp only [Act.put, zzA, zzB, zzC]
  refine tkz (i := 21) (d := 42) rfl rfl ?_
  simp only [Act.put, zzA, zzB, zzC]
  refine tkz (i := 22) (d := 43) rfl rfl ?_
  simp only [Act.put, zzA, zzB, zzC]
  refine tkz (i := 23) (d := 44) rfl rfl ?_
  simp only [Act.put, zzA, zzB, zzC]
  refine rdz (i := 24) rfl (fun K hK => ?_)
  go_simp
  refine (into_any _ _ _ _).mono ?_
  rintro e w9 ⟨rfl, rfl⟩
  go_wp2_with fail
  refine hK.out _ _ hHeld (fun hHeld => ?_)
  clear hK K
  try simp only [Act.put, zzA, zzB, zzC]
  refine tkz (i := 25) (d := 4) rfl rfl ?_
  simp only [Act.put, zzA, zzB, zzC]
  refine wpAnyH_done (by kernel_rfl) ?_ _
  clear e1 e2 e3
  go_wp2
  go_ret
  exact ⟨rfl, hHeld.2.2.2.2.2.2.2.2.2.2⟩
end Go.Proofs.Ytnohfeaamfjimaa
namespace Go.Proofs.Ytnohfeaamfjimaa
open Go.RowKit Go.WideShapes
set_option linter.unusedVariables false
set_option linter.unusedSimpArgs false
def isU (u E x : Int) : Int := intoI (u + (E * x + 4096) / 8192) (-1048576) 1048576
def isV (v E : Int) : Int := intoI (v + (E + 16) / 32) (-1048576) 1048576
structure ChainL (g gs : Nat) (G : Array Value) (l : List Int) (w0 : World) (e : Ending) (w : World) : Prop where
  ret : e = .returned (.tuple #[])
  blk : Blk w g 113 G
  oct : Blk w gs 5 (octs l).toArray
  frm : Frm (fun b => b = g ∨ b = gs) w0 w
theorem cell_off {w : World} {g o i : Nat} {u v : Value} (h : w.cell? ⟨g, i, none⟩ = some v) (hne : o ≠ i) : (w.setCell ⟨g, o, none⟩ u).cell? ⟨g, i, none⟩ = some v := by
  rw [World.cell?_setCell_other w _ _ _ (fun e => hne (congrArg Addr.off e))]
  exact h
set_option maxRecDepth 100000 in
set_option maxHeartbeats 4000000 in
theorem learn116 (g B gs n cp g2 m cm p : Nat) (G : Array Value) (l : List Int) (h c u v x d bit : Int) (s a y : Nat) (w : World) (h0 : 0 ≤ h) (h1 : h ≤ 4294967295) (c0 : 0 ≤ c) (c1 : c ≤ 255) (s2 : s ≤ 16) (ha : placeI h c s = (a : Int)) (hn : a < n) (hn2 : n ≤ 3000000) (hy : y < 256) (hp : p < m) (hm : m ≤ 1000) (u0 : -1048576 ≤ u) (u1 : u ≤ 1048576) (v0 : -1048576 ≤ v) (v1 : v ≤ 1048576) (x0 : -2047 ≤ x) (x1 : x ≤ 2047) (hbit : bit = 0 ∨ bit = 1) (E : Int) (hE : 4095 * bit - sqI d = E) (hG : Blk w g 113 G) (hS : Blk w gs 5 (octs l).toArray) (hla : l[a]? = some (y : Int)) (hGu : G[9 + y * 2]? = some (.int .i64 u)) (hGv : G[9 + y * 2 + 1]? = some (.int .i64 v)) (hne : ¬ g = gs) (NB : Hid (¬ B = g)) (N2 : Hid (¬ g2 = g)) (k7 : w.cell? ⟨g, 7, none⟩ = some (.int .u32 h)) (k1 : w.cell? ⟨g, 1, none⟩ = some (.int .i64 (s : Int))) (b1 : w.cell? ⟨B, 1, none⟩ = some (.int .i64 c)) (k8 : w.cell? ⟨g, 8, none⟩ = some (.slice (some ⟨gs, 0, none⟩) n cp)) (s0 : w.cell? ⟨gs, a, none⟩ = some (.int .u8 (y : Int))) (l4 : w.cell? ⟨B, 4, none⟩ = some (.slice (some ⟨g2, 0, none⟩) m cm)) (k2 : w.cell? ⟨g, 2, none⟩ = some (.int .i64 (p : Int))) (lx : w.cell? ⟨g2, p, none⟩ = some (.int .i64 x)) :
    Calls Try.prog 116 #[.pointer (some ⟨g, 0, none⟩), .pointer (some ⟨B, 1, none⟩), .int .i64 d, .int .i64 bit] w (ChainL g gs ((G.setIfInBounds (9 + y * 2) (.int .i64 (isU u E x))).setIfInBounds (9 + y * 2 + 1) (.int .i64 (isV v E))) (l.set a (nextI y bit)) w) := by
  have HL := Lib.hid (show Below w.heap.size w w from Below.refl _ _)
  have HF := Lib.hid (show ∀ W : World, Below w.heap.size w W → W.cell? ⟨g, 7, none⟩ = some (.int .u32 h) ∧ W.cell? ⟨g, 1, none⟩ = some (.int .i64 (s : Int)) ∧ W.cell? ⟨B, 1, none⟩ = some (.int .i64 c) ∧ W.cell? ⟨g, 8, none⟩ = some (.slice (some ⟨gs, 0, none⟩) n cp) ∧ W.cell? ⟨gs, a, none⟩ = some (.int .u8 (y : Int)) ∧ W.cell? ⟨B, 4, none⟩ = some (.slice (some ⟨g2, 0, none⟩) m cm) ∧ W.cell? ⟨g, 2, none⟩ = some (.int .i64 (p : Int)) ∧ W.cell? ⟨g2, p, none⟩ = some (.int .i64 x) ∧ Below w.heap.size w W from fun W hL => ⟨ck k7 hL, ck k1 hL, ck b1 hL, ck k8 hL, ck s0 hL, ck l4 hL, ck k2 hL, ck lx hL, hL⟩)
  have HAT := Lib.hid (show ∀ W : World, (W.cell? ⟨g, 7, none⟩ = some (.int .u32 h) ∧ W.cell? ⟨g, 1, none⟩ = some (.int .i64 (s : Int)) ∧ W.cell? ⟨B, 1, none⟩ = some (.int .i64 c) ∧ W.cell? ⟨g, 8, none⟩ = some (.slice (some ⟨gs, 0, none⟩) n cp) ∧ W.cell? ⟨gs, a, none⟩ = some (.int .u8 (y : Int)) ∧ W.cell? ⟨B, 4, none⟩ = some (.slice (some ⟨g2, 0, none⟩) m cm) ∧ W.cell? ⟨g, 2, none⟩ = some (.int .i64 (p : Int)) ∧ W.cell? ⟨g2, p, none⟩ = some (.int .i64 x) ∧ Below w.heap.size w W) → Calls Try.prog 95 #[.pointer (some ⟨g, 0, none⟩), .pointer (some ⟨B, 1, none⟩)] W (Quiet (.int .i64 (a : Int)) W) from fun W hW => ha ▸ atU_any g B h c s W h0 h1 c0 c1 s2 (hW.1) (hW.2.1) (hW.2.2.1))
  have hE2 : -4095 ≤ E ∧ E ≤ 4095 := by have := sq_bd d; omega
  have HMI := Lib.hid (show ∀ W : World, Calls Try.prog 94 #[.pointer (some ⟨g, 0, none⟩), .int .i64 d, .int .i64 bit] W (Quiet (.int .i64 E) W) from fun W => hE ▸ miss_any g d bit W hbit)
  have g1 := mulB (a := E) (b := x) (A := 4095) (B := 2047) (by omega) (by omega) x0 x1
  have e1 := IntWalk.i64_in (E * x) (by omega)
  have e2 := IntWalk.i64_in (E * x + 4096) (by omega)
  have e3 := IntWalk.i64_in (u + (E * x + 4096) / 8192) (by omega)
  have e4 := IntWalk.i64_in (E + 16) (by omega)
  have e5 := IntWalk.i64_in (v + (E + 16) / 32) (by omega)
  have E1 := Lib.hid e1
  have E2 := Lib.hid e2
  have E3 := Lib.hid e3
  have E4 := Lib.hid e4
  have E5 := Lib.hid e5
  have HNX := Lib.hid (show ∀ W : World, Calls Try.prog 101 #[.int .u8 (y : Int), .int .i64 bit] W fun e W' => e = .returned (.int .u8 (nextI y bit)) ∧ W = W' from fun W => next_any (y : Int) bit W (by omega) (by omega))
  have HG := Lib.hid hG
  have HS := Lib.hid hS
  have HGU := Lib.hid hGu
  have HGV := Lib.hid hGv
  have NE := Lib.hid hne
  have hy0 : (0 : Int) ≤ (y : Int) := by omega
  have hy1 : (y : Int) < 256 := by omega
  have hrU : isU u E x = intoI (u + (E * x + 4096) / 8192) (-1048576) 1048576 := rfl
  have hrV : isV v E = intoI (v + (E + 16) / 32) (-1048576) 1048576 := rfl
  obtain ⟨RU, hU2⟩ : ∃ R, isU u E x = R := ⟨_, rfl⟩
  obtain ⟨RV, hV2⟩ : ∃ R, isV v E = R := ⟨_, rfl⟩
  obtain ⟨y2, hy2⟩ : ∃ y2, nextI (y : Int) bit = y2 := ⟨_, rfl⟩
  rw [hU2] at hrU ⊢
  rw [hV2] at hrV ⊢
  rw [hy2] at HNX ⊢
  have HRU := Lib.hid hrU
  have HRV := Lib.hid hrV
  clear h0 h1 c0 c1 s2 ha e1 e2 e3 e4 e5 g1 u0 u1 v0 v1 x0 x1 hG hS hGu hGv hne hE hE2 hbit hU2 hV2 hrU hrV hy2
  go_enter Try.func116, Try.ntmps116
  go_upto_region 0 with fail
  refine wp_region_held_drew (S := (fun W : World => W.cell? ⟨g, 7, none⟩ = some (.int .u32 h) ∧ W.cell? ⟨g, 1, none⟩ = some (.int .i64 (s : Int)) ∧ W.cell? ⟨B, 1, none⟩ = some (.int .i64 c) ∧ W.cell? ⟨g, 8, none⟩ = some (.slice (some ⟨gs, 0, none⟩) n cp) ∧ W.cell? ⟨gs, a, none⟩ = some (.int .u8 (y : Int)) ∧ W.cell? ⟨B, 4, none⟩ = some (.slice (some ⟨g2, 0, none⟩) m cm) ∧ W.cell? ⟨g, 2, none⟩ = some (.int .i64 (p : Int)) ∧ W.cell? ⟨g2, p, none⟩ = some (.int .i64 x) ∧ Below w.heap.size w W)) (by kernel_rfl) (HF.out _ (below_drewN (HL.out) 1)) (fun hHeld => ?_)
  refine tkz (i := 0) (d := 11) rfl rfl ?_
  simp only [Act.put, zzA, zzB, zzC]
  refine tkz (i := 1) (d := 12) rfl rfl ?_
  simp only [Act.put, zzA, zzB, zzC]
  refine tkz (i := 2) (d := 13) rfl rfl ?_
  simp only [Act.put, zzA, zzB, zzC]
  refine tkz (i := 3) (d := 14) rfl rfl ?_
  simp only [Act.put, zzA, zzB, zzC]
  refine tkz (i := 4) (d := 15) rfl rfl ?_
  simp only [Act.put, zzA, zzB, zzC]
  refine tkz (i := 5) (d := 16) rfl rfl ?_
  simp only [Act.put, zzA, zzB, zzC]
  refine tkz (i := 6) (d := 17) rfl rfl ?_
  simp only [Act.put, zzA, zzB, zzC]
  refine tkz (i := 7) (d := 18) rfl rfl ?_
  simp only [Act.put, zzA, zzB, zzC]
  refine rdz (i := 8) rfl (fun K hK => ?_)
  go_simp
  refine (HAT.out _ hHeld).mono ?_
  rintro e w1 ⟨rfl, hb⟩
  go_wp2_with fail
  refine hK.out _ _ (HF.out _ (bl_step (hHeld.2.2.2.2.2.2.2.2) hb)) (fun hHeld => ?_)
  clear hK K
  try simp only [Act.put, zzA, zzB, zzC]
  refine tkz (i := 9) (d := 20) rfl rfl ?_
  simp only [Act.put, zzA, zzB, zzC]
  refine tkz (i := 10) (d := 8) rfl rfl ?_
  simp only [Act.put, zzA, zzB, zzC]
  refine wpAnyH_done (by kernel_rfl) ?_ _
  have HB1 := Lib.hid (hHeld.2.2.2.2.2.2.2.2)
  clear hHeld
  go_upto_region 1 with fail
  obtain ⟨q7, q1, qb, q8, qs, q4, q2, qx, _⟩ := HF.out w1 HB1.out
  go_quiet (fail)
  have HB1n := Lib.hid (below_drewN HB1.out nq)
  clear q7 q1 qb q8 qs q4 q2 qx
  generalize w1.drewN nq = w1n at *
  go_wp2_with fail
  refine (HMI.out _).mono ?_
  rintro e w2 ⟨rfl, hb⟩
  have HB2 := Lib.hid (bl_step HB1n.out hb)
  clear hb
  go_upto_region 3 with fail
  have hG2 : Blk w2.drew g 113 G := Blk.drew (HG.out.below HB2.out)
  have cu := (hG2.cell (9 + y * 2)).trans HGU.out
  have zu := hG2.frozen (9 + y * 2)
  have HG2 := Lib.hid hG2
  have HS2 := Lib.hid (show Blk w2.drew gs 5 (octs l).toArray from Blk.drew (HS.out.below HB2.out))
  have HFR2 := Lib.hid (show Frm (fun b => b = g ∨ b = gs) w w2.drew from (Frm.of_below HB2.out).drew)
  have e1 := E1.out
  have e2 := E2.out
  have e3 := E3.out
  clear hG2
  have HSX := Lib.hid (show (fun W : World => W.cell? ⟨B, 4, none⟩ = some (.slice (some ⟨g2, 0, none⟩) m cm) ∧ W.cell? ⟨g, 2, none⟩ = some (.int .i64 (p : Int)) ∧ W.cell? ⟨g2, p, none⟩ = some (.int .i64 x)) w2.drew from ⟨(HF.out _ HB2.out).2.2.2.2.2.1, (HF.out _ HB2.out).2.2.2.2.2.2.1, (HF.out _ HB2.out).2.2.2.2.2.2.2.1⟩)
  refine wp_region_held_drew (S := (fun W : World => W.cell? ⟨B, 4, none⟩ = some (.slice (some ⟨g2, 0, none⟩) m cm) ∧ W.cell? ⟨g, 2, none⟩ = some (.int .i64 (p : Int)) ∧ W.cell? ⟨g2, p, none⟩ = some (.int .i64 x))) (by kernel_rfl) HSX.out (fun hHeld => ?_)
  replace cu : w2.drew.cell? ⟨g, 9 + y * 2, none⟩ = some (.int .i64 u) := cu
  replace zu : w2.drew.frozen? ⟨g, 9 + y * 2, none⟩ = false := zu
  generalize w2.drew = W2 at *
  refine tkz (i := 0) (d := 34) rfl rfl ?_
  simp only [Act.put, zzA, zzB, zzC]
  refine tkz (i := 1) (d := 35) rfl rfl ?_
  simp only [Act.put, zzA, zzB, zzC]
  refine tkz (i := 2) (d := 36) rfl rfl ?_
  simp only [Act.put, zzA, zzB, zzC]
  refine tkz (i := 3) (d := 37) rfl rfl ?_
  simp only [Act.put, zzA, zzB, zzC]
  refine tkz (i := 5) (d := 39) rfl rfl ?_
  simp only [Act.put, zzA, zzB, zzC]
  refine tkz (i := 6) (d := 40) rfl rfl ?_
  simp only [Act.put, zzA, zzB, zzC]
  refine tkz (i := 7) (d := 41) rfl rfl ?_
  simp only [Act.put, zzA, zzB, zzC]
  refine tkz (i := 8) (d := 42) rfl rfl ?_
  simp only [Act.put, zzA, zzB, zzC]
  refine tkz (i := 9) (d := 43) rfl rfl ?_
  simp only [Act.put, zzA, zzB, zzC]
  refine tkz (i := 10) (d := 44) rfl rfl ?_
  simp only [Act.put, zzA, zzB, zzC]
  refine tkz (i := 11) (d := 45) rfl rfl ?_
  simp only [Act.put, zzA, zzB, zzC]
  refine tkz (i := 12) (d := 46) rfl rfl ?_
  simp only [Act.put, zzA, zzB, zzC]
  refine tkz (i := 13) (d := 47) rfl rfl ?_
  simp only [Act.put, zzA, zzB, zzC]
  refine tkz (i := 14) (d := 48) rfl rfl ?_
  simp only [Act.put, zzA, zzB, zzC]
  refine tkz (i := 15) (d := 49) rfl rfl ?_
  simp only [Act.put, zzA, zzB, zzC]
  refine tkz (i := 16) (d := 50) rfl rfl ?_
  simp only [Act.put, zzA, zzB, zzC]
  refine tkz (i := 17) (d := 51) rfl rfl ?_
  simp only [Act.put, zzA, zzB, zzC]
  refine tkz (i := 18) (d := 52) rfl rfl ?_
  simp only [Act.put, zzA, zzB, zzC]
  refine tkz (i := 19) (d := 53) rfl rfl ?_
  simp only [Act.put, zzA, zzB, zzC]
  refine tkz (i := 20) (d := 54) rfl rfl ?_
  simp only [Act.put, zzA, zzB, zzC]
  refine tkz (i := 23) (d := 57) rfl rfl ?_
  simp only [Act.put, zzA, zzB, zzC]
  refine rdz (i := 4) rfl (fun K hK => ?_)
  go_simp
  refine hK.out _ _ hHeld (fun hHeld => ?_)
  clear hK K
  try simp only [Act.put, zzA, zzB, zzC]
  refine tkz (i := 21) (d := 55) rfl rfl ?_
  simp only [Act.put, zzA, zzB, zzC]
  refine rdz (i := 22) rfl (fun K hK => ?_)
  go_simp
  refine (into_any _ _ _ _).mono ?_
  rintro e w9 ⟨rfl, rfl⟩
  go_wp2_with fail
  refine hK.out _ _ hHeld (fun hHeld => ?_)
  clear hK K
  try simp only [Act.put, zzA, zzB, zzC]
  refine tkz (i := 24) (d := 58) rfl rfl ?_
  simp only [Act.put, zzA, zzB, zzC]
  refine rdz (i := 25) rfl (fun K hK => ?_)
  go_simp
  refine hK.out _ _ ⟨(World.cell?_setCell_far _ _ _ _ (fun h => NB.out h.symm)).trans hHeld.1, cell_off hHeld.2.1 (by omega), (World.cell?_setCell_far _ _ _ _ (fun h => N2.out h.symm)).trans hHeld.2.2⟩ (fun hHeld => ?_)
  clear hK K
  try simp only [Act.put, zzA, zzB, zzC]
  refine wpAnyH_done (by kernel_rfl) ?_ _
  clear e1 e2 e3 cu zu
  rw [← HRU.out]
  have HG3 := Lib.hid (HG2.out.set (9 + y * 2) (.int .i64 RU))
  have HS3 := Lib.hid (HS2.out.far (p := ⟨g, 9 + y * 2, none⟩) (fun h => NE.out h.symm) (.int .i64 RU))
  have HFR3 := Lib.hid (HFR2.out.setCell (p := ⟨g, 9 + y * 2, none⟩) (fun _ => .inl rfl) (.int .i64 RU))
  clear hHeld
  generalize W2.setCell ⟨g, 9 + y * 2, none⟩ (.int .i64 RU) = w3 at *
  go_upto_region 4 with fail
  have hG3 : Blk w3.drew g 113 (G.setIfInBounds (9 + y * 2) (.int .i64 RU)) := Blk.drew HG3.out
  have cv := (hG3.cell (9 + y * 2 + 1)).trans ((Array.getElem?_setIfInBounds_ne (by omega)).trans HGV.out)
  have zv := hG3.frozen (9 + y * 2 + 1)
  have hS3 : Blk w3.drew gs 5 (octs l).toArray := Blk.drew HS3.out
  have hF3 := HFR3.out.drew
  have e4 := E4.out
  have e5 := E5.out
  refine wp_region_held_drew (S := (fun _ : World => True)) (by kernel_rfl) trivial (fun hHeld => ?_)
  replace cv : w3.drew.cell? ⟨g, 9 + y * 2 + 1, none⟩ = some (.int .i64 v) := cv
  replace zv : w3.drew.frozen? ⟨g, 9 + y * 2 + 1, none⟩ = false := zv
  generalize w3.drew = W3 at *
  refine tkz (i := 0) (d := 59) rfl rfl ?_
  simp only [Act.put, zzA, zzB, zzC]
  refine tkz (i := 1) (d := 60) rfl rfl ?_
  simp only [Act.put, zzA, zzB, zzC]
  refine tkz (i := 2) (d := 61) rfl rfl ?_
  simp only [Act.put, zzA, zzB, zzC]
  refine tkz (i := 3) (d := 62) rfl rfl ?_
  simp only [Act.put, zzA, zzB, zzC]
  refine tkz (i := 5) (d := 64) rfl rfl ?_
  simp only [Act.put, zzA, zzB, zzC]
  refine tkz (i := 6) (d := 65) rfl rfl ?_
  simp only [Act.put, zzA, zzB, zzC]
  refine tkz (i := 7) (d := 66) rfl rfl ?_
  simp only [Act.put, zzA, zzB, zzC]
  refine tkz (i := 10) (d := 69) rfl rfl ?_
  simp only [Act.put, zzA, zzB, zzC]
  refine rdz (i := 4) rfl (fun K hK => ?_)
  go_simp
  refine hK.out _ _ hHeld (fun hHeld => ?_)
  clear hK K
  try simp only [Act.put, zzA, zzB, zzC]
  refine tkz (i := 8) (d := 67) rfl rfl ?_
  simp only [Act.put, zzA, zzB, zzC]
  refine rdz (i := 9) rfl (fun K hK => ?_)
  go_simp
  refine (into_any _ _ _ _).mono ?_
  rintro e w9 ⟨rfl, rfl⟩
  go_wp2_with fail
  refine hK.out _ _ trivial (fun hHeld => ?_)
  clear hK K
  try simp only [Act.put, zzA, zzB, zzC]
  refine tkz (i := 11) (d := 70) rfl rfl ?_
  simp only [Act.put, zzA, zzB, zzC]
  refine rdz (i := 12) rfl (fun K hK => ?_)
  go_simp
  refine hK.out _ _ trivial (fun hHeld => ?_)
  clear hK K
  try simp only [Act.put, zzA, zzB, zzC]
  refine wpAnyH_done (by kernel_rfl) ?_ _
  clear e4 e5 cv zv
  rw [← HRV.out]
  have HG4 := Lib.hid (hG3.set (9 + y * 2 + 1) (.int .i64 RV))
  have HS4 := Lib.hid (hS3.far (p := ⟨g, 9 + y * 2 + 1, none⟩) (fun h => NE.out h.symm) (.int .i64 RV))
  have HFR4 := Lib.hid (hF3.setCell (p := ⟨g, 9 + y * 2 + 1, none⟩) (fun _ => .inl rfl) (.int .i64 RV))
  clear hG3 hS3 hF3
  generalize W3.setCell ⟨g, 9 + y * 2 + 1, none⟩ (.int .i64 RV) = w4 at *
  have cs := (HS4.out.cell a).trans (octs_at hla)
  have zs := HS4.out.frozen a
  go_wp2_with fail
  refine (HNX.out _).mono ?_
  rintro e w5 ⟨rfl, rfl⟩
  go_wp2
  refine bodyPost_ret (v := .tuple #[]) (by simp [results, Try.results116, go_sem]) rfl ?_
  have k1 := HG4.out.far (p := ⟨gs, a, none⟩) (fun h => NE.out h) (.int .u8 y2)
  have k2 := HS4.out.set a (.int .u8 y2)
  rw [octs_set] at k2
  exact ⟨rfl, k1, k2, HFR4.out.setCell (p := ⟨gs, a, none⟩) (fun _ => .inr rfl) _⟩
end Go.Proofs.Ytnohfeaamfjimaa
