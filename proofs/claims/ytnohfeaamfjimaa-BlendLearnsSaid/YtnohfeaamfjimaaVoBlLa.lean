/- A part that counts comes to expect what always comes: plain. · BlendLearns: walk. -/
import Derived.Test.YtnohfeaamfjimaaVnBlLs
namespace Go.Proofs.Ytnohfeaamfjimaa
open Go.RowKit Go.WideShapes
set_option linter.unusedVariables false
set_option linter.unusedSimpArgs false
def runB (s : Bst) (bit : Int) : Nat → Bst
  | 0 => s
  | n + 1 => (runB s bit n).put bit
theorem learn_one (u : Un) (c : Int) (bits : Nat) (bit : Int) : learnB [u] c bits bit = [learnU u c (leansB [u] c bits) ((leansB [u] c bits).getD 0 0) bit] := rfl
theorem end_one (u : Un) (c : Int) (wh : Nat) : endB [u] c wh = [endU u c wh] := rfl
theorem endU_not {u : Un} (h : u.p.k ≠ 4) (c : Int) (wh : Nat) : endU u c wh = u := if_neg h
theorem put_one {s : Bst} {u : Un} (hu : s.us = [u]) (hk : u.p.k ≠ 4) (bit : Int) : ∃ L d, (s.put bit).us = [learnU u s.c L d bit] ∧ (s.put bit).bits = (if s.bits = 7 then 0 else s.bits + 1) ∧ ((s.put bit).bits = 0 → (s.put bit).c = 1) ∧ (s.put bit).wh = (if s.bits = 7 then s.wh + 1 else s.wh) := by
  refine ⟨leansB [u] s.c s.bits, (leansB [u] s.c s.bits).getD 0 0, ?_⟩
  have hp := learnU_p u s.c (leansB [u] s.c s.bits) ((leansB [u] s.c s.bits).getD 0 0) bit
  unfold Bst.put
  split
  · rename_i h7
    refine ⟨?_, rfl, fun _ => rfl, rfl⟩
    simp only [hu]
    rw [learn_one, end_one, endU_not (by rw [hp]; exact hk)]
  · refine ⟨?_, rfl, fun h => by simp only at h; omega, rfl⟩
    simp only [hu]
    rw [learn_one]
/-! ### A counter -/
def gS (bit : Int) : Nat → Int × Int
  | 0 => (2097152, 0)
  | v + 1 => (chL (gS bit v).1 (gS bit v).2 bit, min ((gS bit v).2 + 1) 255)
def q2 (S : Nat) : Pt := ⟨2, S, 0, 0, 0, 0, 255⟩
structure In2 (S : Nat) (bit : Int) (n : Nat) (s : Bst) : Prop where
  ex : ∃ u v, s.us = [u] ∧ u.p = q2 S ∧ u.h = 0 ∧ (n + 7) / 8 ≤ v ∧ u.t.length = 2 ^ S * 2 ∧ u.t.getD ((placeI 0 1 S).toNat * 2) 0 = (gS bit v).1 ∧ u.t.getD ((placeI 0 1 S).toNat * 2 + 1) 0 = (gS bit v).2
  bits : s.bits = n % 8
  c : s.bits = 0 → s.c = 1
  wh : s.wh = n / 8
theorem place_lt (S : Nat) (hS : S ≤ 10) (c : Int) : (placeI 0 c S).toNat < 2 ^ S := by
  have hb := place_bd 0 c S (by omega)
  have hp : ((2 ^ S : Nat) : Int) = (2 : Int) ^ S := by push_cast; rfl
  omega
theorem in2_new (S : Nat) (hS : S ≤ 10) (bit : Int) : In2 S bit 0 (Bst.new [q2 S]) := by
  have e : (beginU (q2 S)).t = pairs (fun _ => (2097152, 0)) (2 ^ S) := by simp [beginU, q2]
  obtain ⟨e1, e2⟩ := pairs_at (fun _ => (2097152, 0)) (2 ^ S) _ (place_lt S hS 1)
  refine ⟨⟨beginU (q2 S), 0, rfl, rfl, rfl, by omega, by rw [e, pairs_length], ?_, ?_⟩, rfl, fun _ => rfl, rfl⟩
  · rw [e, List.getD_eq_getElem?_getD, e1]; rfl
  · rw [e, List.getD_eq_getElem?_getD, e2]; rfl
theorem slowT_at (t : List Int) (k : Nat) (bit lim : Int) (h : k + 1 < t.length) : (slowT t k bit lim).getD k 0 = chL (t.getD k 0) (t.getD (k + 1) 0) bit ∧ (slowT t k bit lim).getD (k + 1) 0 = min (t.getD (k + 1) 0 + 1) lim := by
  unfold slowT
  constructor
  · rw [List.getD_eq_getElem?_getD, List.getElem?_set_ne (by omega), List.getElem?_set_self (by omega)]
    rfl
  · rw [List.getD_eq_getElem?_getD, List.getElem?_set_self (by rw [List.length_set]; omega)]
    rfl
theorem slowT_far (t : List Int) (k j : Nat) (bit lim : Int) (h1 : j ≠ k) (h2 : j ≠ k + 1) : (slowT t k bit lim).getD j 0 = t.getD j 0 := by
  unfold slowT
  rw [List.getD_eq_getElem?_getD, List.getElem?_set_ne (by omega), List.getElem?_set_ne (by omega), List.getD_eq_getElem?_getD]
theorem in2_step {S : Nat} (hS : S ≤ 10) {bit : Int} {n : Nat} {s : Bst} (h : In2 S bit n s) : In2 S bit (n + 1) (s.put bit) := by
  obtain ⟨⟨u, v, hu, hp, hh, hv, hl, h1, h2⟩, hb, hc, hw⟩ := h
  obtain ⟨L, d, e1, e2, e3, e4⟩ := put_one hu (by rw [hp]; exact (by decide : (2 : Int) ≠ 4)) bit
  have hsz : u.sz = S := by unfold Un.sz; rw [hp]; rfl
  have hat : u.at' s.c = (placeI 0 s.c S).toNat := by unfold Un.at'; rw [hh, hsz]
  have hlt := place_lt S hS s.c
  have h0 := place_lt S hS 1
  have el : learnU u s.c L d bit = { u with t := slowT u.t (u.at' s.c * 2) bit 255 } := by
    unfold learnU
    rw [if_pos (by rw [hp]; rfl)]
    rw [show u.p.l = 255 by rw [hp]; rfl]
  have hb' : (s.put bit).bits = (n + 1) % 8 := by rw [e2]; split <;> omega
  have hw' : (s.put bit).wh = (n + 1) / 8 := by rw [e4]; split <;> omega
  by_cases hq : (placeI 0 s.c S).toNat = (placeI 0 1 S).toNat
  · refine ⟨⟨{ u with t := slowT u.t (u.at' s.c * 2) bit 255 }, v + 1, e1.trans (by rw [el]), hp, hh, by omega, (slowT_length _ _ _ _).trans hl, ?_, ?_⟩, hb', e3, hw'⟩
    · show (slowT u.t (u.at' s.c * 2) bit 255).getD _ 0 = _
      rw [hat, hq, (slowT_at u.t _ bit 255 (by omega)).1, h1, h2]
      rfl
    · show (slowT u.t (u.at' s.c * 2) bit 255).getD _ 0 = _
      rw [hat, hq, (slowT_at u.t _ bit 255 (by omega)).2, h2]
      rfl
  · have hb0 : s.bits ≠ 0 := fun e => hq (by rw [hc e])
    refine ⟨⟨{ u with t := slowT u.t (u.at' s.c * 2) bit 255 }, v, e1.trans (by rw [el]), hp, hh, by omega, (slowT_length _ _ _ _).trans hl, ?_, ?_⟩, hb', e3, hw'⟩
    · show (slowT u.t (u.at' s.c * 2) bit 255).getD _ 0 = _
      rw [hat, slowT_far _ _ _ _ _ (by omega) (by omega), h1]
    · show (slowT u.t (u.at' s.c * 2) bit 255).getD _ 0 = _
      rw [hat, slowT_far _ _ _ _ _ (by omega) (by omega), h2]
theorem in2_run {S : Nat} (hS : S ≤ 10) (bit : Int) : ∀ n, In2 S bit n (runB (Bst.new [q2 S]) bit n)
  | 0 => in2_new S hS bit
  | n + 1 => in2_step hS (in2_run hS bit n)
theorem gS_bd {bit : Int} (hb : bit = 0 ∨ bit = 1) : ∀ v, (0 ≤ (gS bit v).1 ∧ (gS bit v).1 ≤ 4194303) ∧ (0 ≤ (gS bit v).2 ∧ (gS bit v).2 ≤ 255)
  | 0 => by simp [gS]
  | v + 1 => by
    obtain ⟨h1, h2⟩ := gS_bd hb v
    exact ⟨chL_bd h1.1 h1.2 h2.1 hb, by unfold gS; simp only; omega⟩
theorem chL_up {x m : Int} (hx : x ≤ 4194303) (hm : 0 ≤ m) : x ≤ chL x m 1 := by
  unfold chL
  have := Int.tdiv_nonneg (a := 1 * 4194303 - x) (b := m + 2) (by omega) (by omega)
  omega
theorem chL_down {x m : Int} (hx : 0 ≤ x) (hm : 0 ≤ m) : chL x m 0 ≤ x := by
  unfold chL
  have h := Int.tdiv_nonneg (a := x) (b := m + 2) hx (by omega)
  have e : (0 * 4194303 - x).tdiv (m + 2) = - (x.tdiv (m + 2)) := by rw [show (0 * 4194303 - x) = -x by omega, Int.neg_tdiv]
  omega
theorem gS_up (v : Nat) : ∀ k, (gS 1 v).1 ≤ (gS 1 (v + k)).1
  | 0 => Int.le_refl _
  | k + 1 => by
    obtain ⟨h1, h2⟩ := gS_bd (.inr rfl) (v + k)
    exact Int.le_trans (gS_up v k) (chL_up h1.2 h2.1)
theorem gS_down (v : Nat) : ∀ k, (gS 0 (v + k)).1 ≤ (gS 0 v).1
  | 0 => Int.le_refl _
  | k + 1 => by
    obtain ⟨h1, h2⟩ := gS_bd (.inl rfl) (v + k)
    exact Int.le_trans (chL_down h1.1 h2.1) (gS_down v k)
theorem g8_up : 3760 ≤ sqI (stI ((gS 1 8).1 / 1024)) := by decide +kernel
theorem g8_down : sqI (stI ((gS 0 8).1 / 1024)) ≤ 312 := by decide +kernel
theorem guess_one {s : Bst} {u : Un} (hu : s.us = [u]) : s.guess = 16 * sqI (leanU u s.c s.bits []) := by
  unfold Bst.guess Bst.leans
  rw [hu]
  rfl
theorem guess2 {S : Nat} (hS : S ≤ 10) {bit : Int} {n : Nat} {s : Bst} (h : In2 S bit n s) (hn : n % 8 = 0) : ∃ v, n / 8 ≤ v ∧ s.guess = 16 * sqI (stI ((gS bit v).1 / 1024)) := by
  obtain ⟨⟨u, v, hu, hp, hh, hv, hl, h1, h2⟩, hb, hc, hw⟩ := h
  have hsz : u.sz = S := by unfold Un.sz; rw [hp]; rfl
  have hc1 := hc (by omega)
  have hat : u.at' 1 = (placeI 0 1 S).toNat := by unfold Un.at'; rw [hh, hsz]
  refine ⟨v, by omega, ?_⟩
  rw [guess_one hu, hc1]
  unfold leanU
  rw [if_pos (by rw [hp]; rfl), hat, h1]
theorem learn2_one {S : Nat} (hS : S ≤ 10) : 60000 < (runB (Bst.new [q2 S]) 1 1600).guess := by
  obtain ⟨v, hv, e⟩ := guess2 hS (in2_run hS 1 1600) (by decide)
  obtain ⟨k, rfl⟩ : ∃ k, v = 8 + k := ⟨v - 8, by omega⟩
  have h1 := gS_up 8 k
  have h2 := sq_mono _ _ (st_mono _ _ (Int.ediv_le_ediv (c := 1024) (by omega) h1))
  have h3 := g8_up
  omega
theorem learn2_zero {S : Nat} (hS : S ≤ 10) : (runB (Bst.new [q2 S]) 0 1600).guess < 5000 := by
  obtain ⟨v, hv, e⟩ := guess2 hS (in2_run hS 0 1600) (by decide)
  obtain ⟨k, rfl⟩ : ∃ k, v = 8 + k := ⟨v - 8, by omega⟩
  have h1 := gS_down 8 k
  have h2 := sq_mono _ _ (st_mono _ _ (Int.ediv_le_ediv (c := 1024) (by omega) h1))
  have h3 := g8_down
  omega
/-! ### A history -/
def stp (bit : Int) (j : Nat) : Int := if bit = 1 then (j : Int) else (j : Int) * 16
def q3 (S : Nat) : Pt := ⟨3, S, 0, 0, 0, 0, 0⟩
theorem stp_next0 : ∀ j : Fin 16, nextI (stp 0 j.val) 0 = stp 0 (min (j.val + 1) 15) := by decide +kernel
theorem stp_next1 : ∀ j : Fin 16, nextI (stp 1 j.val) 1 = stp 1 (min (j.val + 1) 15) := by decide +kernel
theorem stp_next {bit : Int} (hb : bit = 0 ∨ bit = 1) {j : Nat} (hj : j ≤ 15) : nextI (stp bit j) bit = stp bit (min (j + 1) 15) := by
  rcases hb with rfl | rfl
  · exact stp_next0 ⟨j, by omega⟩
  · exact stp_next1 ⟨j, by omega⟩
theorem stp_bd {bit : Int} {j : Nat} (hj : j ≤ 15) : 0 ≤ stp bit j ∧ stp bit j ≤ 255 := by
  unfold stp
  split <;> omega
def Far (bit : Int) (x : Int) : Prop := (0 ≤ x ∧ x ≤ 65535) ∧ (bit = 1 → 63488 ≤ x) ∧ (bit = 0 → x ≤ 2048)
structure In3 (S : Nat) (bit : Int) (n : Nat) (s : Bst) : Prop where
  ex : ∃ u v, s.us = [u] ∧ u.p = q3 S ∧ u.h = 0 ∧ (n + 7) / 8 ≤ v ∧ u.b.length = 2 ^ S ∧ (∀ i, i < 2 ^ S → ∃ j, j ≤ 15 ∧ u.b.getD i 0 = stp bit j) ∧ u.b.getD (placeI 0 1 S).toNat 0 = stp bit (min v 15) ∧ u.x.length = 256 ∧ Far bit (u.x.getD (stp bit 15).toNat 0)
  bits : s.bits = n % 8
  c : s.bits = 0 → s.c = 1
  wh : s.wh = n / 8
theorem getD_set (l : List Int) (i j : Nat) (v : Int) (hi : i < l.length) : (l.set i v).getD j 0 = if i = j then v else l.getD j 0 := by
  rw [List.getD_eq_getElem?_getD, List.getElem?_set]
  split
  · rename_i h
    first
      | rfl
      | (rw [if_pos hi]; rfl)
  · rw [List.getD_eq_getElem?_getD]
theorem far0 {bit : Int} (hb : bit = 0 ∨ bit = 1) : Far bit (chanceI (((stp bit 15).toNat : Nat) : Int)) := by
  rcases hb with rfl | rfl
  · rw [show chanceI (((stp 0 15).toNat : Nat) : Int) = 2048 by decide +kernel]
    exact ⟨by omega, fun h => by omega, fun _ => by omega⟩
  · rw [show chanceI (((stp 1 15).toNat : Nat) : Int) = 63488 by decide +kernel]
    exact ⟨by omega, fun _ => by omega, fun h => by omega⟩
theorem in3_new (S : Nat) (hS : S ≤ 10) {bit : Int} (hb : bit = 0 ∨ bit = 1) : In3 S bit 0 (Bst.new [q3 S]) := by
  have e : (beginU (q3 S)).b = List.replicate (2 ^ S) 0 := by simp [beginU, q3]
  have ex : (beginU (q3 S)).x = (List.range 256).map (fun i : Nat => chanceI (i : Int)) := by simp [beginU, q3]
  have h0 := place_lt S hS 1
  have hz : stp bit 0 = 0 := by unfold stp; split <;> rfl
  have hr : ∀ i, i < 2 ^ S → (List.replicate (2 ^ S) (0 : Int)).getD i 0 = 0 := fun i hi => by
    rw [List.getD_eq_getElem?_getD, List.getElem?_replicate, if_pos hi]
    rfl
  have hk := stp_bd (bit := bit) (j := 15) (by omega)
  refine ⟨⟨beginU (q3 S), 0, rfl, rfl, rfl, by omega, by rw [e, List.length_replicate], fun i hi => ⟨0, by omega, by rw [e, hr i hi, hz]⟩, ?_, by rw [ex]; simp, ?_⟩, rfl, fun _ => rfl, rfl⟩
  · rw [e, hr _ h0]
    exact hz.symm
  · rw [ex, List.getD_eq_getElem?_getD, List.getElem?_map, List.getElem?_range (by omega)]
    exact far0 hb
theorem hiL_far {bit x : Int} (hb : bit = 0 ∨ bit = 1) (h : Far bit x) : Far bit (hiL x bit) := by
  obtain ⟨h0, h1, h2⟩ := h
  have hz := hiL_bd h0.1 h0.2 hb
  refine ⟨⟨hz.1, hz.2.1⟩, fun e => ?_, fun e => ?_⟩
  · subst e
    have := h1 rfl
    have := Int.tdiv_nonneg (a := 1 * 65535 - x) (b := 64) (by omega) (by omega)
    unfold hiL
    omega
  · subst e
    have := h2 rfl
    have h3 := Int.tdiv_nonneg (a := x) (b := 64) (by omega) (by omega)
    have e : (0 * 65535 - x).tdiv 64 = - (x.tdiv 64) := by rw [show (0 * 65535 - x) = -x by omega, Int.neg_tdiv]
    unfold hiL
    omega
theorem in3_step {S : Nat} (hS : S ≤ 10) {bit : Int} (hbit : bit = 0 ∨ bit = 1) {n : Nat} {s : Bst} (h : In3 S bit n s) : In3 S bit (n + 1) (s.put bit) := by
  obtain ⟨⟨u, v, hu, hp, hh, hv, hl, ha, h1, hx, hf⟩, hb, hc, hw⟩ := h
  obtain ⟨L, d, e1, e2, e3, e4⟩ := put_one hu (by rw [hp]; exact (by decide : (3 : Int) ≠ 4)) bit
  have hsz : u.sz = S := by unfold Un.sz; rw [hp]; rfl
  have hat : u.at' s.c = (placeI 0 s.c S).toNat := by unfold Un.at'; rw [hh, hsz]
  have hlt := place_lt S hS s.c
  have h0 := place_lt S hS 1
  obtain ⟨j, hj, hbj⟩ := ha _ hlt
  have hst : u.st s.c = (stp bit j).toNat := by unfold Un.st; rw [hat, hbj]
  have hjb := stp_bd (bit := bit) hj
  have hjb15 := stp_bd (bit := bit) (j := 15) (by omega)
  have hsti : ((u.st s.c : Nat) : Int) = stp bit j := by rw [hst]; omega
  have el : learnU u s.c L d bit = { u with x := u.x.set (u.st s.c) (hiL (u.x.getD (u.st s.c) 0) bit), b := u.b.set (u.at' s.c) (nextI (u.st s.c) bit) } := by
    unfold learnU
    rw [if_neg (by rw [hp]; exact (by decide : ¬ (3 : Int) = 2)), if_pos (by rw [hp]; rfl)]
  have hb' : (s.put bit).bits = (n + 1) % 8 := by rw [e2]; split <;> omega
  have hw' : (s.put bit).wh = (n + 1) / 8 := by rw [e4]; split <;> omega
  have hnx : nextI (u.st s.c) bit = stp bit (min (j + 1) 15) := by rw [hsti]; exact stp_next hbit hj
  have hX : (u.x.set (u.st s.c) (hiL (u.x.getD (u.st s.c) 0) bit)).length = 256 := (List.length_set ..).trans hx
  have hB : (u.b.set (u.at' s.c) (nextI (u.st s.c) bit)).length = 2 ^ S := (List.length_set ..).trans hl
  have hF : Far bit ((u.x.set (u.st s.c) (hiL (u.x.getD (u.st s.c) 0) bit)).getD (stp bit 15).toNat 0) := by
    rw [getD_set _ _ _ _ (by rw [hx]; omega)]
    split
    · rename_i he
      rw [he]
      exact hiL_far hbit hf
    · exact hf
  have hA : ∀ i, i < 2 ^ S → ∃ j, j ≤ 15 ∧ (u.b.set (u.at' s.c) (nextI (u.st s.c) bit)).getD i 0 = stp bit j := fun i hi => by
    rw [getD_set _ _ _ _ (by rw [hl, hat]; exact hlt)]
    split
    · exact ⟨_, by omega, hnx⟩
    · exact ha i hi
  by_cases hq : (placeI 0 s.c S).toNat = (placeI 0 1 S).toNat
  · refine ⟨⟨{ u with x := u.x.set (u.st s.c) (hiL (u.x.getD (u.st s.c) 0) bit), b := u.b.set (u.at' s.c) (nextI (u.st s.c) bit) }, v + 1, e1.trans (by rw [el]), hp, hh, by omega, hB, hA, ?_, hX, hF⟩, hb', e3, hw'⟩
    show (u.b.set (u.at' s.c) (nextI (u.st s.c) bit)).getD _ 0 = _
    rw [getD_set _ _ _ _ (by rw [hl, hat]; exact hlt), if_pos (by rw [hat, hq]), hsti]
    rw [hq, h1] at hbj
    rw [← hbj, stp_next hbit (by omega)]
    congr 1
    omega
  · have hb0 : s.bits ≠ 0 := fun e => hq (by rw [hc e])
    refine ⟨⟨{ u with x := u.x.set (u.st s.c) (hiL (u.x.getD (u.st s.c) 0) bit), b := u.b.set (u.at' s.c) (nextI (u.st s.c) bit) }, v, e1.trans (by rw [el]), hp, hh, by omega, hB, hA, ?_, hX, hF⟩, hb', e3, hw'⟩
    show (u.b.set (u.at' s.c) (nextI (u.st s.c) bit)).getD _ 0 = _
    rw [getD_set _ _ _ _ (by rw [hl, hat]; exact hlt), if_neg (by rw [hat]; exact hq)]
    exact h1
theorem in3_run {S : Nat} (hS : S ≤ 10) {bit : Int} (hb : bit = 0 ∨ bit = 1) : ∀ n, In3 S bit n (runB (Bst.new [q3 S]) bit n)
  | 0 => in3_new S hS hb
  | n + 1 => in3_step hS hb (in3_run hS hb n)
theorem guess3 {S : Nat} (hS : S ≤ 10) {bit : Int} {n : Nat} {s : Bst} (h : In3 S bit n s) (hn : n % 8 = 0) (h15 : 15 ≤ n / 8) : ∃ x, Far bit x ∧ s.guess = 16 * sqI (stI (x / 16)) := by
  obtain ⟨⟨u, v, hu, hp, hh, hv, hl, ha, h1, hx, hf⟩, hb, hc, hw⟩ := h
  have hsz : u.sz = S := by unfold Un.sz; rw [hp]; rfl
  have hc1 := hc (by omega)
  have hat : u.at' 1 = (placeI 0 1 S).toNat := by unfold Un.at'; rw [hh, hsz]
  have hst : u.st 1 = (stp bit 15).toNat := by
    unfold Un.st
    rw [hat, h1, show min v 15 = 15 by omega]
  refine ⟨_, hf, ?_⟩
  rw [guess_one hu, hc1]
  unfold leanU
  rw [if_neg (by rw [hp]; exact (by decide : ¬ (3 : Int) = 2)), if_pos (by rw [hp]; rfl), hst]
theorem g3_up : 3760 ≤ sqI (stI (63488 / 16)) := by decide +kernel
theorem g3_down : sqI (stI (2048 / 16)) ≤ 312 := by decide +kernel
theorem learn3_one {S : Nat} (hS : S ≤ 10) : 60000 < (runB (Bst.new [q3 S]) 1 1600).guess := by
  obtain ⟨x, hx, e⟩ := guess3 hS (in3_run hS (.inr rfl) 1600) (by decide) (by decide)
  have h2 := sq_mono _ _ (st_mono _ _ (Int.ediv_le_ediv (c := 16) (by omega) (hx.2.1 rfl)))
  have h3 := g3_up
  omega
theorem learn3_zero {S : Nat} (hS : S ≤ 10) : (runB (Bst.new [q3 S]) 0 1600).guess < 5000 := by
  obtain ⟨x, hx, e⟩ := guess3 hS (in3_run hS (.inl rfl) 1600) (by decide) (by decide)
  have h2 := sq_mono _ _ (st_mono _ _ (Int.ediv_le_ediv (c := 16) (by omega) (hx.2.2 rfl)))
  have h3 := g3_down
  omega
theorem run_wh2 {S : Nat} (hS : S ≤ 10) (bit : Int) {n : Nat} (h : n ≤ 1600) : (runB (Bst.new [q2 S]) bit n).wh ≤ 1000000 := by
  have := (in2_run hS bit n).wh
  omega
theorem run_wh3 {S : Nat} (hS : S ≤ 10) {bit : Int} (hb : bit = 0 ∨ bit = 1) {n : Nat} (h : n ≤ 1600) : (runB (Bst.new [q3 S]) bit n).wh ≤ 1000000 := by
  have := (in3_run hS hb n).wh
  omega
theorem run_ok {s : Bst} (h : s.Ok) {bit : Int} (hb : bit = 0 ∨ bit = 1) : ∀ n, (runB s bit n).Ok
  | 0 => h
  | n + 1 => Bst.put_ok (run_ok h hb n) hb
theorem q2_right : ∀ S : Fin 11, rightP [q2 S.val] = 0 := by decide +kernel
theorem q3_right : ∀ S : Fin 11, rightP [q3 S.val] = 0 := by decide +kernel
end Go.Proofs.Ytnohfeaamfjimaa
namespace Go.Proofs.Ytnohfeaamfjimaa
open Go.RowKit Go.WideShapes
set_option linter.unusedVariables false
set_option linter.unusedSimpArgs false
/-- One blend that a call has made. -/
structure OB (w0 w : World) (B : Nat) (s : Bst) : Prop where
  ex : ∃ T, BS T w B s ∧ ∀ b, T b → w0.heap.size ≤ b
  low : Below w0.heap.size w0 w
section
variable {w0 w w' : World} {B : Nat} {s s' : Bst} {f : FuncId} {args : Array Value} {v : Value}
theorem OB.op (h : OB w0 w B s) (hc : ∀ T, BS T w B s → Calls Try.prog f args w (OpS T B s' w v)) : Calls Try.prog f args w (fun e w' => e = .returned v ∧ OB w0 w' B s') := by
  obtain ⟨⟨T, h1, hg⟩, hl⟩ := h
  refine (hc T h1).mono ?_
  rintro e w' ⟨rfl, hbs, hf⟩
  refine ⟨rfl, ⟨Ext T w w', hbs, fun b hb => ?_⟩, hl.trans (hf.to_below hl.size (fun b hb => hg b hb))⟩
  rcases hb with hb | hb
  · exact hg b hb
  · have := hl.size
    omega
end
def pickI (x : Int) : Nat := (if x.tmod 11 < 0 then x.tmod 11 + 11 else x.tmod 11).toNat
theorem tmod_bd (x : Int) : -11 < x.tmod 11 ∧ x.tmod 11 < 11 := by
  have h1 := Int.tmod_lt_of_pos x (show (0 : Int) < 11 by omega)
  have h2 := Int.lt_tmod_of_pos x (show (0 : Int) < 11 by omega)
  omega
theorem pick_bd (x : Int) : pickI x < 11 := by
  have := tmod_bd x
  unfold pickI
  split <;> omega
theorem pick11 (x : Int) (w : World) (h0 : -9223372036854775808 ≤ x) (h1 : x ≤ 9223372036854775807) :
    Calls Try.prog 7 #[.int .i64 x, .int .i64 11] w (Sam (.int .i64 (pickI x : Int)) w) := by
  have h := tmod_bd x
  have e : ((pickI x : Nat) : Int) = if x.tmod 11 < 0 then x.tmod 11 + 11 else x.tmod 11 := by
    unfold pickI
    split <;> omega
  rw [e]
  by_cases hx : x.tmod 11 < 0
  · rw [if_pos hx]
    go_enter Try.func7, Try.ntmps7
    go_wp2
    go_ret
    exact ⟨rfl, rfl⟩
  · rw [if_neg hx]
    go_enter Try.func7, Try.ntmps7
    go_wp2
    go_ret
    exact ⟨rfl, rfl⟩
set_option maxRecDepth 100000 in
set_option maxHeartbeats 4000000 in
theorem learns_false_true (x : Int) (w : World) (h0 : -9223372036854775808 ≤ x) (h1 : x ≤ 9223372036854775807) :
    Calls Try.prog 3 #[.int .i64 x, .bool false, .bool true] w (Quiet (.bool true) w) := by
  have HPI := Lib.hid (fun W => pick11 x W h0 h1)
  have hSl := pick_bd x
  obtain ⟨S, hSq⟩ : ∃ S, pickI x = S := ⟨_, rfl⟩
  rw [hSq] at HPI hSl
  clear hSq h0 h1
  have hS : S ≤ 10 := by omega
  have hr : rightP [q2 S] = 0 := q2_right ⟨S, hSl⟩
  have hok : (q2 S).ok := by constructor <;> simp only [q2] <;> omega
  have ho := Bst.new_ok hr
  have HO := Lib.hid (fun n => run_ok ho (bit := 1) (.inr rfl) n)
  have HWH := Lib.hid (show ∀ n, n ≤ 1600 → (runB (Bst.new [q2 S]) 1 n).wh ≤ 1000000 from fun n hn => run_wh2 hS 1 hn)
  have HFIN := Lib.hid (learn2_one hS)
  have HNEW := Lib.hid (fun g0 W => newLit hok hr g0 W)
  have HLIT := Lib.hid (show ∀ (W : World) (g0 : Nat), g0 = W.heap.size → Rd (W.alloc (.cells #[.int .u8 2, .int .i64 (S : Int), .int .i64 0, .int .i64 0, .int .i64 0, .int .i64 0, .int .i64 255] 25)) (some ⟨g0, 0, none⟩) (q2 S).cells from fun W g0 h => h ▸ rd_lit W (q2 S))
  clear hr hok ho
  go_enter Try.func3, Try.ntmps3
  go_wp2_with fail
  refine (HPI.out _).mono ?_
  rintro e w1 ⟨rfl, rfl⟩
  go_upto_region 4 with fail
  go_wp2_with fail
  refine (HNEW.out _ _ (HLIT.out _ _ (by simp))).mono ?_
  rintro e w2 ⟨⟨B, rfl, hs2⟩, hb2⟩
  have HB := Lib.hid (show OB w1 w2 B (runB (Bst.new [q2 S]) 1 0) from ⟨⟨_, hs2, fun b hb => Nat.le_trans (by simp; omega) hb.1⟩, bl_step ((((Below.refl w1.heap.size w1).alloc (Nat.le_refl _) _)).alloc (by simp) _) hb2⟩)
  clear hs2 hb2 HNEW HLIT HPI
  obtain ⟨M, hM⟩ : ∃ M : Nat, M = 1600 := ⟨_, rfl⟩
  have HM := Lib.hid hM
  have hMi : (M : Int) = 1600 := by omega
  go_wp2_with fail
  go_loopw [11] (fun v wr => ∃ n : Nat, n ≤ 1600 ∧ v = .int .i64 n ∧ OB w1 wr B (runB (Bst.new [q2 S]) 1 n)) (fun v _ => M - (intOf v).toNat)
  case atStart => exact ⟨0, by omega, rfl, HB.out⟩
  case round =>
    obtain ⟨n, hn, rfl, hob⟩ := hrel
    have HOB := Lib.hid hob
    clear hob
    by_cases hlt : n < 1600
    · have hni : (n : Int) < 1600 := by omega
      go_wp2_with fail
      refine (HOB.out.op (fun T h => learnS h (HO.out n) (.inr rfl) (HWH.out n hn))).mono ?_
      rintro e w3 ⟨rfl, hob3⟩
      have HOB3 := Lib.hid hob3
      clear hob3
      go_wp2
      go_roundw
      case rel => exact ⟨n + 1, by omega, by go_num, HOB3.out⟩
      case measure => simp [intOf]; omega
    · obtain rfl : n = 1600 := by omega
      go_wp2_with fail
      refine (HOB.out.op (fun T h => guessS h (HO.out 1600))).mono ?_
      rintro e w4 ⟨rfl, hob4⟩
      have hfin := HFIN.out
      have HL4 := Lib.hid hob4.low
      clear hob4
      obtain ⟨G, hG⟩ : ∃ G, (runB (Bst.new [q2 S]) 1 1600).guess = G := ⟨_, rfl⟩
      rw [hG] at hfin ⊢
      clear hG
      go_wp2_with fail
      refine (awake_any w4).mono ?_
      rintro e w5 ⟨rfl, hb5⟩
      have HB5 := Lib.hid hb5
      clear hb5
      go_wp2
      go_ret
      exact ⟨rfl, bl_step HL4.out HB5.out⟩
set_option maxRecDepth 100000 in
set_option maxHeartbeats 4000000 in
theorem learns_true_true (x : Int) (w : World) (h0 : -9223372036854775808 ≤ x) (h1 : x ≤ 9223372036854775807) :
    Calls Try.prog 3 #[.int .i64 x, .bool true, .bool true] w (Quiet (.bool true) w) := by
  have HPI := Lib.hid (fun W => pick11 x W h0 h1)
  have hSl := pick_bd x
  obtain ⟨S, hSq⟩ : ∃ S, pickI x = S := ⟨_, rfl⟩
  rw [hSq] at HPI hSl
  clear hSq h0 h1
  have hS : S ≤ 10 := by omega
  have hr : rightP [q3 S] = 0 := q3_right ⟨S, hSl⟩
  have hok : (q3 S).ok := by constructor <;> simp only [q3] <;> omega
  have ho := Bst.new_ok hr
  have HO := Lib.hid (fun n => run_ok ho (bit := 1) (.inr rfl) n)
  have HWH := Lib.hid (show ∀ n, n ≤ 1600 → (runB (Bst.new [q3 S]) 1 n).wh ≤ 1000000 from fun n hn => run_wh3 hS (.inr rfl) hn)
  have HFIN := Lib.hid (learn3_one hS)
  have HNEW := Lib.hid (fun g0 W => newLit hok hr g0 W)
  have HLIT := Lib.hid (show ∀ (W : World) (g0 : Nat), g0 = W.heap.size → Rd (W.alloc (.cells #[.int .u8 3, .int .i64 (S : Int), .int .i64 0, .int .i64 0, .int .i64 0, .int .i64 0, .int .i64 0] 25)) (some ⟨g0, 0, none⟩) (q3 S).cells from fun W g0 h => h ▸ rd_lit W (q3 S))
  clear hr hok ho
  go_enter Try.func3, Try.ntmps3
  go_wp2_with fail
  refine (HPI.out _).mono ?_
  rintro e w1 ⟨rfl, rfl⟩
  go_upto_region 4 with fail
  go_wp2_with fail
  refine (HNEW.out _ _ (HLIT.out _ _ (by simp))).mono ?_
  rintro e w2 ⟨⟨B, rfl, hs2⟩, hb2⟩
  have HB := Lib.hid (show OB w1 w2 B (runB (Bst.new [q3 S]) 1 0) from ⟨⟨_, hs2, fun b hb => Nat.le_trans (by simp; omega) hb.1⟩, bl_step ((((Below.refl w1.heap.size w1).alloc (Nat.le_refl _) _)).alloc (by simp) _) hb2⟩)
  clear hs2 hb2 HNEW HLIT HPI
  obtain ⟨M, hM⟩ : ∃ M : Nat, M = 1600 := ⟨_, rfl⟩
  have HM := Lib.hid hM
  have hMi : (M : Int) = 1600 := by omega
  go_wp2_with fail
  go_loopw [11] (fun v wr => ∃ n : Nat, n ≤ 1600 ∧ v = .int .i64 n ∧ OB w1 wr B (runB (Bst.new [q3 S]) 1 n)) (fun v _ => M - (intOf v).toNat)
  case atStart => exact ⟨0, by omega, rfl, HB.out⟩
  case round =>
    obtain ⟨n, hn, rfl, hob⟩ := hrel
    have HOB := Lib.hid hob
    clear hob
    by_cases hlt : n < 1600
    · have hni : (n : Int) < 1600 := by omega
      go_wp2_with fail
      refine (HOB.out.op (fun T h => learnS h (HO.out n) (.inr rfl) (HWH.out n hn))).mono ?_
      rintro e w3 ⟨rfl, hob3⟩
      have HOB3 := Lib.hid hob3
      clear hob3
      go_wp2
      go_roundw
      case rel => exact ⟨n + 1, by omega, by go_num, HOB3.out⟩
      case measure => simp [intOf]; omega
    · obtain rfl : n = 1600 := by omega
      go_wp2_with fail
      refine (HOB.out.op (fun T h => guessS h (HO.out 1600))).mono ?_
      rintro e w4 ⟨rfl, hob4⟩
      have hfin := HFIN.out
      have HL4 := Lib.hid hob4.low
      clear hob4
      obtain ⟨G, hG⟩ : ∃ G, (runB (Bst.new [q3 S]) 1 1600).guess = G := ⟨_, rfl⟩
      rw [hG] at hfin ⊢
      clear hG
      go_wp2_with fail
      refine (awake_any w4).mono ?_
      rintro e w5 ⟨rfl, hb5⟩
      have HB5 := Lib.hid hb5
      clear hb5
      go_wp2
      go_ret
      exact ⟨rfl, bl_step HL4.out HB5.out⟩
set_option maxRecDepth 100000 in
set_option maxHeartbeats 4000000 in
theorem learns_false_false (x : Int) (w : World) (h0 : -9223372036854775808 ≤ x) (h1 : x ≤ 9223372036854775807) :
    Calls Try.prog 3 #[.int .i64 x, .bool false, .bool false] w (Quiet (.bool true) w) := by
  have HPI := Lib.hid (fun W => pick11 x W h0 h1)
  have hSl := pick_bd x
  obtain ⟨S, hSq⟩ : ∃ S, pickI x = S := ⟨_, rfl⟩
  rw [hSq] at HPI hSl
  clear hSq h0 h1
  have hS : S ≤ 10 := by omega
  have hr : rightP [q2 S] = 0 := q2_right ⟨S, hSl⟩
  have hok : (q2 S).ok := by constructor <;> simp only [q2] <;> omega
  have ho := Bst.new_ok hr
  have HO := Lib.hid (fun n => run_ok ho (bit := 0) (.inl rfl) n)
  have HWH := Lib.hid (show ∀ n, n ≤ 1600 → (runB (Bst.new [q2 S]) 0 n).wh ≤ 1000000 from fun n hn => run_wh2 hS 0 hn)
  have HFIN := Lib.hid (learn2_zero hS)
  have HNEW := Lib.hid (fun g0 W => newLit hok hr g0 W)
  have HLIT := Lib.hid (show ∀ (W : World) (g0 : Nat), g0 = W.heap.size → Rd (W.alloc (.cells #[.int .u8 2, .int .i64 (S : Int), .int .i64 0, .int .i64 0, .int .i64 0, .int .i64 0, .int .i64 255] 25)) (some ⟨g0, 0, none⟩) (q2 S).cells from fun W g0 h => h ▸ rd_lit W (q2 S))
  clear hr hok ho
  go_enter Try.func3, Try.ntmps3
  go_wp2_with fail
  refine (HPI.out _).mono ?_
  rintro e w1 ⟨rfl, rfl⟩
  go_upto_region 4 with fail
  go_wp2_with fail
  refine (HNEW.out _ _ (HLIT.out _ _ (by simp))).mono ?_
  rintro e w2 ⟨⟨B, rfl, hs2⟩, hb2⟩
  have HB := Lib.hid (show OB w1 w2 B (runB (Bst.new [q2 S]) 0 0) from ⟨⟨_, hs2, fun b hb => Nat.le_trans (by simp; omega) hb.1⟩, bl_step ((((Below.refl w1.heap.size w1).alloc (Nat.le_refl _) _)).alloc (by simp) _) hb2⟩)
  clear hs2 hb2 HNEW HLIT HPI
  obtain ⟨M, hM⟩ : ∃ M : Nat, M = 1600 := ⟨_, rfl⟩
  have HM := Lib.hid hM
  have hMi : (M : Int) = 1600 := by omega
  go_wp2_with fail
  go_loopw [11] (fun v wr => ∃ n : Nat, n ≤ 1600 ∧ v = .int .i64 n ∧ OB w1 wr B (runB (Bst.new [q2 S]) 0 n)) (fun v _ => M - (intOf v).toNat)
  case atStart => exact ⟨0, by omega, rfl, HB.out⟩
  case round =>
    obtain ⟨n, hn, rfl, hob⟩ := hrel
    have HOB := Lib.hid hob
    clear hob
    by_cases hlt : n < 1600
    · have hni : (n : Int) < 1600 := by omega
      go_wp2_with fail
      refine (HOB.out.op (fun T h => learnS h (HO.out n) (.inl rfl) (HWH.out n hn))).mono ?_
      rintro e w3 ⟨rfl, hob3⟩
      have HOB3 := Lib.hid hob3
      clear hob3
      go_wp2
      go_roundw
      case rel => exact ⟨n + 1, by omega, by go_num, HOB3.out⟩
      case measure => simp [intOf]; omega
    · obtain rfl : n = 1600 := by omega
      go_wp2_with fail
      refine (HOB.out.op (fun T h => guessS h (HO.out 1600))).mono ?_
      rintro e w4 ⟨rfl, hob4⟩
      have hfin := HFIN.out
      have HL4 := Lib.hid hob4.low
      clear hob4
      obtain ⟨G, hG⟩ : ∃ G, (runB (Bst.new [q2 S]) 0 1600).guess = G := ⟨_, rfl⟩
      rw [hG] at hfin ⊢
      clear hG
      go_wp2_with fail
      refine (awake_any w4).mono ?_
      rintro e w5 ⟨rfl, hb5⟩
      have HB5 := Lib.hid hb5
      clear hb5
      go_wp2
      go_ret
      exact ⟨rfl, bl_step HL4.out HB5.out⟩
set_option maxRecDepth 100000 in
set_option maxHeartbeats 4000000 in
theorem learns_true_false (x : Int) (w : World) (h0 : -9223372036854775808 ≤ x) (h1 : x ≤ 9223372036854775807) :
    Calls Try.prog 3 #[.int .i64 x, .bool true, .bool false] w (Quiet (.bool true) w) := by
  have HPI := Lib.hid (fun W => pick11 x W h0 h1)
  have hSl := pick_bd x
  obtain ⟨S, hSq⟩ : ∃ S, pickI x = S := ⟨_, rfl⟩
  rw [hSq] at HPI hSl
  clear hSq h0 h1
  have hS : S ≤ 10 := by omega
  have hr : rightP [q3 S] = 0 := q3_right ⟨S, hSl⟩
  have hok : (q3 S).ok := by constructor <;> simp only [q3] <;> omega
  have ho := Bst.new_ok hr
  have HO := Lib.hid (fun n => run_ok ho (bit := 0) (.inl rfl) n)
  have HWH := Lib.hid (show ∀ n, n ≤ 1600 → (runB (Bst.new [q3 S]) 0 n).wh ≤ 1000000 from fun n hn => run_wh3 hS (.inl rfl) hn)
  have HFIN := Lib.hid (learn3_zero hS)
  have HNEW := Lib.hid (fun g0 W => newLit hok hr g0 W)
  have HLIT := Lib.hid (show ∀ (W : World) (g0 : Nat), g0 = W.heap.size → Rd (W.alloc (.cells #[.int .u8 3, .int .i64 (S : Int), .int .i64 0, .int .i64 0, .int .i64 0, .int .i64 0, .int .i64 0] 25)) (some ⟨g0, 0, none⟩) (q3 S).cells from fun W g0 h => h ▸ rd_lit W (q3 S))
  clear hr hok ho
  go_enter Try.func3, Try.ntmps3
  go_wp2_with fail
  refine (HPI.out _).mono ?_
  rintro e w1 ⟨rfl, rfl⟩
  go_upto_region 4 with fail
  go_wp2_with fail
  refine (HNEW.out _ _ (HLIT.out _ _ (by simp))).mono ?_
  rintro e w2 ⟨⟨B, rfl, hs2⟩, hb2⟩
  have HB := Lib.hid (show OB w1 w2 B (runB (Bst.new [q3 S]) 0 0) from ⟨⟨_, hs2, fun b hb => Nat.le_trans (by simp; omega) hb.1⟩, bl_step ((((Below.refl w1.heap.size w1).alloc (Nat.le_refl _) _)).alloc (by simp) _) hb2⟩)
  clear hs2 hb2 HNEW HLIT HPI
  obtain ⟨M, hM⟩ : ∃ M : Nat, M = 1600 := ⟨_, rfl⟩
  have HM := Lib.hid hM
  have hMi : (M : Int) = 1600 := by omega
  go_wp2_with fail
  go_loopw [11] (fun v wr => ∃ n : Nat, n ≤ 1600 ∧ v = .int .i64 n ∧ OB w1 wr B (runB (Bst.new [q3 S]) 0 n)) (fun v _ => M - (intOf v).toNat)
  case atStart => exact ⟨0, by omega, rfl, HB.out⟩
  case round =>
    obtain ⟨n, hn, rfl, hob⟩ := hrel
    have HOB := Lib.hid hob
    clear hob
    by_cases hlt : n < 1600
    · have hni : (n : Int) < 1600 := by omega
      go_wp2_with fail
      refine (HOB.out.op (fun T h => learnS h (HO.out n) (.inl rfl) (HWH.out n hn))).mono ?_
      rintro e w3 ⟨rfl, hob3⟩
      have HOB3 := Lib.hid hob3
      clear hob3
      go_wp2
      go_roundw
      case rel => exact ⟨n + 1, by omega, by go_num, HOB3.out⟩
      case measure => simp [intOf]; omega
    · obtain rfl : n = 1600 := by omega
      go_wp2_with fail
      refine (HOB.out.op (fun T h => guessS h (HO.out 1600))).mono ?_
      rintro e w4 ⟨rfl, hob4⟩
      have hfin := HFIN.out
      have HL4 := Lib.hid hob4.low
      clear hob4
      obtain ⟨G, hG⟩ : ∃ G, (runB (Bst.new [q3 S]) 0 1600).guess = G := ⟨_, rfl⟩
      rw [hG] at hfin ⊢
      clear hG
      go_wp2_with fail
      refine (awake_any w4).mono ?_
      rintro e w5 ⟨rfl, hb5⟩
      have HB5 := Lib.hid hb5
      clear hb5
      go_wp2
      go_ret
      exact ⟨rfl, bl_step HL4.out HB5.out⟩
theorem learns_law (x : Int) (icm one : Bool) (w : World) (h : (Lit.int .i64 x).wf = true) : Calls Try.prog 3 #[.int .i64 x, .bool icm, .bool one] w (Quiet (.bool true) w) := by
  obtain ⟨h0, h1⟩ := wf_i64 h
  cases icm <;> cases one
  · exact learns_false_false x w h0 h1
  · exact learns_false_true x w h0 h1
  · exact learns_true_false x w h0 h1
  · exact learns_true_true x w h0 h1
end Go.Proofs.Ytnohfeaamfjimaa
