/- A block upon the numbers: what package sha's block computes. For any five numbers and any 64 bytes. -/
import Derived.Test.YtgkgdbjdmmieaaaShWd
import Derived.Test.YtgkgdbjdmmieaaaHeld
import Derived.Deep.WholeRow
namespace Go.Proofs.Ytgkgdbjdmmieaaa
open Go.RowKit Go.WideShapes
set_option linter.unusedVariables false
set_option linter.unusedSimpArgs false
def cellsW (bs : List Int) (t : Nat) : Array Value := ((sched bs t).map (Value.int .u32) ++ List.replicate (80 - t) (Value.int .u32 0)).toArray
theorem cellsW_size (bs : List Int) (t : Nat) (h : t ≤ 80) : (cellsW bs t).size = 80 := by simp [cellsW, sched_length]; omega
theorem cellsW_at (bs : List Int) (t j : Nat) (h : j < t) : (cellsW bs t)[j]? = some (.int .u32 ((sched bs t).getD j 0)) := by
  have hl : j < (sched bs t).length := by rw [sched_length]; exact h
  unfold cellsW
  rw [List.getElem?_toArray, List.getElem?_append_left (by simpa using hl), List.getElem?_map, List.getElem?_eq_getElem hl, List.getD_eq_getElem?_getD, List.getElem?_eq_getElem hl]
  rfl
theorem cellsW_set (bs : List Int) (t : Nat) (h : t < 80) : (cellsW bs t).setIfInBounds t (.int .u32 (nextW bs (sched bs t) t)) = cellsW bs (t + 1) := by
  unfold cellsW
  rw [List.setIfInBounds_toArray]
  congr 1
  have hl : ((sched bs t).map (Value.int .u32)).length = t := by simp [sched_length]
  rw [List.set_append, if_neg (by omega), hl, show 80 - t = (80 - (t + 1)) + 1 by omega, List.replicate_succ, Nat.sub_self, List.set_cons_zero]
  simp [sched]
theorem Blk.low {B g : Nat} {t : TypeId} {cs : Array Value} {w w' : World} (h : Blk w g t cs) (hb : Below B w w') (hg : g < B) : Blk w' g t cs := (hb.block g hg).trans h
theorem size30 : (Try.prog.info? 30).map (·.size) = some 1 := by kernel_rfl
theorem agg30 : Try.prog.underlying 30 = some (.int .u32) := by kernel_rfl
theorem index54 (cs : Array Value) (t : Nat) (x : Int) (ht : t < 80) (hx : cs[t]? = some (.int .u32 x)) (W : World) :
    (Instr.index 54 (.agg cs) (.int .i64 (t : Int))).run Try.prog W = .ok (.int .u32 x) W := by
  cases hq : Try.prog.info? 30 with
  | none => have := size30; simp [hq] at this
  | some i =>
    have hs : i.size = 1 := by have := size30; simpa [hq] using this
    have h1 : (t : Int) < 80 := by omega
    have hag : (isAgg 30).run Try.prog W = .ok false W := by
      unfold isAgg
      rw [Sem.run_bind, run_underlying agg30 W]
      rfl
    simp [Instr.index, asIntOf, run_underlying Try.underlying54, h1, sizeOf, typeInfo, hq, hs, part, hag, hx]
    intro h; omega
theorem st5 {w0 w : World} {B g : Nat} {t : TypeId} {u0 u1 u2 u3 u4 : Value} (v0 v1 v2 v3 v4 : Value) (h : Blk w g t #[u0, u1, u2, u3, u4]) (hb : Below B w0 w) (hg : B ≤ g) :
    Blk (((((w.setCell ⟨g, 0, none⟩ v0).setCell ⟨g, 1, none⟩ v1).setCell ⟨g, 2, none⟩ v2).setCell ⟨g, 3, none⟩ v3).setCell ⟨g, 4, none⟩ v4) g t #[v0, v1, v2, v3, v4] ∧
    Below B w0 (((((w.setCell ⟨g, 0, none⟩ v0).setCell ⟨g, 1, none⟩ v1).setCell ⟨g, 2, none⟩ v2).setCell ⟨g, 3, none⟩ v3).setCell ⟨g, 4, none⟩ v4) := by
  refine ⟨?_, ?_⟩
  · simpa using ((((h.set 0 v0).set 1 v1).set 2 v2).set 3 v3).set 4 v4
  · exact ((((hb.setCell (p := ⟨g, 0, none⟩) hg v0).setCell (p := ⟨g, 1, none⟩) hg v1).setCell (p := ⟨g, 2, none⟩) hg v2).setCell (p := ⟨g, 3, none⟩) hg v3).setCell (p := ⟨g, 4, none⟩) hg v4
theorem size31 : (Try.prog.info? 31).map (·.size) = some 5 := by kernel_rfl
theorem zero54 : (Try.prog.info? 54).map (fun i => (i.zero, i.size)) = some (some (.agg (cellsW [] 0)), 80) := by kernel_rfl
theorem size54 : (Try.prog.info? 54).map (·.size) = some 80 := by kernel_rfl
set_option maxHeartbeats 4000000 in
set_option maxRecDepth 100000 in
theorem block_any (h : S5) (bs : List Int) (A : Option Addr) (c : Nat) (w : World) (hl : bs.length = 64) (ho : Oct bs) (hr : Rd w A (octs bs)) (hc : 64 ≤ c) :
    Calls Try.prog 25 #[.agg h.vals, .slice A 64 c] w fun e w' => e = .returned (.agg (blockI h bs).vals) ∧ Below w.heap.size w w' := by
  have hz := (zero_of_info zero54).1
  have hmf : ∀ (fn : Fn) (first cap : Array Value) (w : World), (Instr.makeFunc fn first cap).run Try.prog w = .ok (.func fn first cap) w := fun _ _ _ _ => rfl
  obtain ⟨a, b, cc, d, e⟩ := h
  have hW0 : ∀ W : World, cellsW [] 0 = cellsW bs 0 := fun _ => rfl
  have hv : S5.vals ⟨a, b, cc, d, e⟩ = #[.int .u32 a, .int .u32 b, .int .u32 cc, .int .u32 d, .int .u32 e] := rfl
  have hbl : blockI ⟨a, b, cc, d, e⟩ bs = S5.add ⟨a, b, cc, d, e⟩ (stepsI (sched bs 80) ⟨a, b, cc, d, e⟩ 80) := rfl
  rw [hbl, hv]
  have k0 : Blk (w.alloc (.cells #[.int .u32 a, .int .u32 b, .int .u32 cc, .int .u32 d, .int .u32 e] 31)) w.heap.size 31 _ := Blk.new w 31 #[.int .u32 a, .int .u32 b, .int .u32 cc, .int .u32 d, .int .u32 e]
  have k1 := Blk.new (w.alloc (.cells #[.int .u32 a, .int .u32 b, .int .u32 cc, .int .u32 d, .int .u32 e] 31)) 25 #[.slice A 64 c]
  have k2 := Blk.new ((w.alloc (.cells #[.int .u32 a, .int .u32 b, .int .u32 cc, .int .u32 d, .int .u32 e] 31)).alloc (.cells #[.slice A 64 c] 25)) 31 #[.int .u32 0, .int .u32 0, .int .u32 0, .int .u32 0, .int .u32 0]
  have k3 := Blk.new (((w.alloc (.cells #[.int .u32 a, .int .u32 b, .int .u32 cc, .int .u32 d, .int .u32 e] 31)).alloc (.cells #[.slice A 64 c] 25)).alloc (.cells #[.int .u32 0, .int .u32 0, .int .u32 0, .int .u32 0, .int .u32 0] 31)) 54 (cellsW [] 0)
  have l0 := ((k0.alloc (.cells #[.slice A 64 c] 25)).alloc (.cells #[.int .u32 0, .int .u32 0, .int .u32 0, .int .u32 0, .int .u32 0] 31)).alloc (.cells (cellsW [] 0) 54)
  have l1 := (k1.alloc (.cells #[.int .u32 0, .int .u32 0, .int .u32 0, .int .u32 0, .int .u32 0] 31)).alloc (.cells (cellsW [] 0) 54)
  have l2 := k2.alloc (.cells (cellsW [] 0) 54)
  have hrW := hr
  have hrX := (((hr.alloc (.cells #[.int .u32 a, .int .u32 b, .int .u32 cc, .int .u32 d, .int .u32 e] 31)).alloc (.cells #[.slice A 64 c] 25)).alloc (.cells #[.int .u32 0, .int .u32 0, .int .u32 0, .int .u32 0, .int .u32 0] 31)).alloc (.cells (cellsW [] 0) 54)
  have hbW := ((((Below.refl w.heap.size w).alloc (Nat.le_refl _) (.cells #[.int .u32 a, .int .u32 b, .int .u32 cc, .int .u32 d, .int .u32 e] 31)).alloc (by simp) (.cells #[.slice A 64 c] 25)).alloc (by simp; omega) (.cells #[.int .u32 0, .int .u32 0, .int .u32 0, .int .u32 0, .int .u32 0] 31)).alloc (by simp; omega) (.cells (cellsW [] 0) 54)
  have hsz : ((((w.alloc (.cells #[.int .u32 a, .int .u32 b, .int .u32 cc, .int .u32 d, .int .u32 e] 31)).alloc (.cells #[.slice A 64 c] 25)).alloc (.cells #[.int .u32 0, .int .u32 0, .int .u32 0, .int .u32 0, .int .u32 0] 31)).alloc (.cells (cellsW [] 0) 54)).heap.size = w.heap.size + 1 + 1 + 1 + 1 := by simp
  rw [show (World.alloc w (.cells #[.int .u32 a, .int .u32 b, .int .u32 cc, .int .u32 d, .int .u32 e] 31)).heap.size = w.heap.size + 1 by simp] at l1
  rw [show (World.alloc (World.alloc w (.cells #[.int .u32 a, .int .u32 b, .int .u32 cc, .int .u32 d, .int .u32 e] 31)) (.cells #[.slice A 64 c] 25)).heap.size = w.heap.size + 1 + 1 by simp] at l2
  rw [show (World.alloc (World.alloc (World.alloc w (.cells #[.int .u32 a, .int .u32 b, .int .u32 cc, .int .u32 d, .int .u32 e] 31)) (.cells #[.slice A 64 c] 25)) (.cells #[.int .u32 0, .int .u32 0, .int .u32 0, .int .u32 0, .int .u32 0] 31)).heap.size = w.heap.size + 1 + 1 + 1 by simp] at k3
  have HO := Lib.hid ho
  have HC := Lib.hid hc
  have HW := Lib.hid (show True ∧ True from ⟨trivial, trivial⟩)
  have L0 := Lib.hid l0
  have L1 := Lib.hid l1
  have L2 := Lib.hid l2
  have L3 := Lib.hid k3
  have HR := Lib.hid hrW
  have HB := Lib.hid hbW
  have HSZ := Lib.hid hsz
  clear hr hrX ho hc k0 k1 k2 k3 l0 l1 l2 hrW hbW hsz hv hbl hW0
  go_enter Try.func25, Try.ntmps25
  go_wp2_with fail
  generalize ((((w.alloc (.cells #[.int .u32 a, .int .u32 b, .int .u32 cc, .int .u32 d, .int .u32 e] 31)).alloc (.cells #[.slice A 64 c] 25)).alloc (.cells #[.int .u32 0, .int .u32 0, .int .u32 0, .int .u32 0, .int .u32 0] 31)).alloc (.cells (cellsW [] 0) 54)) = W at L0 L1 L2 L3 HR HB HSZ ⊢
  obtain ⟨B, hB⟩ : ∃ B, w.heap.size = B := ⟨_, rfl⟩
  rw [hB] at L0 L1 L2 L3 HB HSZ ⊢
  go_loopw [18] (fun i wr => ∃ t : Nat, t ≤ 80 ∧ i = .int .i64 t ∧ Blk wr (B + 1 + 1 + 1) 54 (cellsW bs t) ∧ Below (B + 1 + 1 + 1) W wr) (fun i _ => 80 - (intOf i).toNat)
  case atStart => exact ⟨0, by omega, rfl, L3.out, Below.refl _ _⟩
  case round =>
    obtain ⟨t, ht, rfl, hk, hb⟩ := hrel
    have hwB : B + 1 + 1 + 1 < W.heap.size := by rw [HSZ.out]; omega
    have hlow : Below w.heap.size w wr := hB.symm ▸ (HB.out.trans (hb.mono (by omega)))
    by_cases hlt : t < 80
    · have hset := hk.drew.set t (.int .u32 (nextW bs (sched bs t) t))
      rw [cellsW_set bs t hlt] at hset
      have hst : ∀ n, Blk ((wr.drewN n).setCell ⟨B + 1 + 1 + 1, t, none⟩ (.int .u32 (nextW bs (sched bs t) t))) (B + 1 + 1 + 1) 54 (cellsW bs (t + 1)) := fun n => by
        have := (hk.drewN n).set t (.int .u32 (nextW bs (sched bs t) t))
        rwa [cellsW_set bs t hlt] at this
      have hbt : ∀ n, Below (B + 1 + 1 + 1) W ((wr.drewN n).setCell ⟨B + 1 + 1 + 1, t, none⟩ (.int .u32 (nextW bs (sched bs t) t))) := fun n => (below_drewN hb n).setCell (Nat.le_refl _) _
      have hfr := hk.frozen t
      have hcl : wr.cell? ⟨B + 1 + 1 + 1, t, none⟩ = some ((cellsW bs t)[t]'(by rw [cellsW_size bs t ht]; exact hlt)) := by rw [hk.cell]; simp
      by_cases h16 : t < 16
      · have hx : nextW bs (sched bs t) t = wordI bs t := by unfold nextW; rw [if_pos h16]
        rw [hx] at hst hbt
        have hwd := fun wz (hz1 : Rd wz A (octs bs)) (hz2 : Blk wz (B + 1) 25 #[.slice A 64 c]) => word_any bs t A c (B + 1) wz h16 hl HO.out hz1 HC.out hz2
        have hR := HR.out.below hlow rfl
        have hK1 := L1.out.low hb (by omega)
        have HX := Lib.hid hwd
        have HR1 := Lib.hid hR
        have HK1 := Lib.hid hK1
        have HST := Lib.hid hst
        have HBT := Lib.hid hbt
        clear hwd hR hK1 hst hbt hk hb hset hlow
        go_wp2_with (go_at_call 29; refine (HX.out _ HR1.out HK1.out).mono ?_; rintro e w2 ⟨rfl, n, rfl⟩)
        go_roundw
        case rel => exact ⟨t + 1, by omega, by go_num, HST.out n, HBT.out n⟩
        case measure => simp [intOf]; omega
      · have hx : nextW bs (sched bs t) t = rotA (xorI (xorI (xorI ((sched bs t).getD (t - 3) 0) ((sched bs t).getD (t - 8) 0)) ((sched bs t).getD (t - 14) 0)) ((sched bs t).getD (t - 16) 0)) := by unfold nextW; rw [if_neg h16]
        have c3 := (hk.cell (t - 3)).trans (cellsW_at bs t (t - 3) (by omega))
        have c8 := (hk.cell (t - 8)).trans (cellsW_at bs t (t - 8) (by omega))
        have c14 := (hk.cell (t - 14)).trans (cellsW_at bs t (t - 14) (by omega))
        have c16 := (hk.cell (t - 16)).trans (cellsW_at bs t (t - 16) (by omega))
        obtain ⟨n3, e3⟩ : ∃ n, t - 3 = n := ⟨_, rfl⟩
        rw [e3] at hx c3
        obtain ⟨n8, e8⟩ : ∃ n, t - 8 = n := ⟨_, rfl⟩
        rw [e8] at hx c8
        obtain ⟨n14, e14⟩ : ∃ n, t - 14 = n := ⟨_, rfl⟩
        rw [e14] at hx c14
        obtain ⟨n16, e16⟩ : ∃ n, t - 16 = n := ⟨_, rfl⟩
        rw [e16] at hx c16
        generalize (sched bs t).getD n3 0 = x3 at *
        generalize (sched bs t).getD n8 0 = x8 at *
        generalize (sched bs t).getD n14 0 = x14 at *
        generalize (sched bs t).getD n16 0 = x16 at *
        obtain ⟨r, hr'⟩ : ∃ r, nextW bs (sched bs t) t = r := ⟨_, rfl⟩
        rw [hr'] at hst hbt hx
        clear hr'
        have far : ∀ (v : Value) (j : Nat) (u : Value), t ≠ j → wr.cell? ⟨B + 1 + 1 + 1, j, none⟩ = some u → (wr.drew.setCell ⟨B + 1 + 1 + 1, t, none⟩ v).cell? ⟨B + 1 + 1 + 1, j, none⟩ = some u := fun v j u hne hu => (World.cell?_setCell_other _ _ _ _ (by intro x; injection x with _ x; exact hne x)).trans hu
        have hS0 : wr.drew.cell? ⟨B + 1 + 1 + 1, n3, none⟩ = some (.int .u32 x3) ∧ wr.drew.cell? ⟨B + 1 + 1 + 1, n8, none⟩ = some (.int .u32 x8) ∧ wr.drew.cell? ⟨B + 1 + 1 + 1, n14, none⟩ = some (.int .u32 x14) ∧ wr.drew.cell? ⟨B + 1 + 1 + 1, n16, none⟩ = some (.int .u32 x16) := ⟨c3, c8, c14, c16⟩
        have hS8 : (wr.drew.setCell ⟨B + 1 + 1 + 1, t, none⟩ (.int .u32 r)).cell? ⟨B + 1 + 1 + 1, n3, none⟩ = some (.int .u32 x3) ∧ (wr.drew.setCell ⟨B + 1 + 1 + 1, t, none⟩ (.int .u32 r)).cell? ⟨B + 1 + 1 + 1, n8, none⟩ = some (.int .u32 x8) ∧ (wr.drew.setCell ⟨B + 1 + 1 + 1, t, none⟩ (.int .u32 r)).cell? ⟨B + 1 + 1 + 1, n14, none⟩ = some (.int .u32 x14) ∧ (wr.drew.setCell ⟨B + 1 + 1 + 1, t, none⟩ (.int .u32 r)).cell? ⟨B + 1 + 1 + 1, n16, none⟩ = some (.int .u32 x16) := ⟨far _ _ _ (by omega) c3, far _ _ _ (by omega) c8, far _ _ _ (by omega) c14, far _ _ _ (by omega) c16⟩
        have hrot : ∀ w, Calls Try.prog 30 #[.int .u32 (xorI (xorI (xorI x3 x8) x14) x16), .int .i64 1] w fun e w' => e = .returned (.int .u32 r) ∧ w = w' := fun w => by rw [hx]; exact rotA_any _ w
        have HS0 := Lib.hid hS0
        have HS8 := Lib.hid hS8
        have HROT := Lib.hid hrot
        have HST := Lib.hid hst
        have HBT := Lib.hid hbt
        have b16 : (16 : Int) ≤ t := by omega
        have b80 : (t : Int) < 80 := by omega
        have w3 : IntKind.i64.wrap ((t : Int) - 3) = (n3 : Int) := by rw [IntKind.wrap_i64]; omega
        have l3 : (n3 : Int) < 80 := by omega
        have w8 : IntKind.i64.wrap ((t : Int) - 8) = (n8 : Int) := by rw [IntKind.wrap_i64]; omega
        have l8 : (n8 : Int) < 80 := by omega
        have w14 : IntKind.i64.wrap ((t : Int) - 14) = (n14 : Int) := by rw [IntKind.wrap_i64]; omega
        have l14 : (n14 : Int) < 80 := by omega
        have w16 : IntKind.i64.wrap ((t : Int) - 16) = (n16 : Int) := by rw [IntKind.wrap_i64]; omega
        have l16 : (n16 : Int) < 80 := by omega
        clear hst hbt hk hb hset hlow c3 c8 c14 c16 far hx hrot hS0 hS8
        go_wp2_with fail
        refine wp_region_held_drew (S := fun w' => w'.cell? ⟨B + 1 + 1 + 1, n3, none⟩ = some (.int .u32 x3) ∧ w'.cell? ⟨B + 1 + 1 + 1, n8, none⟩ = some (.int .u32 x8) ∧ w'.cell? ⟨B + 1 + 1 + 1, n14, none⟩ = some (.int .u32 x14) ∧ w'.cell? ⟨B + 1 + 1 + 1, n16, none⟩ = some (.int .u32 x16)) (by kernel_rfl) HS0.out (fun hHeld => ?_)
        refine wpAnyH_takeD (i := 0) (d := 28) (oi := _) (v := ?_) rfl rfl (by kernel_rfl) (by kernel_rfl) (by kernel_rfl) (fun _ _ _ h => h) (Or.inl ⟨by rfl, ?_⟩) (by assumption) ?_
        rotate_left
        · (intro w hSw; (try dsimp only at hSw); go_simp) <;> with_reducible rfl
        simp only [Act.put, List.setIfInBounds_toArray, List.set_cons_zero, List.set_cons_succ]
        refine wpAnyH_takeD (i := 1) (d := 29) (oi := _) (v := ?_) rfl rfl (by kernel_rfl) (by kernel_rfl) (by kernel_rfl) (fun _ _ _ h => h) (Or.inl ⟨by rfl, ?_⟩) (by assumption) ?_
        rotate_left
        · (intro w hSw; (try dsimp only at hSw); go_simp) <;> with_reducible rfl
        simp only [Act.put, List.setIfInBounds_toArray, List.set_cons_zero, List.set_cons_succ]
        refine wpAnyH_takeD (i := 2) (d := 30) (oi := _) (v := ?_) rfl rfl (by kernel_rfl) (by kernel_rfl) (by kernel_rfl) (fun _ _ _ h => h) (Or.inl ⟨by rfl, ?_⟩) (by assumption) ?_
        rotate_left
        · (intro w hSw; (try dsimp only at hSw); go_simp) <;> with_reducible rfl
        simp only [Act.put, List.setIfInBounds_toArray, List.set_cons_zero, List.set_cons_succ]
        refine wpAnyH_takeD (i := 3) (d := 31) (oi := _) (v := ?_) rfl rfl (by kernel_rfl) (by kernel_rfl) (by kernel_rfl) (fun _ _ _ h => h) (Or.inl ⟨by rfl, ?_⟩) (by assumption) ?_
        rotate_left
        · (intro w hSw; (try dsimp only at hSw); go_simp) <;> with_reducible rfl
        simp only [Act.put, List.setIfInBounds_toArray, List.set_cons_zero, List.set_cons_succ]
        refine wpAnyH_takeD (i := 4) (d := 32) (oi := _) (v := ?_) rfl rfl (by kernel_rfl) (by kernel_rfl) (by kernel_rfl) (fun _ _ _ h => h) (Or.inl ⟨by rfl, ?_⟩) (by assumption) ?_
        rotate_left
        · (intro w hSw; (try dsimp only at hSw); go_simp) <;> with_reducible rfl
        simp only [Act.put, List.setIfInBounds_toArray, List.set_cons_zero, List.set_cons_succ]
        refine wpAnyH_takeD (i := 5) (d := 33) (oi := _) (v := ?_) rfl rfl (by kernel_rfl) (by kernel_rfl) (by kernel_rfl) (fun _ _ _ h => h) (Or.inl ⟨by rfl, ?_⟩) (by assumption) ?_
        rotate_left
        · (intro w hSw; (try dsimp only at hSw); go_simp) <;> with_reducible rfl
        simp only [Act.put, List.setIfInBounds_toArray, List.set_cons_zero, List.set_cons_succ]
        refine wpAnyH_takeD (i := 6) (d := 34) (oi := _) (v := ?_) rfl rfl (by kernel_rfl) (by kernel_rfl) (by kernel_rfl) (fun _ _ _ h => h) (Or.inl ⟨by rfl, ?_⟩) (by assumption) ?_
        rotate_left
        · (intro w hSw; (try dsimp only at hSw); go_simp) <;> with_reducible rfl
        simp only [Act.put, List.setIfInBounds_toArray, List.set_cons_zero, List.set_cons_succ]
        refine wpAnyH_takeD (i := 7) (d := 35) (oi := _) (v := ?_) rfl rfl (by kernel_rfl) (by kernel_rfl) (by kernel_rfl) (fun _ _ _ h => h) (Or.inl ⟨by rfl, ?_⟩) (by assumption) ?_
        rotate_left
        · (intro w hSw; (try dsimp only at hSw); go_simp) <;> with_reducible rfl
        simp only [Act.put, List.setIfInBounds_toArray, List.set_cons_zero, List.set_cons_succ]
        refine wpAnyH_takeD (i := 8) (d := 36) (oi := _) (v := ?_) rfl rfl (by kernel_rfl) (by kernel_rfl) (by kernel_rfl) (fun _ _ _ h => h) (Or.inl ⟨by rfl, ?_⟩) (by assumption) ?_
        rotate_left
        · (intro w hSw; (try dsimp only at hSw); go_simp) <;> with_reducible rfl
        simp only [Act.put, List.setIfInBounds_toArray, List.set_cons_zero, List.set_cons_succ]
        refine wpAnyH_takeD (i := 9) (d := 37) (oi := _) (v := ?_) rfl rfl (by kernel_rfl) (by kernel_rfl) (by kernel_rfl) (fun _ _ _ h => h) (Or.inl ⟨by rfl, ?_⟩) (by assumption) ?_
        rotate_left
        · (intro w hSw; (try dsimp only at hSw); go_simp) <;> with_reducible rfl
        simp only [Act.put, List.setIfInBounds_toArray, List.set_cons_zero, List.set_cons_succ]
        refine wpAnyH_takeD (i := 10) (d := 38) (oi := _) (v := ?_) rfl rfl (by kernel_rfl) (by kernel_rfl) (by kernel_rfl) (fun _ _ _ h => h) (Or.inl ⟨by rfl, ?_⟩) (by assumption) ?_
        rotate_left
        · (intro w hSw; (try dsimp only at hSw); go_simp) <;> with_reducible rfl
        simp only [Act.put, List.setIfInBounds_toArray, List.set_cons_zero, List.set_cons_succ]
        refine wpAnyH_takeD (i := 11) (d := 39) (oi := _) (v := ?_) rfl rfl (by kernel_rfl) (by kernel_rfl) (by kernel_rfl) (fun _ _ _ h => h) (Or.inl ⟨by rfl, ?_⟩) (by assumption) ?_
        rotate_left
        · (intro w hSw; (try dsimp only at hSw); go_simp) <;> with_reducible rfl
        simp only [Act.put, List.setIfInBounds_toArray, List.set_cons_zero, List.set_cons_succ]
        refine wpAnyH_takeD (i := 12) (d := 40) (oi := _) (v := ?_) rfl rfl (by kernel_rfl) (by kernel_rfl) (by kernel_rfl) (fun _ _ _ h => h) (Or.inl ⟨by rfl, ?_⟩) (by assumption) ?_
        rotate_left
        · (intro w hSw; (try dsimp only at hSw); go_simp) <;> with_reducible rfl
        simp only [Act.put, List.setIfInBounds_toArray, List.set_cons_zero, List.set_cons_succ]
        refine wpAnyH_takeD (i := 13) (d := 41) (oi := _) (v := ?_) rfl rfl (by kernel_rfl) (by kernel_rfl) (by kernel_rfl) (fun _ _ _ h => h) (Or.inl ⟨by rfl, ?_⟩) (by assumption) ?_
        rotate_left
        · (intro w hSw; (try dsimp only at hSw); go_simp) <;> with_reducible rfl
        simp only [Act.put, List.setIfInBounds_toArray, List.set_cons_zero, List.set_cons_succ]
        refine wpAnyH_takeD (i := 14) (d := 42) (oi := _) (v := ?_) rfl rfl (by kernel_rfl) (by kernel_rfl) (by kernel_rfl) (fun _ _ _ h => h) (Or.inl ⟨by rfl, ?_⟩) (by assumption) ?_
        rotate_left
        · (intro w hSw; (try dsimp only at hSw); go_simp) <;> with_reducible rfl
        simp only [Act.put, List.setIfInBounds_toArray, List.set_cons_zero, List.set_cons_succ]
        refine wpAnyH_takeD (i := 15) (d := 43) (oi := _) (v := ?_) rfl rfl (by kernel_rfl) (by kernel_rfl) (by kernel_rfl) (fun _ _ _ h => h) (Or.inl ⟨by rfl, ?_⟩) (by assumption) ?_
        rotate_left
        · (intro w hSw; (try dsimp only at hSw); go_simp) <;> with_reducible rfl
        simp only [Act.put, List.setIfInBounds_toArray, List.set_cons_zero, List.set_cons_succ]
        refine wpAnyH_takeD (i := 16) (d := 44) (oi := _) (v := ?_) rfl rfl (by kernel_rfl) (by kernel_rfl) (by kernel_rfl) (fun _ _ _ h => h) (Or.inl ⟨by rfl, ?_⟩) (by assumption) ?_
        rotate_left
        · (intro w hSw; (try dsimp only at hSw); go_simp) <;> with_reducible rfl
        simp only [Act.put, List.setIfInBounds_toArray, List.set_cons_zero, List.set_cons_succ]
        refine wpAnyH_takeD (i := 17) (d := 45) (oi := _) (v := ?_) rfl rfl (by kernel_rfl) (by kernel_rfl) (by kernel_rfl) (fun _ _ _ h => h) (Or.inl ⟨by rfl, ?_⟩) (by assumption) ?_
        rotate_left
        · (intro w hSw; (try dsimp only at hSw); go_simp) <;> with_reducible rfl
        simp only [Act.put, List.setIfInBounds_toArray, List.set_cons_zero, List.set_cons_succ]
        refine wpAnyH_takeD (i := 18) (d := 46) (oi := _) (v := ?_) rfl rfl (by kernel_rfl) (by kernel_rfl) (by kernel_rfl) (fun _ _ _ h => h) (Or.inl ⟨by rfl, ?_⟩) (by assumption) ?_
        rotate_left
        · (intro w hSw; (try dsimp only at hSw); go_simp) <;> with_reducible rfl
        simp only [Act.put, List.setIfInBounds_toArray, List.set_cons_zero, List.set_cons_succ]
        refine wpAnyH_takeD (i := 19) (d := 47) (oi := _) (v := ?_) rfl rfl (by kernel_rfl) (by kernel_rfl) (by kernel_rfl) (fun _ _ _ h => h) (Or.inl ⟨by rfl, ?_⟩) (by assumption) ?_
        rotate_left
        · (intro w hSw; (try dsimp only at hSw); go_simp) <;> with_reducible rfl
        simp only [Act.put, List.setIfInBounds_toArray, List.set_cons_zero, List.set_cons_succ]
        refine wpAnyH_ready (rs := [20]) (by kernel_rfl) (by simp) ?_
        refine AllReadyH.cons (o := _) rfl (fun K hK => ?_) AllReadyH.nil
        go_simp
        refine (HROT.out _).mono ?_
        rintro e w8 ⟨rfl, rfl⟩
        go_wp2_with fail
        refine hK.out _ _ hHeld (fun hHeld => ?_)
        clear hK K
        try simp only [Act.put, List.setIfInBounds_toArray, List.set_cons_zero, List.set_cons_succ]
        refine wpAnyH_takeD (i := 21) (d := 49) (oi := _) (v := ?_) rfl rfl (by kernel_rfl) (by kernel_rfl) (by kernel_rfl) (fun _ _ _ h => h) (Or.inl ⟨by rfl, ?_⟩) (by assumption) ?_
        rotate_left
        · (intro w hSw; (try dsimp only at hSw); go_simp) <;> with_reducible rfl
        simp only [Act.put, List.setIfInBounds_toArray, List.set_cons_zero, List.set_cons_succ]
        refine wpAnyH_ready (rs := [22]) (by kernel_rfl) (by simp) ?_
        refine AllReadyH.cons (o := _) rfl (fun K hK => ?_) AllReadyH.nil
        go_simp
        refine hK.out _ _ HS8.out (fun hHeld => ?_)
        clear hK K
        try simp only [Act.put, List.setIfInBounds_toArray, List.set_cons_zero, List.set_cons_succ]
        refine wpAnyH_done (by kernel_rfl) ?_ _
        go_wp2_with fail
        refine ⟨⟨t + 1, by omega, by go_num, (HST.out 0).drew, (HBT.out 0).drew⟩, by simp [intOf]; omega⟩
    · have htk : t = 80 := by omega
      subst htk
      have hK0 := L0.out.low hb (by omega)
      have hK2 := L2.out.low hb (by omega)
      have c0 := hK0.cell 0
      have c1 := hK0.cell 1
      have c2 := hK0.cell 2
      have c3 := hK0.cell 3
      have c4 := hK0.cell 4
      simp at c0 c1 c2 c3 c4
      have hcs : (cellsW bs 80).size = 80 := cellsW_size bs 80 (by omega)
      have hsz : (Try.prog.info? 54).map (·.size) = some (cellsW bs 80).size := by rw [hcs]; exact size54
      have hat := fun j (hj : j < 80) => cellsW_at bs 80 j hj
      have hlen : (sched bs 80).length = 80 := sched_length bs 80
      obtain ⟨L, hL⟩ : ∃ L, sched bs 80 = L := ⟨_, rfl⟩
      rw [hL] at hlen hat
      have HL := Lib.hid (show ∀ n, n = 80 → sched bs n = L from fun n hn => by rw [hn]; exact hL)
      clear hL
      generalize cellsW bs 80 = cs at *
      have HK0 := Lib.hid hK0
      have HK2 := Lib.hid hK2
      have HK := Lib.hid hk
      have HAT := Lib.hid hat
      have HSS := Lib.hid hsz
      have HCS := Lib.hid hcs
      have HBB := Lib.hid hb
      have HLW := Lib.hid hlow
      clear hK0 hK2 hk hat hsz hcs hb hlow
      go_wp2_with fail
      go_quiet (fail)
      go_wp2_with (refine wpList_load_row rfl 54 (.tmp 5) rfl _ rfl 54 cs _ _ HK.out Try.underlying54 rfl HSS.out ?_)
      go_loopw [8, 9, 10, 11, 12, 62] (fun va vb vc vd ve i wz => ∃ t : Nat, t ≤ 80 ∧ i = .int .i64 t ∧ va = .int .u32 (stepsI L ⟨a, b, cc, d, e⟩ t).a ∧ vb = .int .u32 (stepsI L ⟨a, b, cc, d, e⟩ t).b ∧ vc = .int .u32 (stepsI L ⟨a, b, cc, d, e⟩ t).c ∧ vd = .int .u32 (stepsI L ⟨a, b, cc, d, e⟩ t).d ∧ ve = .int .u32 (stepsI L ⟨a, b, cc, d, e⟩ t).e ∧ wz = wr.drewN nq) (fun _ _ _ _ _ i _ => 80 - (intOf i).toNat)
      case atStart => exact ⟨0, by omega, rfl, rfl, rfl, rfl, rfl, rfl, rfl⟩
      case round =>
        obtain ⟨t, ht, rfl, rfl, rfl, rfl, rfl, rfl, rfl⟩ := hrel
        have hst : stepsI L ⟨a, b, cc, d, e⟩ (t + 1) = stepI (stepsI L ⟨a, b, cc, d, e⟩ t) t (L.getD t 0) := rfl
        generalize hs : stepsI L ⟨a, b, cc, d, e⟩ t = s at hst ⊢
        obtain ⟨sa, sb, sc, sd, se⟩ := s
        have HS := Lib.hid hs
        clear hs
        simp only at *
        by_cases hlt : t < 80
        · have hx := HAT.out t hlt
          generalize L.getD t 0 = x at *
          have hst2 : stepsI L ⟨a, b, cc, d, e⟩ (t + 1) = ⟨(rotB sa + fI t sb sc sd + se + kI t + x) % 4294967296, sa, rotC sb, sc, sd⟩ := hst
          have hrd := fun w => round_any t sb sc sd hlt w
          have hB := fun w => rotB_any sa w
          have hC := fun w => rotC_any sb w
          generalize fI t sb sc sd = f at *
          generalize kI t = k at *
          generalize rotB sa = ra at *
          generalize rotC sb = rb at *
          have hix := index54 cs t x hlt hx
          have HX := Lib.hid hst2
          have HRD := Lib.hid hrd
          have HBC := Lib.hid hB
          have HCC := Lib.hid hC
          clear hst hst2 hrd hB hC
          go_wp2_with fail
          refine (HRD.out _).mono ?_
          rintro e w2 ⟨rfl, rfl⟩
          go_wp2_with fail
          refine (HBC.out _).mono ?_
          rintro e w2 ⟨rfl, rfl⟩
          go_wp2_with fail
          refine (HCC.out _).mono ?_
          rintro e w2 ⟨rfl, rfl⟩
          go_wp2_with fail
          go_roundw
          case rel => exact ⟨t + 1, by omega, by go_num, by rw [HX.out], by rw [HX.out], by rw [HX.out], by rw [HX.out], by rw [HX.out], trivial⟩
          case measure => simp [intOf]; omega
        · have htk : t = 80 := by omega
          subst htk
          clear hst
          have k0 := HK2.out.cell 0
          have k1 := HK2.out.cell 1
          have k2 := HK2.out.cell 2
          have k3 := HK2.out.cell 3
          have k4 := HK2.out.cell 4
          simp at k0 k1 k2 k3 k4
          have q0 := HK2.out.frozen 0
          have q1 := HK2.out.frozen 1
          have q2 := HK2.out.frozen 2
          have q3 := HK2.out.frozen 3
          have q4 := HK2.out.frozen 4
          have hK2d : Blk (wr.drewN nq) (B + 1 + 1) 31 _ := HK2.out
          have hBd : Below w.heap.size w (wr.drewN nq) := below_drewN HLW.out nq
          obtain ⟨hz5, hb5⟩ := st5 (.int .u32 ((a + sa) % 4294967296)) (.int .u32 ((b + sb) % 4294967296)) (.int .u32 ((cc + sc) % 4294967296)) (.int .u32 ((d + sd) % 4294967296)) (.int .u32 ((e + se) % 4294967296)) hK2d hBd (by omega)
          have HZ5 := Lib.hid hz5
          have HB5 := Lib.hid hb5
          clear hz5 hb5 hK2d hBd
          go_wp2_with fail
          have hL := HL.out 80 rfl
          have hs := HS.out
          refine bodyPost_ret (v := .agg #[.int .u32 ((a + sa) % 4294967296), .int .u32 ((b + sb) % 4294967296), .int .u32 ((cc + sc) % 4294967296), .int .u32 ((d + sd) % 4294967296), .int .u32 ((e + se) % 4294967296)]) (results_cell_row rfl _ _ (B + 1 + 1) 31 #[.int .u32 ((a + sa) % 4294967296), .int .u32 ((b + sb) % 4294967296), .int .u32 ((cc + sc) % 4294967296), .int .u32 ((d + sd) % 4294967296), .int .u32 ((e + se) % 4294967296)] _ _ rfl HZ5.out Try.underlying31 rfl size31) rfl ⟨?_, HB5.out⟩
          rw [hL, hs]
          rfl
end Go.Proofs.Ytgkgdbjdmmieaaa
