/- New, of the reference: the walks. No condition. -/
import Derived.Test.YtebmgladdgmmeaaVdGNc
namespace Go.Proofs.Ytebmgladdgmmeaa
open Go.RowKit Go.WideShapes
open List (setIfInBounds_toArray set_cons_zero set_cons_succ)
set_option linter.unusedVariables false
set_option linter.unusedSimpArgs false
set_option maxRecDepth 100000 in
set_option maxHeartbeats 4000000 in
theorem new24_a (h m : Int) (w : World) (hh : h < 0) : Calls Try.prog 24 #[.int .i64 h, .int .i64 m] w (IsNewE w) := by
  unfold IsNewE
  have hz := (zero_of_info zero50).1
  have q1 : decide (h < 0) = true := by simpa using hh
  have HSI : Hid ((Try.prog.info? 50).map (·.size) = some zCells.size) := Lib.hid (by rw [show zCells.size = 263 from Mc.size zM_ok _ _]; exact size50)
  have HZ := Lib.hid zone
  have HBL := Lib.hid built50e
  obtain ⟨cs, hcs⟩ : ∃ x, zCells = x := ⟨_, rfl⟩
  rw [hcs] at HSI HZ HBL
  simp only [hcs] at hz ⊢
  clear hcs
  go_enter Try.func24, Try.ntmps24
  go_wp2_with (first
    | (refine wpList_build rfl 50 #[] rfl (by simp [HBL.out]) ?_; simp only [List.map_toArray, List.map_nil, HBL.out, Option.getD_some])
    | (refine wpList_store_row rfl 50 (.tmp 4) (.tmp 24) rfl w.heap.size cs rfl rfl 50 _ (heap_alloc_new _ _) HSI.out rfl HZ.out ?_; rw [World.setRow_alloc_new]))
  exact bodyPost_ret (v := .tuple #[.agg cs, .int .i64 2]) (results_row_tmp rfl _ _ w.heap.size 50 cs _ _ _ rfl rfl (heap_alloc_new _ _) Try.underlying50 rfl HSI.out) rfl ⟨rfl, (Below.refl _ _).alloc (Nat.le_refl _) _⟩
set_option maxRecDepth 100000 in
set_option maxHeartbeats 4000000 in
theorem new24_b (h m : Int) (w : World) (h0 : ¬ h < 0) (hh : 8 < h) : Calls Try.prog 24 #[.int .i64 h, .int .i64 m] w (IsNewE w) := by
  unfold IsNewE
  have hz := (zero_of_info zero50).1
  have q1 : decide (h < 0) = false := by simpa using h0
  have q2 : decide ((8 : Int) < h) = true := by simpa using hh
  have HSI : Hid ((Try.prog.info? 50).map (·.size) = some zCells.size) := Lib.hid (by rw [show zCells.size = 263 from Mc.size zM_ok _ _]; exact size50)
  have HZ := Lib.hid zone
  have HBL := Lib.hid built50e
  obtain ⟨cs, hcs⟩ : ∃ x, zCells = x := ⟨_, rfl⟩
  rw [hcs] at HSI HZ HBL
  simp only [hcs] at hz ⊢
  clear hcs
  go_enter Try.func24, Try.ntmps24
  go_wp2_with (first
    | (refine wpList_build rfl 50 #[] rfl (by simp [HBL.out]) ?_; simp only [List.map_toArray, List.map_nil, HBL.out, Option.getD_some])
    | (refine wpList_store_row rfl 50 (.tmp 4) (.tmp 24) rfl w.heap.size cs rfl rfl 50 _ (heap_alloc_new _ _) HSI.out rfl HZ.out ?_; rw [World.setRow_alloc_new]))
  exact bodyPost_ret (v := .tuple #[.agg cs, .int .i64 2]) (results_row_tmp rfl _ _ w.heap.size 50 cs _ _ _ rfl rfl (heap_alloc_new _ _) Try.underlying50 rfl HSI.out) rfl ⟨rfl, (Below.refl _ _).alloc (Nat.le_refl _) _⟩
set_option maxRecDepth 100000 in
set_option maxHeartbeats 4000000 in
theorem new24_c (h m : Int) (w : World) (h0 : ¬ h < 0) (h8 : ¬ 8 < h) (hh : m < 0) : Calls Try.prog 24 #[.int .i64 h, .int .i64 m] w (IsNewE w) := by
  unfold IsNewE
  have hz := (zero_of_info zero50).1
  have q1 : decide (h < 0) = false := by simpa using h0
  have q2 : decide ((8 : Int) < h) = false := by simpa using h8
  have q3 : decide (m < 0) = true := by simpa using hh
  have HSI : Hid ((Try.prog.info? 50).map (·.size) = some zCells.size) := Lib.hid (by rw [show zCells.size = 263 from Mc.size zM_ok _ _]; exact size50)
  have HZ := Lib.hid zone
  have HBL := Lib.hid built50e
  obtain ⟨cs, hcs⟩ : ∃ x, zCells = x := ⟨_, rfl⟩
  rw [hcs] at HSI HZ HBL
  simp only [hcs] at hz ⊢
  clear hcs
  go_enter Try.func24, Try.ntmps24
  go_wp2_with (first
    | (refine wpList_build rfl 50 #[] rfl (by simp [HBL.out]) ?_; simp only [List.map_toArray, List.map_nil, HBL.out, Option.getD_some])
    | (refine wpList_store_row rfl 50 (.tmp 4) (.tmp 24) rfl w.heap.size cs rfl rfl 50 _ (heap_alloc_new _ _) HSI.out rfl HZ.out ?_; rw [World.setRow_alloc_new]))
  exact bodyPost_ret (v := .tuple #[.agg cs, .int .i64 2]) (results_row_tmp rfl _ _ w.heap.size 50 cs _ _ _ rfl rfl (heap_alloc_new _ _) Try.underlying50 rfl HSI.out) rfl ⟨rfl, (Below.refl _ _).alloc (Nat.le_refl _) _⟩
set_option maxRecDepth 100000 in
set_option maxHeartbeats 4000000 in
theorem new24_d (h m : Int) (w : World) (h0 : ¬ h < 0) (h8 : ¬ 8 < h) (hm : ¬ m < 0) (hh : 12 < m) : Calls Try.prog 24 #[.int .i64 h, .int .i64 m] w (IsNewE w) := by
  unfold IsNewE
  have hz := (zero_of_info zero50).1
  have q1 : decide (h < 0) = false := by simpa using h0
  have q2 : decide ((8 : Int) < h) = false := by simpa using h8
  have q3 : decide (m < 0) = false := by simpa using hm
  have q4 : decide ((12 : Int) < m) = true := by simpa using hh
  have HSI : Hid ((Try.prog.info? 50).map (·.size) = some zCells.size) := Lib.hid (by rw [show zCells.size = 263 from Mc.size zM_ok _ _]; exact size50)
  have HZ := Lib.hid zone
  have HBL := Lib.hid built50e
  obtain ⟨cs, hcs⟩ : ∃ x, zCells = x := ⟨_, rfl⟩
  rw [hcs] at HSI HZ HBL
  simp only [hcs] at hz ⊢
  clear hcs
  go_enter Try.func24, Try.ntmps24
  go_wp2_with (first
    | (refine wpList_build rfl 50 #[] rfl (by simp [HBL.out]) ?_; simp only [List.map_toArray, List.map_nil, HBL.out, Option.getD_some])
    | (refine wpList_store_row rfl 50 (.tmp 4) (.tmp 24) rfl w.heap.size cs rfl rfl 50 _ (heap_alloc_new _ _) HSI.out rfl HZ.out ?_; rw [World.setRow_alloc_new]))
  exact bodyPost_ret (v := .tuple #[.agg cs, .int .i64 2]) (results_row_tmp rfl _ _ w.heap.size 50 cs _ _ _ rfl rfl (heap_alloc_new _ _) Try.underlying50 rfl HSI.out) rfl ⟨rfl, (Below.refl _ _).alloc (Nat.le_refl _) _⟩
def AtNw (n : Nat) (W : World) (a k : Value) (wr : World) : Prop := (∃ j, j ≤ n ∧ a = .int .i64 ((2 ^ j : Nat) : Int) ∧ k = .int .i64 (j : Int)) ∧ wr = W
set_option maxRecDepth 100000 in
set_option maxHeartbeats 4000000 in
theorem new24_ok (h m : Nat) (w : World) (hh : h ≤ 8) (hm : m ≤ 12) : Calls Try.prog 24 #[.int .i64 h, .int .i64 m] w (IsNew (2 ^ h) (2 ^ m) w) := by
  have hz := (zero_of_info zero50).1
  have q1 : decide ((h : Int) < 0) = false := by simp
  have q2 : decide ((8 : Int) < (h : Int)) = false := by simp; omega
  have q3 : decide ((m : Int) < 0) = false := by simp
  have q4 : decide ((12 : Int) < (m : Int)) = false := by simp; omega
  have hp : 2 ^ h ≤ 256 := Nat.pow_le_pow_right (n := 2) (by omega) hh
  have hq : 2 ^ m ≤ 4096 := Nat.pow_le_pow_right (n := 2) (by omega) hm
  obtain ⟨p, hp1⟩ : ∃ p, 2 ^ h = p := ⟨_, rfl⟩
  obtain ⟨q, hq1⟩ : ∃ q, 2 ^ m = q := ⟨_, rfl⟩
  rw [hp1] at hp
  rw [hq1] at hq
  rw [hp1, hq1]
  have HP1 := Lib.hid hp1
  have HQ1 := Lib.hid hq1
  have HBL := Lib.hid built50
  have HB0 := Lib.hid (Below.drew ((Below.refl w.heap.size w).alloc (Nat.le_refl _) (.cells zCells 50)))
  have HZ0 := Lib.hid ((Blk.new w 50 zCells).drew)
  obtain ⟨W0, hW0⟩ : ∃ x, (w.alloc (.cells zCells 50)).drew = x := ⟨_, rfl⟩
  rw [hW0] at HB0 HZ0
  have HW0 := Lib.hid hW0
  obtain ⟨zs, hzs⟩ : ∃ x, zCells = x := ⟨_, rfl⟩
  have HZS := Lib.hid hzs
  simp only [hzs] at hz
  obtain ⟨WA, hWA⟩ : ∃ x, w.alloc (.cells zs 50) = x := ⟨_, rfl⟩
  have HWA := Lib.hid hWA
  have st : ∀ n, AtNw n WA (.int .i64 1) (.int .i64 0) WA := fun n => ⟨⟨0, by omega, rfl, rfl⟩, rfl⟩
  have ST := Lib.hid st
  clear hzs hp1 hq1 hW0 hWA st
  have HHH := Lib.hid hh
  have HMM := Lib.hid hm
  go_enter Try.func24, Try.ntmps24
  go_wp2_with fail
  rw [HWA.out]
  go_loopw [6, 8] (fun a k wr => AtNw h WA a k wr) (fun _ k _ => h - (intOf k).toNat)
  case atStart => exact ST.out h
  case round =>
    obtain ⟨⟨j, hj, rfl, rfl⟩, rfl⟩ := hrel
    by_cases hjh : j < h
    · have g1 : decide ((j : Int) < (h : Int)) = true := by simp; omega
      have g1n : decide (j < h) = true := by simp; omega
      have hpw : 2 ^ j ≤ 4096 := by
        have := Nat.pow_le_pow_right (n := 2) (by omega) (show j ≤ 12 by omega)
        simpa using this
      have hj2 : 2 ^ (j + 1) = 2 ^ j * 2 := Nat.pow_succ ..
      obtain ⟨x, hx⟩ : ∃ x, 2 ^ j = x := ⟨_, rfl⟩
      rw [hx] at hpw hj2 ⊢
      have hxI : (x : Int) ≤ 4096 := by omega
      have hend : AtNw h wr (.int .i64 ((x : Int) * 2)) (.int .i64 ((j : Int) + 1)) wr := ⟨⟨j + 1, by omega, by rw [hj2]; simp, by go_num⟩, rfl⟩
      have HEND := Lib.hid hend
      clear hend hx hj2
      go_wp2_with fail
      refine ⟨HEND.out, ?_⟩
      simp [intOf]
      omega
    · obtain rfl : j = h := by omega
      have g1 : decide ((j : Int) < (j : Int)) = false := by simp
      have g1n : decide (j < j) = false := by simp
      rw [HP1.out]
      go_wp2_with fail
      go_loopw [7, 9] (fun a k w2 => AtNw m wr a k w2) (fun _ k _ => m - (intOf k).toNat)
      case atStart => exact ST.out m
      case round =>
        obtain ⟨⟨i, hi, rfl, rfl⟩, rfl⟩ := hrel
        by_cases hih : i < m
        · have g1 : decide ((i : Int) < (m : Int)) = true := by simp; omega
          have g1n : decide (i < m) = true := by simp; omega
          have hpw : 2 ^ i ≤ 4096 := by
            have := Nat.pow_le_pow_right (n := 2) (by omega) (show i ≤ 12 by omega)
            simpa using this
          have hi2 : 2 ^ (i + 1) = 2 ^ i * 2 := Nat.pow_succ ..
          obtain ⟨x, hx⟩ : ∃ x, 2 ^ i = x := ⟨_, rfl⟩
          rw [hx] at hpw hi2 ⊢
          have hxI : (x : Int) ≤ 4096 := by omega
          have hend : AtNw m wr (.int .i64 ((x : Int) * 2)) (.int .i64 ((i : Int) + 1)) wr := ⟨⟨i + 1, by omega, by rw [hi2]; simp, by go_num⟩, rfl⟩
          have HEND := Lib.hid hend
          clear hend hx hi2
          go_wp2_with fail
          refine ⟨HEND.out, ?_⟩
          simp [intOf]
          omega
        · obtain rfl : i = m := by omega
          have g2 : decide ((i : Int) < (i : Int)) = false := by simp
          have g2n : decide (i < i) = false := by simp
          rw [HQ1.out]
          go_wp2_with fail
          refine wp_region_any (by kernel_rfl) ?_
          try (change wpAny _ _ _ _ _ _ _ (World.drew _))
          rw [← HWA.out, ← HZS.out, HW0.out]
          refine wpAny_take (i := 0) (v := ?_) rfl (by kernel_rfl) (by kernel_rfl) (by kernel_rfl) (fun _ _ _ h => h) (Or.inl ⟨by rfl, ?_⟩) ?_
          rotate_left
          · (intro w; go_simp) <;> with_reducible rfl
          simp only [List.getElem_toArray, List.getElem_cons_zero, List.getElem_cons_succ, Act.put, setIfInBounds_toArray, set_cons_zero, set_cons_succ]
          refine wpAny_take (i := 2) (v := ?_) rfl (by kernel_rfl) (by kernel_rfl) (by kernel_rfl) (fun _ _ _ h => h) (Or.inl ⟨by rfl, ?_⟩) ?_
          rotate_left
          · (intro w; go_simp) <;> with_reducible rfl
          simp only [List.getElem_toArray, List.getElem_cons_zero, List.getElem_cons_succ, Act.put, setIfInBounds_toArray, set_cons_zero, set_cons_succ]
          refine wpAny_ready (rs := [1, 3]) (by kernel_rfl) (by simp) ?_
          refine AllReady.cons rfl (fun K hK => ?_) (AllReady.cons rfl (fun K hK => ?_) AllReady.nil)
          · have HK := Lib.hid hK
            clear hK
            rw [if_pos (by rfl)]
            try simp only [List.getElem_toArray, List.getElem_cons_zero, List.getElem_cons_succ]
            refine wp_makeN tW (.tmp 39) (.tmp 39) rfl p rfl rfl rfl (by omega) (by omega) ?_
            refine HK.out _ _ ?_
            clear HK K
            try simp only [List.getElem_toArray, List.getElem_cons_zero, List.getElem_cons_succ, Act.put, setIfInBounds_toArray, set_cons_zero, set_cons_succ]
            refine wpAny_ready (rs := [3]) (by kernel_rfl) (by simp) ?_
            refine AllReady.cons rfl (fun K hK => ?_) AllReady.nil
            have HK := Lib.hid hK
            clear hK
            rw [if_pos (by rfl)]
            try simp only [List.getElem_toArray, List.getElem_cons_zero, List.getElem_cons_succ]
            refine wp_makeN tB (.tmp 41) (.tmp 41) rfl q rfl rfl rfl (by omega) (by omega) ?_
            refine HK.out _ _ ?_
            clear HK K
            try simp only [List.getElem_toArray, List.getElem_cons_zero, List.getElem_cons_succ, Act.put, setIfInBounds_toArray, set_cons_zero, set_cons_succ]
            refine wpAny_ready (rs := [4]) (by kernel_rfl) (by simp) ?_
            refine AllReady.cons rfl (fun K hK => ?_) AllReady.nil
            have HK := Lib.hid hK
            clear hK
            rw [if_pos (by rfl)]
            try simp only [List.getElem_toArray, List.getElem_cons_zero, List.getElem_cons_succ]
            simp only [World.size_alloc]
            have hbb := HBL.out W0.heap.size (W0.heap.size + 1) p p q q
            have hsz := (Mc.size zM_ok (.slice (some ⟨W0.heap.size, 0, none⟩) p p) (.slice (some ⟨(W0.heap.size + 1), 0, none⟩) q q))
            have hone : (zM.cells (.slice (some ⟨W0.heap.size, 0, none⟩) p p) (.slice (some ⟨(W0.heap.size + 1), 0, none⟩) q q)).all (·.oneCell') = true := Mc.one rfl rfl
            obtain ⟨cs, hcs⟩ : ∃ x, zM.cells (.slice (some ⟨W0.heap.size, 0, none⟩) p p) (.slice (some ⟨(W0.heap.size + 1), 0, none⟩) q q) = x := ⟨_, rfl⟩
            rw [hcs] at hbb hsz hone
            have HSI : Hid ((Try.prog.info? 50).map (·.size) = some cs.size) := Lib.hid (by rw [hsz]; exact size50)
            have HSS : Hid (zCells.size = cs.size) := Lib.hid (by rw [hsz]; exact Mc.size zM_ok _ _)
            have HONE := Lib.hid hone
            have HBB := Lib.hid hbb
            have HCS := Lib.hid hcs
            clear hsz hone hbb hcs
            refine wp_built 50 #[(6, .tmp 40), (7, .tmp 42)] cs rfl (by simp only [List.map_toArray, List.map_cons, List.map_nil]; exact HBB.out) ?_
            refine HK.out _ _ ?_
            clear HK K
            try simp only [List.getElem_toArray, List.getElem_cons_zero, List.getElem_cons_succ, Act.put, setIfInBounds_toArray, set_cons_zero, set_cons_succ]
            have HE := Lib.hid (new_end (t1 := 45) (t2 := 5) HB0.out HZ0.out (List.replicate p (.int .u32 0)).toArray (List.replicate q (.int .u8 0)).toArray cs)
            refine wpAny_ready (rs := [5]) (by kernel_rfl) (by simp) ?_
            refine AllReady.cons rfl (fun K hK => ?_) AllReady.nil
            have HK := Lib.hid hK
            clear hK
            rw [if_pos (by rfl)]
            try simp only [List.getElem_toArray, List.getElem_cons_zero, List.getElem_cons_succ]
            refine wp_store_row 50 (.tmp 4) (.tmp 43) rfl w.heap.size cs rfl rfl 50 zCells (HZ0.out.alloc _ |>.alloc _) HSI.out HSS.out HONE.out ?_
            refine HK.out _ _ ?_
            clear HK K
            try simp only [List.getElem_toArray, List.getElem_cons_zero, List.getElem_cons_succ, Act.put, setIfInBounds_toArray, set_cons_zero, set_cons_succ]
            refine wpAny_take (i := 6) (v := ?_) rfl (by kernel_rfl) (by kernel_rfl) (by kernel_rfl) (fun _ _ _ h => h) (Or.inl ⟨by rfl, ?_⟩) ?_
            rotate_left
            · (intro w; go_simp) <;> with_reducible rfl
            simp only [List.getElem_toArray, List.getElem_cons_zero, List.getElem_cons_succ, Act.put, setIfInBounds_toArray, set_cons_zero, set_cons_succ]
            refine wpAny_done (by kernel_rfl) ?_ _
            go_wp2_with fail
            obtain ⟨e1, e2, e3, e4⟩ := HE.out
            exact bodyPost_ret (v := .tuple #[.agg cs, .int .i64 0]) (results_row_tmp rfl _ _ w.heap.size 50 cs _ _ _ rfl rfl e1 Try.underlying50 rfl HSI.out) rfl ⟨⟨_, _, by rw [HCS.out], row_own e2 (by rw [List.length_replicate]) (by have := HB0.out.size; omega), row_own e3 (by rw [List.length_replicate]) (by have := HB0.out.size; omega)⟩, e4⟩
          · have HK := Lib.hid hK
            clear hK
            rw [if_pos (by rfl)]
            try simp only [List.getElem_toArray, List.getElem_cons_zero, List.getElem_cons_succ]
            refine wp_makeN tB (.tmp 41) (.tmp 41) rfl q rfl rfl rfl (by omega) (by omega) ?_
            refine HK.out _ _ ?_
            clear HK K
            try simp only [List.getElem_toArray, List.getElem_cons_zero, List.getElem_cons_succ, Act.put, setIfInBounds_toArray, set_cons_zero, set_cons_succ]
            refine wpAny_ready (rs := [1]) (by kernel_rfl) (by simp) ?_
            refine AllReady.cons rfl (fun K hK => ?_) AllReady.nil
            have HK := Lib.hid hK
            clear hK
            rw [if_pos (by rfl)]
            try simp only [List.getElem_toArray, List.getElem_cons_zero, List.getElem_cons_succ]
            refine wp_makeN tW (.tmp 39) (.tmp 39) rfl p rfl rfl rfl (by omega) (by omega) ?_
            refine HK.out _ _ ?_
            clear HK K
            try simp only [List.getElem_toArray, List.getElem_cons_zero, List.getElem_cons_succ, Act.put, setIfInBounds_toArray, set_cons_zero, set_cons_succ]
            refine wpAny_ready (rs := [4]) (by kernel_rfl) (by simp) ?_
            refine AllReady.cons rfl (fun K hK => ?_) AllReady.nil
            have HK := Lib.hid hK
            clear hK
            rw [if_pos (by rfl)]
            try simp only [List.getElem_toArray, List.getElem_cons_zero, List.getElem_cons_succ]
            simp only [World.size_alloc]
            have hbb := HBL.out (W0.heap.size + 1) W0.heap.size p p q q
            have hsz := (Mc.size zM_ok (.slice (some ⟨(W0.heap.size + 1), 0, none⟩) p p) (.slice (some ⟨W0.heap.size, 0, none⟩) q q))
            have hone : (zM.cells (.slice (some ⟨(W0.heap.size + 1), 0, none⟩) p p) (.slice (some ⟨W0.heap.size, 0, none⟩) q q)).all (·.oneCell') = true := Mc.one rfl rfl
            obtain ⟨cs, hcs⟩ : ∃ x, zM.cells (.slice (some ⟨(W0.heap.size + 1), 0, none⟩) p p) (.slice (some ⟨W0.heap.size, 0, none⟩) q q) = x := ⟨_, rfl⟩
            rw [hcs] at hbb hsz hone
            have HSI : Hid ((Try.prog.info? 50).map (·.size) = some cs.size) := Lib.hid (by rw [hsz]; exact size50)
            have HSS : Hid (zCells.size = cs.size) := Lib.hid (by rw [hsz]; exact Mc.size zM_ok _ _)
            have HONE := Lib.hid hone
            have HBB := Lib.hid hbb
            have HCS := Lib.hid hcs
            clear hsz hone hbb hcs
            refine wp_built 50 #[(6, .tmp 40), (7, .tmp 42)] cs rfl (by simp only [List.map_toArray, List.map_cons, List.map_nil]; exact HBB.out) ?_
            refine HK.out _ _ ?_
            clear HK K
            try simp only [List.getElem_toArray, List.getElem_cons_zero, List.getElem_cons_succ, Act.put, setIfInBounds_toArray, set_cons_zero, set_cons_succ]
            have HE := Lib.hid (new_end (t1 := 5) (t2 := 45) HB0.out HZ0.out (List.replicate q (.int .u8 0)).toArray (List.replicate p (.int .u32 0)).toArray cs)
            refine wpAny_ready (rs := [5]) (by kernel_rfl) (by simp) ?_
            refine AllReady.cons rfl (fun K hK => ?_) AllReady.nil
            have HK := Lib.hid hK
            clear hK
            rw [if_pos (by rfl)]
            try simp only [List.getElem_toArray, List.getElem_cons_zero, List.getElem_cons_succ]
            refine wp_store_row 50 (.tmp 4) (.tmp 43) rfl w.heap.size cs rfl rfl 50 zCells (HZ0.out.alloc _ |>.alloc _) HSI.out HSS.out HONE.out ?_
            refine HK.out _ _ ?_
            clear HK K
            try simp only [List.getElem_toArray, List.getElem_cons_zero, List.getElem_cons_succ, Act.put, setIfInBounds_toArray, set_cons_zero, set_cons_succ]
            refine wpAny_take (i := 6) (v := ?_) rfl (by kernel_rfl) (by kernel_rfl) (by kernel_rfl) (fun _ _ _ h => h) (Or.inl ⟨by rfl, ?_⟩) ?_
            rotate_left
            · (intro w; go_simp) <;> with_reducible rfl
            simp only [List.getElem_toArray, List.getElem_cons_zero, List.getElem_cons_succ, Act.put, setIfInBounds_toArray, set_cons_zero, set_cons_succ]
            refine wpAny_done (by kernel_rfl) ?_ _
            go_wp2_with fail
            obtain ⟨e1, e2, e3, e4⟩ := HE.out
            exact bodyPost_ret (v := .tuple #[.agg cs, .int .i64 0]) (results_row_tmp rfl _ _ w.heap.size 50 cs _ _ _ rfl rfl e1 Try.underlying50 rfl HSI.out) rfl ⟨⟨_, _, by rw [HCS.out], row_own e3 (by rw [List.length_replicate]) (by have := HB0.out.size; omega), row_own e2 (by rw [List.length_replicate]) (by have := HB0.out.size; omega)⟩, e4⟩
end Go.Proofs.Ytebmgladdgmmeaa
