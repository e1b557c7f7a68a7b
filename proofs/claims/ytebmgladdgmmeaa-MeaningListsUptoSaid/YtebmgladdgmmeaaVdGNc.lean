/- New, of vm, of right numbers: the walk. No condition. -/
import Derived.Test.YtebmgladdgmmeaaVdGNb
namespace Go.Proofs.Ytebmgladdgmmeaa
open Go.RowKit Go.WideShapes
open List (setIfInBounds_toArray set_cons_zero set_cons_succ)
set_option linter.unusedVariables false
set_option linter.unusedSimpArgs false
theorem wp_built {P : Program} {o : Oper} {a : Act} {w : World} {K : Act → World → Prop} {Q : Exit → Act → World → Prop} (t : TypeId) (parts : Array (Nat × Operand)) (cs : Array Value) (ho : o.op = .build t parts)
    (hb : P.built t (parts.map fun (i, x) => (i, a.eval x)).toList = some cs) (h : K (a.put o.dst (.agg cs)) w) : o.wp P a w K Q := by
  refine wp_build t parts ho (by rw [hb]; rfl) ?_
  rw [hb]
  exact h
/-- A machine of noughts handed back, with a fault. -/
def IsNew (p q : Nat) (w0 : World) (e : Ending) (w : World) : Prop := (∃ v1 v2, e = .returned (.tuple #[.agg (zM.cells v1 v2), .int .i64 0]) ∧ OwnR w w0.heap.size v1 45 (List.replicate p (.int .u32 0)) ∧ OwnR w w0.heap.size v2 5 (List.replicate q (.int .u8 0))) ∧ Below w0.heap.size w0 w
theorem new_end {w W : World} {t1 t2 : TypeId} (hb : Below w.heap.size w W) (hz : Blk W w.heap.size 50 zCells) (r1 r2 cs : Array Value) :
    Blk (((W.alloc (.cells r1 t1)).alloc (.cells r2 t2)).setRow w.heap.size cs) w.heap.size 50 cs ∧ Blk (((W.alloc (.cells r1 t1)).alloc (.cells r2 t2)).setRow w.heap.size cs) W.heap.size t1 r1 ∧ Blk (((W.alloc (.cells r1 t1)).alloc (.cells r2 t2)).setRow w.heap.size cs) (W.heap.size + 1) t2 r2 ∧ Below w.heap.size w (((W.alloc (.cells r1 t1)).alloc (.cells r2 t2)).setRow w.heap.size cs) := by
  have hlt := hz.lt
  have b1 := (Blk.new W t1 r1).alloc (.cells r2 t2)
  have b2 := Blk.new (W.alloc (.cells r1 t1)) t2 r2
  rw [World.size_alloc] at b2
  have hf := frm_setRow ((W.alloc (.cells r1 t1)).alloc (.cells r2 t2)) w.heap.size cs
  refine ⟨blk_setRow ((hz.alloc _).alloc _) cs, b1.frm hf (by omega), b2.frm hf (by omega), ?_⟩
  have h1 : Below w.heap.size w ((W.alloc (.cells r1 t1)).alloc (.cells r2 t2)) := (hb.alloc hb.size _).alloc (by simp; have := hb.size; omega) _
  exact h1.trans (hf.to_below h1.size (fun k hk => by omega))
theorem row_own {W : World} {g base n : Nat} {e : TypeId} {x : Value} (h : Blk W g e (List.replicate n x).toArray) (hn : n = (List.replicate n x).length) (hb : base ≤ g) : OwnR W base (.slice (some ⟨g, 0, none⟩) n n) e (List.replicate n x) :=
  .inr ⟨g, n, by rw [← hn], by rw [← hn]; exact Nat.le_refl _, hb, _, h, by simp⟩
set_option maxRecDepth 100000 in
set_option maxHeartbeats 4000000 in
theorem new23_ok (h m : Nat) (w : World) (hh : h ≤ 8) (hm : m ≤ 12) : Calls Try.prog 23 #[.int .i64 h, .int .i64 m] w (IsNew (2 ^ h) (2 ^ m) w) := by
  have hz := (zero_of_info zero50).1
  have q1 : decide ((h : Int) < 0) = false := by simp
  have q2 : decide ((8 : Int) < (h : Int)) = false := by simp; omega
  have q3 : decide ((m : Int) < 0) = false := by simp
  have q4 : decide ((12 : Int) < (m : Int)) = false := by simp; omega
  have hp : 2 ^ h ≤ 256 := Nat.pow_le_pow_right (n := 2) (by omega) hh
  have hq : 2 ^ m ≤ 4096 := Nat.pow_le_pow_right (n := 2) (by omega) hm
  obtain ⟨p, hp1⟩ : ∃ p, 2 ^ h = p := ⟨_, rfl⟩
  obtain ⟨q, hq1⟩ : ∃ q, 2 ^ m = q := ⟨_, rfl⟩
  rw [hp1] at hp
  rw [hq1] at hq
  have e1 : (2 : Int) ^ h = (p : Int) := by rw [← hp1]; simp
  have e2 : (2 : Int) ^ m = (q : Int) := by rw [← hq1]; simp
  rw [hp1, hq1]
  have w1 : IntKind.i64.wrap (p : Int) = (p : Int) := IntWalk.i64_in _ (by omega)
  have w2 : IntKind.i64.wrap (q : Int) = (q : Int) := IntWalk.i64_in _ (by omega)
  have s1 : (0 : Int) ≤ (h : Int) := by omega
  have s2 : (h : Int) ≤ 64 := by omega
  have s3 : (0 : Int) ≤ (m : Int) := by omega
  have s4 : (m : Int) ≤ 64 := by omega
  have HBL := Lib.hid built50
  have HB0 := Lib.hid (Below.drew ((Below.refl w.heap.size w).alloc (Nat.le_refl _) (.cells zCells 50)))
  have HZ0 := Lib.hid ((Blk.new w 50 zCells).drew)
  obtain ⟨W0, hW0⟩ : ∃ x, (w.alloc (.cells zCells 50)).drew = x := ⟨_, rfl⟩
  rw [hW0] at HB0 HZ0
  have HW0 := Lib.hid hW0
  obtain ⟨zs, hzs⟩ : ∃ x, zCells = x := ⟨_, rfl⟩
  have HZS := Lib.hid hzs
  simp only [hzs] at hz
  clear hzs hp1 hq1 hW0
  go_enter Try.func23, Try.ntmps23
  go_wp2_with fail
  refine wp_region_any (by kernel_rfl) ?_
  try (change wpAny _ _ _ _ _ _ _ (World.drew _))
  rw [← HZS.out, HW0.out]
  refine wpAny_take (i := 0) (v := ?_) rfl (by kernel_rfl) (by kernel_rfl) (by kernel_rfl) (fun _ _ _ h => h) (Or.inl ⟨by rfl, ?_⟩) ?_
  rotate_left
  · (intro w; go_simp) <;> with_reducible rfl
  simp only [List.getElem_toArray, List.getElem_cons_zero, List.getElem_cons_succ, Act.put, setIfInBounds_toArray, set_cons_zero, set_cons_succ]
  refine wpAny_take (i := 1) (v := ?_) rfl (by kernel_rfl) (by kernel_rfl) (by kernel_rfl) (fun _ _ _ h => h) (Or.inl ⟨by rfl, ?_⟩) ?_
  rotate_left
  · (intro w; go_simp) <;> with_reducible rfl
  simp only [List.getElem_toArray, List.getElem_cons_zero, List.getElem_cons_succ, Act.put, setIfInBounds_toArray, set_cons_zero, set_cons_succ]
  refine wpAny_take (i := 3) (v := ?_) rfl (by kernel_rfl) (by kernel_rfl) (by kernel_rfl) (fun _ _ _ h => h) (Or.inl ⟨by rfl, ?_⟩) ?_
  rotate_left
  · (intro w; go_simp) <;> with_reducible rfl
  simp only [List.getElem_toArray, List.getElem_cons_zero, List.getElem_cons_succ, Act.put, setIfInBounds_toArray, set_cons_zero, set_cons_succ]
  refine wpAny_take (i := 4) (v := ?_) rfl (by kernel_rfl) (by kernel_rfl) (by kernel_rfl) (fun _ _ _ h => h) (Or.inl ⟨by rfl, ?_⟩) ?_
  rotate_left
  · (intro w; go_simp) <;> with_reducible rfl
  simp only [List.getElem_toArray, List.getElem_cons_zero, List.getElem_cons_succ, Act.put, setIfInBounds_toArray, set_cons_zero, set_cons_succ]
  refine wpAny_ready (rs := [2, 5]) (by kernel_rfl) (by simp) ?_
  refine AllReady.cons rfl (fun K hK => ?_) (AllReady.cons rfl (fun K hK => ?_) AllReady.nil)
  · have HK := Lib.hid hK
    clear hK
    rw [if_pos (by rfl)]
    try simp only [List.getElem_toArray, List.getElem_cons_zero, List.getElem_cons_succ]
    refine wp_makeN tW (.tmp 22) (.tmp 22) rfl p rfl rfl rfl (by omega) (by omega) ?_
    refine HK.out _ _ ?_
    clear HK K
    try simp only [List.getElem_toArray, List.getElem_cons_zero, List.getElem_cons_succ, Act.put, setIfInBounds_toArray, set_cons_zero, set_cons_succ]
    refine wpAny_ready (rs := [5]) (by kernel_rfl) (by simp) ?_
    refine AllReady.cons rfl (fun K hK => ?_) AllReady.nil
    have HK := Lib.hid hK
    clear hK
    rw [if_pos (by rfl)]
    try simp only [List.getElem_toArray, List.getElem_cons_zero, List.getElem_cons_succ]
    refine wp_makeN tB (.tmp 25) (.tmp 25) rfl q rfl rfl rfl (by omega) (by omega) ?_
    refine HK.out _ _ ?_
    clear HK K
    try simp only [List.getElem_toArray, List.getElem_cons_zero, List.getElem_cons_succ, Act.put, setIfInBounds_toArray, set_cons_zero, set_cons_succ]
    refine wpAny_ready (rs := [6]) (by kernel_rfl) (by simp) ?_
    refine AllReady.cons rfl (fun K hK => ?_) AllReady.nil
    have HK := Lib.hid hK
    clear hK
    rw [if_pos (by rfl)]
    try simp only [List.getElem_toArray, List.getElem_cons_zero, List.getElem_cons_succ]
    simp only [World.size_alloc]
    have hbb := HBL.out W0.heap.size (W0.heap.size + 1) p p q q
    have hsz := (Mc.size zM_ok (.slice (some ⟨W0.heap.size, 0, none⟩) p p) (.slice (some ⟨(W0.heap.size + 1), 0, none⟩) q q))
    have hone : (zM.cells (.slice (some ⟨W0.heap.size, 0, none⟩) p p) (.slice (some ⟨(W0.heap.size + 1), 0, none⟩) q q)).all (·.oneCell') = true := Mc.one rfl rfl
    obtain ⟨cs, hcs⟩ : ∃ x, zM.cells (.slice (some ⟨W0.heap.size, 0, none⟩) p p) (.slice (some ⟨(W0.heap.size + 1), 0, none⟩) q q) = x := ⟨_, rfl⟩
    rw [hcs] at hbb hsz hone
    have HSI : Hid ((Try.prog.info? 50).map (·.size) = some cs.size) := Lib.hid (by rw [hsz]; exact size50)
    have HSS : Hid (zCells.size = cs.size) := Lib.hid (by rw [hsz]; exact Mc.size zM_ok _ _)
    have HONE := Lib.hid hone
    have HBB := Lib.hid hbb
    have HCS := Lib.hid hcs
    clear hsz hone hbb hcs
    refine wp_built 50 #[(6, .tmp 23), (7, .tmp 26)] cs rfl (by simp only [List.map_toArray, List.map_cons, List.map_nil]; exact HBB.out) ?_
    refine HK.out _ _ ?_
    clear HK K
    try simp only [List.getElem_toArray, List.getElem_cons_zero, List.getElem_cons_succ, Act.put, setIfInBounds_toArray, set_cons_zero, set_cons_succ]
    have HE := Lib.hid (new_end (t1 := 45) (t2 := 5) HB0.out HZ0.out (List.replicate p (.int .u32 0)).toArray (List.replicate q (.int .u8 0)).toArray cs)
    refine wpAny_ready (rs := [7]) (by kernel_rfl) (by simp) ?_
    refine AllReady.cons rfl (fun K hK => ?_) AllReady.nil
    have HK := Lib.hid hK
    clear hK
    rw [if_pos (by rfl)]
    try simp only [List.getElem_toArray, List.getElem_cons_zero, List.getElem_cons_succ]
    refine wp_store_row 50 (.tmp 4) (.tmp 27) rfl w.heap.size cs rfl rfl 50 zCells (HZ0.out.alloc _ |>.alloc _) HSI.out HSS.out HONE.out ?_
    refine HK.out _ _ ?_
    clear HK K
    try simp only [List.getElem_toArray, List.getElem_cons_zero, List.getElem_cons_succ, Act.put, setIfInBounds_toArray, set_cons_zero, set_cons_succ]
    refine wpAny_take (i := 8) (v := ?_) rfl (by kernel_rfl) (by kernel_rfl) (by kernel_rfl) (fun _ _ _ h => h) (Or.inl ⟨by rfl, ?_⟩) ?_
    rotate_left
    · (intro w; go_simp) <;> with_reducible rfl
    simp only [List.getElem_toArray, List.getElem_cons_zero, List.getElem_cons_succ, Act.put, setIfInBounds_toArray, set_cons_zero, set_cons_succ]
    refine wpAny_done (by kernel_rfl) ?_ _
    go_wp2_with fail
    obtain ⟨e1, e2, e3, e4⟩ := HE.out
    exact bodyPost_ret (v := .tuple #[.agg cs, .int .i64 0]) (results_row_tmp rfl _ _ w.heap.size 50 cs _ _ _ rfl rfl e1 Try.underlying50 rfl HSI.out) rfl ⟨⟨_, _, by rw [HCS.out], row_own e2 (by rw [List.length_replicate]) (by have := HB0.out.size; omega), row_own e3 (by rw [List.length_replicate]) (by have := HB0.out.size; omega)⟩, e4⟩
  · have HK := Lib.hid hK
    clear hK
    rw [if_pos (by rfl)]
    try simp only [List.getElem_toArray, List.getElem_cons_zero, List.getElem_cons_succ]
    refine wp_makeN tB (.tmp 25) (.tmp 25) rfl q rfl rfl rfl (by omega) (by omega) ?_
    refine HK.out _ _ ?_
    clear HK K
    try simp only [List.getElem_toArray, List.getElem_cons_zero, List.getElem_cons_succ, Act.put, setIfInBounds_toArray, set_cons_zero, set_cons_succ]
    refine wpAny_ready (rs := [2]) (by kernel_rfl) (by simp) ?_
    refine AllReady.cons rfl (fun K hK => ?_) AllReady.nil
    have HK := Lib.hid hK
    clear hK
    rw [if_pos (by rfl)]
    try simp only [List.getElem_toArray, List.getElem_cons_zero, List.getElem_cons_succ]
    refine wp_makeN tW (.tmp 22) (.tmp 22) rfl p rfl rfl rfl (by omega) (by omega) ?_
    refine HK.out _ _ ?_
    clear HK K
    try simp only [List.getElem_toArray, List.getElem_cons_zero, List.getElem_cons_succ, Act.put, setIfInBounds_toArray, set_cons_zero, set_cons_succ]
    refine wpAny_ready (rs := [6]) (by kernel_rfl) (by simp) ?_
    refine AllReady.cons rfl (fun K hK => ?_) AllReady.nil
    have HK := Lib.hid hK
    clear hK
    rw [if_pos (by rfl)]
    try simp only [List.getElem_toArray, List.getElem_cons_zero, List.getElem_cons_succ]
    simp only [World.size_alloc]
    have hbb := HBL.out (W0.heap.size + 1) W0.heap.size p p q q
    have hsz := (Mc.size zM_ok (.slice (some ⟨(W0.heap.size + 1), 0, none⟩) p p) (.slice (some ⟨W0.heap.size, 0, none⟩) q q))
    have hone : (zM.cells (.slice (some ⟨(W0.heap.size + 1), 0, none⟩) p p) (.slice (some ⟨W0.heap.size, 0, none⟩) q q)).all (·.oneCell') = true := Mc.one rfl rfl
    obtain ⟨cs, hcs⟩ : ∃ x, zM.cells (.slice (some ⟨(W0.heap.size + 1), 0, none⟩) p p) (.slice (some ⟨W0.heap.size, 0, none⟩) q q) = x := ⟨_, rfl⟩
    rw [hcs] at hbb hsz hone
    have HSI : Hid ((Try.prog.info? 50).map (·.size) = some cs.size) := Lib.hid (by rw [hsz]; exact size50)
    have HSS : Hid (zCells.size = cs.size) := Lib.hid (by rw [hsz]; exact Mc.size zM_ok _ _)
    have HONE := Lib.hid hone
    have HBB := Lib.hid hbb
    have HCS := Lib.hid hcs
    clear hsz hone hbb hcs
    refine wp_built 50 #[(6, .tmp 23), (7, .tmp 26)] cs rfl (by simp only [List.map_toArray, List.map_cons, List.map_nil]; exact HBB.out) ?_
    refine HK.out _ _ ?_
    clear HK K
    try simp only [List.getElem_toArray, List.getElem_cons_zero, List.getElem_cons_succ, Act.put, setIfInBounds_toArray, set_cons_zero, set_cons_succ]
    have HE := Lib.hid (new_end (t1 := 5) (t2 := 45) HB0.out HZ0.out (List.replicate q (.int .u8 0)).toArray (List.replicate p (.int .u32 0)).toArray cs)
    refine wpAny_ready (rs := [7]) (by kernel_rfl) (by simp) ?_
    refine AllReady.cons rfl (fun K hK => ?_) AllReady.nil
    have HK := Lib.hid hK
    clear hK
    rw [if_pos (by rfl)]
    try simp only [List.getElem_toArray, List.getElem_cons_zero, List.getElem_cons_succ]
    refine wp_store_row 50 (.tmp 4) (.tmp 27) rfl w.heap.size cs rfl rfl 50 zCells (HZ0.out.alloc _ |>.alloc _) HSI.out HSS.out HONE.out ?_
    refine HK.out _ _ ?_
    clear HK K
    try simp only [List.getElem_toArray, List.getElem_cons_zero, List.getElem_cons_succ, Act.put, setIfInBounds_toArray, set_cons_zero, set_cons_succ]
    refine wpAny_take (i := 8) (v := ?_) rfl (by kernel_rfl) (by kernel_rfl) (by kernel_rfl) (fun _ _ _ h => h) (Or.inl ⟨by rfl, ?_⟩) ?_
    rotate_left
    · (intro w; go_simp) <;> with_reducible rfl
    simp only [List.getElem_toArray, List.getElem_cons_zero, List.getElem_cons_succ, Act.put, setIfInBounds_toArray, set_cons_zero, set_cons_succ]
    refine wpAny_done (by kernel_rfl) ?_ _
    go_wp2_with fail
    obtain ⟨e1, e2, e3, e4⟩ := HE.out
    exact bodyPost_ret (v := .tuple #[.agg cs, .int .i64 0]) (results_row_tmp rfl _ _ w.heap.size 50 cs _ _ _ rfl rfl e1 Try.underlying50 rfl HSI.out) rfl ⟨⟨_, _, by rw [HCS.out], row_own e3 (by rw [List.length_replicate]) (by have := HB0.out.size; omega), row_own e2 (by rw [List.length_replicate]) (by have := HB0.out.size; omega)⟩, e4⟩
end Go.Proofs.Ytebmgladdgmmeaa
