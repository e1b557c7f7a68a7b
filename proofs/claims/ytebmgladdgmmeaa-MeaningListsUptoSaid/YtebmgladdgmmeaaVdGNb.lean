/- New, of vm: walks. No condition. -/
import Derived.Test.YtebmgladdgmmeaaVdGNa
import Derived.BigRegion
namespace Go.Proofs.Ytebmgladdgmmeaa
open Go.RowKit Go.WideShapes
set_option linter.unusedVariables false
set_option linter.unusedSimpArgs false
theorem built50e : Try.prog.built 50 [] = some zCells := built50z
theorem zone : zCells.all (·.oneCell') = true := Mc.one rfl rfl
theorem results_row_tmp {P : Program} {fn : Func} {p q : Tmp} {ty : TypeId} (h : fn.results = #[.cell p ty, .tmp q]) (tmps : Array Value) (w : World) (g : Nat) (t : TypeId) (cs : Array Value) (fr : Nat × Nat) (d : TypeDesc) (v : Value)
    (hp : tmps.getD p undef = .pointer (some ⟨g, 0, none⟩)) (hq : tmps.getD q undef = v) (hg : w.heap[g]? = some (.cells cs t fr))
    (hu : P.underlying ty = some d) (hd : (match d with | .struct _ | .array _ _ => true | _ => false) = true) (hi : (P.info? ty).map (·.size) = some cs.size) :
    (results fn tmps).run P w = .ok (.tuple #[.agg cs, v]) w := by
  have hp' : tmps[p]?.getD undef = .pointer (some ⟨g, 0, none⟩) := by simpa using hp
  have hq' : tmps[q]?.getD undef = v := by simpa using hq
  have hl := run_loadVar_row w g t ty cs fr d hg hu hd hi
  simp [results, h, hp', hq', asAddr, hl]
def IsNewE (w0 : World) (e : Ending) (w : World) : Prop := e = .returned (.tuple #[.agg zCells, .int .i64 2]) ∧ Below w0.heap.size w0 w
set_option maxRecDepth 100000 in
set_option maxHeartbeats 4000000 in
theorem new23_a (h m : Int) (w : World) (hh : h < 0) : Calls Try.prog 23 #[.int .i64 h, .int .i64 m] w (IsNewE w) := by
  unfold IsNewE
  have hz := (zero_of_info zero50).1
  have q1 : decide (h < 0) = true := by simpa using hh
  have HSI : Hid ((Try.prog.info? 50).map (·.size) = some zCells.size) := Lib.hid (by rw [show zCells.size = 263 from Mc.size zM_ok _ _]; exact size50)
  have HZ := Lib.hid zone
  have HBL := Lib.hid built50e
  obtain ⟨cs, hcs⟩ : ∃ x, zCells = x := ⟨_, rfl⟩
  rw [hcs] at HSI HZ HBL
  simp only [hcs] at hz ⊢
  clear hcs
  go_enter Try.func23, Try.ntmps23
  go_wp2_with (first
    | (refine wpList_build rfl 50 #[] rfl (by simp [HBL.out]) ?_; simp only [List.map_toArray, List.map_nil, HBL.out, Option.getD_some])
    | (refine wpList_store_row rfl 50 (.tmp 4) (.tmp 20) rfl w.heap.size cs rfl rfl 50 _ (heap_alloc_new _ _) HSI.out rfl HZ.out ?_; rw [World.setRow_alloc_new]))
  exact bodyPost_ret (v := .tuple #[.agg cs, .int .i64 2]) (results_row_tmp rfl _ _ w.heap.size 50 cs _ _ _ rfl rfl (heap_alloc_new _ _) Try.underlying50 rfl HSI.out) rfl ⟨rfl, (Below.refl _ _).alloc (Nat.le_refl _) _⟩
set_option maxRecDepth 100000 in
set_option maxHeartbeats 4000000 in
theorem new23_b (h m : Int) (w : World) (h0 : ¬ h < 0) (hh : 8 < h) : Calls Try.prog 23 #[.int .i64 h, .int .i64 m] w (IsNewE w) := by
  unfold IsNewE
  have hz := (zero_of_info zero50).1
  have q1 : decide (h < 0) = false := by simpa using h0
  have q2 : decide ((8 : Int) < h) = true := by simpa using hh
  have HSI : Hid ((Try.prog.info? 50).map (·.size) = some zCells.size) := Lib.hid (by rw [show zCells.size = 263 from Mc.size zM_ok _ _]; exact size50)
  have HZ := Lib.hid zone
  have HBL := Lib.hid built50e
  obtain ⟨cs, hcs⟩ : ∃ x, zCells = x := ⟨_, rfl⟩
  rw [hcs] at HSI HZ HBL
  simp only [hcs] at hz ⊢
  clear hcs
  go_enter Try.func23, Try.ntmps23
  go_wp2_with (first
    | (refine wpList_build rfl 50 #[] rfl (by simp [HBL.out]) ?_; simp only [List.map_toArray, List.map_nil, HBL.out, Option.getD_some])
    | (refine wpList_store_row rfl 50 (.tmp 4) (.tmp 20) rfl w.heap.size cs rfl rfl 50 _ (heap_alloc_new _ _) HSI.out rfl HZ.out ?_; rw [World.setRow_alloc_new]))
  exact bodyPost_ret (v := .tuple #[.agg cs, .int .i64 2]) (results_row_tmp rfl _ _ w.heap.size 50 cs _ _ _ rfl rfl (heap_alloc_new _ _) Try.underlying50 rfl HSI.out) rfl ⟨rfl, (Below.refl _ _).alloc (Nat.le_refl _) _⟩
set_option maxRecDepth 100000 in
set_option maxHeartbeats 4000000 in
theorem new23_c (h m : Int) (w : World) (h0 : ¬ h < 0) (h8 : ¬ 8 < h) (hh : m < 0) : Calls Try.prog 23 #[.int .i64 h, .int .i64 m] w (IsNewE w) := by
  unfold IsNewE
  have hz := (zero_of_info zero50).1
  have q1 : decide (h < 0) = false := by simpa using h0
  have q2 : decide ((8 : Int) < h) = false := by simpa using h8
  have q3 : decide (m < 0) = true := by simpa using hh
  have HSI : Hid ((Try.prog.info? 50).map (·.size) = some zCells.size) := Lib.hid (by rw [show zCells.size = 263 from Mc.size zM_ok _ _]; exact size50)
  have HZ := Lib.hid zone
  have HBL := Lib.hid built50e
  obtain ⟨cs, hcs⟩ : ∃ x, zCells = x := ⟨_, rfl⟩
  rw [hcs] at HSI HZ HBL
  simp only [hcs] at hz ⊢
  clear hcs
  go_enter Try.func23, Try.ntmps23
  go_wp2_with (first
    | (refine wpList_build rfl 50 #[] rfl (by simp [HBL.out]) ?_; simp only [List.map_toArray, List.map_nil, HBL.out, Option.getD_some])
    | (refine wpList_store_row rfl 50 (.tmp 4) (.tmp 20) rfl w.heap.size cs rfl rfl 50 _ (heap_alloc_new _ _) HSI.out rfl HZ.out ?_; rw [World.setRow_alloc_new]))
  exact bodyPost_ret (v := .tuple #[.agg cs, .int .i64 2]) (results_row_tmp rfl _ _ w.heap.size 50 cs _ _ _ rfl rfl (heap_alloc_new _ _) Try.underlying50 rfl HSI.out) rfl ⟨rfl, (Below.refl _ _).alloc (Nat.le_refl _) _⟩
set_option maxRecDepth 100000 in
set_option maxHeartbeats 4000000 in
theorem new23_d (h m : Int) (w : World) (h0 : ¬ h < 0) (h8 : ¬ 8 < h) (hm : ¬ m < 0) (hh : 12 < m) : Calls Try.prog 23 #[.int .i64 h, .int .i64 m] w (IsNewE w) := by
  unfold IsNewE
  have hz := (zero_of_info zero50).1
  have q1 : decide (h < 0) = false := by simpa using h0
  have q2 : decide ((8 : Int) < h) = false := by simpa using h8
  have q3 : decide (m < 0) = false := by simpa using hm
  have q4 : decide ((12 : Int) < m) = true := by simpa using hh
  have HSI : Hid ((Try.prog.info? 50).map (·.size) = some zCells.size) := Lib.hid (by rw [show zCells.size = 263 from Mc.size zM_ok _ _]; exact size50)
  have HZ := Lib.hid zone
  have HBL := Lib.hid built50e
  obtain ⟨cs, hcs⟩ : ∃ x, zCells = x := ⟨_, rfl⟩
  rw [hcs] at HSI HZ HBL
  simp only [hcs] at hz ⊢
  clear hcs
  go_enter Try.func23, Try.ntmps23
  go_wp2_with (first
    | (refine wpList_build rfl 50 #[] rfl (by simp [HBL.out]) ?_; simp only [List.map_toArray, List.map_nil, HBL.out, Option.getD_some])
    | (refine wpList_store_row rfl 50 (.tmp 4) (.tmp 20) rfl w.heap.size cs rfl rfl 50 _ (heap_alloc_new _ _) HSI.out rfl HZ.out ?_; rw [World.setRow_alloc_new]))
  exact bodyPost_ret (v := .tuple #[.agg cs, .int .i64 2]) (results_row_tmp rfl _ _ w.heap.size 50 cs _ _ _ rfl rfl (heap_alloc_new _ _) Try.underlying50 rfl HSI.out) rfl ⟨rfl, (Below.refl _ _).alloc (Nat.le_refl _) _⟩
end Go.Proofs.Ytebmgladdgmmeaa
