/- IndexNone's walk. -/
import Derived.Test.YtjcaahilgobfhaaIxAw
namespace Go.Proofs.Ytjcaahilgobfhaa
open Go.RowKit Go.WideShapes Go.Maps
set_option linter.unusedVariables false
set_option linter.unusedSimpArgs false
theorem addC_nil (cs : Array Value) (hc : cs.size = 23) (w : World) : Calls Try.prog 20 #[.pointer none, .agg cs] w (Quiet (.tuple #[.int .i64 0, .bool false, .int .i64 1]) w) := by
  have hal := (Below.refl w.heap.size w).alloc (Nat.le_refl _) (.cells cs 39)
  have HAL := Lib.hid hal
  clear hal
  go_enter Try.func20, Try.ntmps20
  go_wp2_with fail
  refine (none_nil _).mono ?_
  rintro e w1 ⟨rfl, rfl⟩
  go_wp2_with fail
  exact bodyPost_ret (v := .tuple #[.int .i64 0, .bool false, .int .i64 1]) (by simp [results, Try.results20, go_sem]) rfl ⟨rfl, HAL.out⟩
theorem addC_unmade (g : Nat) (u : Value) (cs : Array Value) (hc : cs.size = 23) (w : World) (hb : Blk w g 63 #[u, .map none]) : Calls Try.prog 20 #[.pointer (some ⟨g, 0, none⟩), .agg cs] w (Quiet (.tuple #[.int .i64 0, .bool false, .int .i64 1]) w) := by
  have hal := (Below.refl w.heap.size w).alloc (Nat.le_refl _) (.cells cs 39)
  have hno := none_unmade g u _ (hb.alloc (.cells cs 39))
  have HAL := Lib.hid hal
  have HNO := Lib.hid hno
  clear hal hno hb
  go_enter Try.func20, Try.ntmps20
  go_wp2_with fail
  refine (HNO.out).mono ?_
  rintro e w1 ⟨rfl, rfl⟩
  go_wp2_with fail
  exact bodyPost_ret (v := .tuple #[.int .i64 0, .bool false, .int .i64 1]) (by simp [results, Try.results20, go_sem]) rfl ⟨rfl, HAL.out⟩
theorem findC_nil (cs : Array Value) (w : World) : Calls Try.prog 26 #[.pointer none, .agg cs] w (Quiet (.tuple #[.int .i64 0, .bool false]) w) := by
  have hal := (Below.refl w.heap.size w).alloc (Nat.le_refl _) (.cells cs 37)
  have HAL := Lib.hid hal
  clear hal
  go_enter Try.func26, Try.ntmps26
  go_wp2_with fail
  refine (none_nil _).mono ?_
  rintro e w1 ⟨rfl, rfl⟩
  go_wp2_with fail
  exact bodyPost_ret (v := .tuple #[.int .i64 0, .bool false]) (by simp [results, Try.results26, go_sem]) rfl ⟨rfl, HAL.out⟩
theorem findC_unmade (g : Nat) (u : Value) (cs : Array Value) (w : World) (hb : Blk w g 63 #[u, .map none]) : Calls Try.prog 26 #[.pointer (some ⟨g, 0, none⟩), .agg cs] w (Quiet (.tuple #[.int .i64 0, .bool false]) w) := by
  have hal := (Below.refl w.heap.size w).alloc (Nat.le_refl _) (.cells cs 37)
  have hno := none_unmade g u _ (hb.alloc (.cells cs 37))
  have HAL := Lib.hid hal
  have HNO := Lib.hid hno
  clear hal hno hb
  go_enter Try.func26, Try.ntmps26
  go_wp2_with fail
  refine (HNO.out).mono ?_
  rintro e w1 ⟨rfl, rfl⟩
  go_wp2_with fail
  exact bodyPost_ret (v := .tuple #[.int .i64 0, .bool false]) (by simp [results, Try.results26, go_sem]) rfl ⟨rfl, HAL.out⟩
theorem len_nil (w : World) : Calls Try.prog 23 #[.pointer none] w (Same (.int .i64 0) w) := by
  go_enter Try.func23, Try.ntmps23
  go_wp2_with fail
  refine (none_nil _).mono ?_
  rintro e w1 ⟨rfl, rfl⟩
  go_wp2_with fail
  go_ret
  exact ⟨rfl, rfl⟩
theorem len_unmade (g : Nat) (u : Value) (w : World) (hb : Blk w g 63 #[u, .map none]) : Calls Try.prog 23 #[.pointer (some ⟨g, 0, none⟩)] w (Same (.int .i64 0) w) := by
  have hno := none_unmade g u _ hb
  have HNO := Lib.hid hno
  clear hno hb
  go_enter Try.func23, Try.ntmps23
  go_wp2_with fail
  refine (HNO.out).mono ?_
  rintro e w1 ⟨rfl, rfl⟩
  go_wp2_with fail
  go_ret
  exact ⟨rfl, rfl⟩
theorem copy_nil (w : World) : Calls Try.prog 30 #[.pointer none] w (Same (.pointer none) w) := by
  go_enter Try.func30, Try.ntmps30
  go_wp2_with fail
  refine (none_nil _).mono ?_
  rintro e w1 ⟨rfl, rfl⟩
  go_wp2_with fail
  go_ret
  exact ⟨rfl, rfl⟩
theorem copy_unmade (g : Nat) (u : Value) (w : World) (hb : Blk w g 63 #[u, .map none]) : Calls Try.prog 30 #[.pointer (some ⟨g, 0, none⟩)] w (Same (.pointer none) w) := by
  have hno := none_unmade g u _ hb
  have HNO := Lib.hid hno
  clear hno hb
  go_enter Try.func30, Try.ntmps30
  go_wp2_with fail
  refine (HNO.out).mono ?_
  rintro e w1 ⟨rfl, rfl⟩
  go_wp2_with fail
  go_ret
  exact ⟨rfl, rfl⟩
def zeroA : Array Value := #[.int .u8 0, .int .u8 0, .int .u8 0, .int .u8 0, .int .u8 0, .int .u8 0, .int .u8 0, .int .u8 0, .int .u8 0, .int .u8 0, .int .u8 0, .int .u8 0, .int .u8 0, .int .u8 0, .int .u8 0, .int .u8 0, .int .u8 0, .int .u8 0, .int .u8 0, .int .u8 0, .int .i64 0, .int .i64 0, .int .i64 0]
theorem zeroA_info : (Try.prog.info? 39).map (·.size) = some zeroA.size := by kernel_rfl
theorem at_load (w : World) : (loadVar 39 ⟨w.heap.size, 0, none⟩).run Try.prog (w.alloc (.cells zeroA 39)) = .ok (.agg zeroA) (w.alloc (.cells zeroA 39)) := run_loadVar_row _ _ 39 39 zeroA (0, 0) _ (heap_alloc_new w _) Try.underlying39 rfl zeroA_info
theorem at_nil (k : Int) (w : World) : Calls Try.prog 27 #[.pointer none, .int .i64 k] w (Quiet (.tuple #[.agg zeroA, .bool false]) w) := by
  have hal := (Below.refl w.heap.size w).alloc (Nat.le_refl _) (.cells zeroA 39)
  have HAL := Lib.hid hal
  have hld := at_load w
  have HLD := Lib.hid hld
  clear hal hld
  go_enter Try.func27, Try.ntmps27
  go_wp2_with fail
  refine (none_nil _).mono ?_
  rintro e w1 ⟨rfl, rfl⟩
  go_wp2_with (refine wpList_store_row rfl 39 (.tmp 4) (.tmp 21) rfl w.heap.size zeroA rfl rfl 39 zeroA (heap_alloc_new _ _) zeroA_info rfl (by kernel_rfl) ?_; rw [World.setRow_alloc_new])
  have hld := HLD.out
  exact bodyPost_ret (v := .tuple #[.agg zeroA, .bool false]) (by simp [results, Try.results27, asAddr, Result.andThen, show (w.alloc (.cells zeroA 39)) = w.alloc (.cells zeroA 39) from rfl, hld]) rfl ⟨rfl, HAL.out⟩
theorem wpList_load_rowW {P : Program} {ops : Array Oper} {rest : List Oper} {o : Oper} {a : Act} {w : World} {Q : Exit → Act → World → Prop} (hgd : Region.wanted o (yielded ops a.tmps) = true) (ty : TypeId) (x : Operand) (ho : o.op = .load ty x)
    (g : Nat) (hx : a.eval x = .pointer (some ⟨g, 0, none⟩)) (t : TypeId) (cs : Array Value) (fr : Nat × Nat) (d : TypeDesc) (hg : w.heap[g]? = some (.cells cs t fr))
    (hu : P.underlying ty = some d) (hd : (match d with | .struct _ | .array _ _ => true | _ => false) = true) (hi : (P.info? ty).map (·.size) = some cs.size)
    (h : wpList P ops Q rest (a.put o.dst (.agg cs)) w) : wpList P ops Q (o :: rest) a w :=
  wpList_step fun K hK => by rw [if_pos hgd]; exact wp_load_row ty x ho g hx t cs fr d hg hu hd hi (hK _ _ h)
theorem rangeTake {w : World} {g : Nat} {t : TypeId} {cs : Array Value} (h : Blk w g t cs) : w.rangeAt g 0 (cs.toList.take 20) := fun j y hy => by
  rw [Nat.zero_add, h.cell, ← Array.getElem?_toList]
  rw [List.getElem?_take] at hy
  split at hy
  · exact hy
  · cases hy
theorem at_unmade (g : Nat) (u : Value) (k : Int) (w : World) (hb : Blk w g 63 #[u, .map none]) : Calls Try.prog 27 #[.pointer (some ⟨g, 0, none⟩), .int .i64 k] w (Quiet (.tuple #[.agg zeroA, .bool false]) w) := by
  have hal := (Below.refl w.heap.size w).alloc (Nat.le_refl _) (.cells zeroA 39)
  have HAL := Lib.hid hal
  have hno := none_unmade g u _ (hb.alloc (.cells zeroA 39))
  have HNO := Lib.hid hno
  have hld := at_load w
  have HLD := Lib.hid hld
  clear hal hld hno hb
  go_enter Try.func27, Try.ntmps27
  go_wp2_with fail
  refine (HNO.out).mono ?_
  rintro e w1 ⟨rfl, rfl⟩
  go_wp2_with (refine wpList_store_row rfl 39 (.tmp 4) (.tmp 21) rfl w.heap.size zeroA rfl rfl 39 zeroA (heap_alloc_new _ _) zeroA_info rfl (by kernel_rfl) ?_; rw [World.setRow_alloc_new])
  have hld := HLD.out
  exact bodyPost_ret (v := .tuple #[.agg zeroA, .bool false]) (by simp [results, Try.results27, asAddr, Result.andThen, hld]) rfl ⟨rfl, HAL.out⟩
theorem zeroA_lits : Try.prog.keyLits 4 39 zeroA.toList = some (List.replicate 20 (Lit.int .u8 0) ++ [.int .i64 0, .int .i64 0, .int .i64 0]) := by kernel_rfl
theorem zeroA_eq (w : World) : (Op.equalIn 10000 39 (.agg zeroA) (.agg zeroA)).run Try.prog w = .ok true w := by
  obtain ⟨r, hr, hi⟩ := run_equalIn_deep (P := Try.prog) 9996 4 39 (by kernel_rfl) w 4 4 (.agg zeroA) (.agg zeroA) _ _ (by kernel_rfl) (by kernel_rfl) zeroA_lits zeroA_lits
  rw [hr, hi.2 rfl]
set_option maxHeartbeats 4000000 in
set_option maxRecDepth 100000 in
theorem noneI_law {H : Type} {enc : TypeId × Value → H} {base : Nat} {d : DataW H} {ps : List MemPlace} (k : Int) (v : Value) (w : World) (hkw : (Lit.int .i64 k).wf = true) (hv : Value.okWide Try.prog w .any base 39 v) (hk : DataW.Trod enc Try.prog w 0 (fun _ => true) true 39 v d ps) :
    Calls Try.prog 9 #[.int .i64 k, v] w fun e w' => e = .returned (.bool true) ∧ Below w.heap.size w w' := by
  obtain ⟨cs, rfl, hcs⟩ : ∃ cs, v = .agg cs ∧ cs.size = 23 := by
    unfold Value.okWide at hv
    rw [Try.underlying39] at hv
    simp only at hv
    obtain ⟨cs, h1, h2, _⟩ := hv
    exact ⟨cs, h1, by rw [h2]; kernel_rfl⟩
  clear hv hk hkw
  have hz : zeroA = #[.int .u8 0, .int .u8 0, .int .u8 0, .int .u8 0, .int .u8 0, .int .u8 0, .int .u8 0, .int .u8 0, .int .u8 0, .int .u8 0, .int .u8 0, .int .u8 0, .int .u8 0, .int .u8 0, .int .u8 0, .int .u8 0, .int .u8 0, .int .u8 0, .int .u8 0, .int .u8 0, .int .i64 0, .int .i64 0, .int .i64 0] := rfl
  have heq : ∀ W : World, (Op.equalIn 10000 39 (.agg zeroA) (.agg #[.int .u8 0, .int .u8 0, .int .u8 0, .int .u8 0, .int .u8 0, .int .u8 0, .int .u8 0, .int .u8 0, .int .u8 0, .int .u8 0, .int .u8 0, .int .u8 0, .int .u8 0, .int .u8 0, .int .u8 0, .int .u8 0, .int .u8 0, .int .u8 0, .int .u8 0, .int .u8 0, .int .i64 0, .int .i64 0, .int .i64 0])).run Try.prog W = .ok true W := fun W => zeroA_eq W
  have a0 := fun W => addC_nil cs hcs W
  have a1 := fun (W : World) (g : Nat) (u : Value) (hb : Blk W g 63 #[u, .map none]) => addC_unmade g u cs hcs W hb
  have f0 := fun W => findC_nil (cs.toList.take 20).toArray W
  have f1 := fun (W : World) (g : Nat) (u : Value) (hb : Blk W g 63 #[u, .map none]) => findC_unmade g u (cs.toList.take 20).toArray W hb
  have t0 := fun W => at_nil k W
  have t1 := fun (W : World) (g : Nat) (u : Value) (hb : Blk W g 63 #[u, .map none]) => at_unmade g u k W hb
  have hzi := zeroA_info
  have hzo : zeroA.all (·.oneCell') = true := by kernel_rfl
  have hci : (Try.prog.info? 39).map (·.size) = some cs.size := by rw [hcs]; exact size39
  have hti : (Try.prog.info? 37).map (·.size) = some (cs.toList.take 20).length := by rw [show (cs.toList.take 20).length = 20 by simp [hcs]]; exact size37
  have hbx := ((Blk.new w 39 cs).alloc (.cells #[.slice none 0 0, .map none] 63)).alloc (.cells #[.pointer none, .pointer (some ⟨w.heap.size + 1, 0, none⟩)] 32)
  have hd := (Blk.new (w.alloc (.cells cs 39)) 63 #[.slice none 0 0, .map none]).alloc (.cells #[.pointer none, .pointer (some ⟨w.heap.size + 1, 0, none⟩)] 32)
  have hs := Blk.new ((w.alloc (.cells cs 39)).alloc (.cells #[.slice none 0 0, .map none] 63)) 32 #[.pointer none, .pointer (some ⟨w.heap.size + 1, 0, none⟩)]
  rw [show (w.alloc (.cells cs 39)).heap.size = w.heap.size + 1 by simp] at hd
  rw [show ((w.alloc (.cells cs 39)).alloc (.cells #[.slice none 0 0, .map none] 63)).heap.size = w.heap.size + 1 + 1 by simp] at hs
  have hb0 := (((Below.refl w.heap.size w).alloc (Nat.le_refl _) (.cells cs 39)).alloc (by simp) (.cells #[.slice none 0 0, .map none] 63)).alloc (by simp; omega) (.cells #[.pointer none, .pointer (some ⟨w.heap.size + 1, 0, none⟩)] 32)
  have A0 := Lib.hid a0
  have A1 := Lib.hid a1
  have F0 := Lib.hid f0
  have F1 := Lib.hid f1
  have T0 := Lib.hid t0
  have T1 := Lib.hid t1
  have HZI := Lib.hid hzi
  have HZO := Lib.hid hzo
  have HCI := Lib.hid hci
  have HTI := Lib.hid hti
  have HBX := Lib.hid hbx
  have HD := Lib.hid hd
  have HS := Lib.hid hs
  have HB0 := Lib.hid hb0
  clear a0 a1 f0 f1 t0 t1 hzi hzo hci hti hbx hd hs hb0 hz
  go_enter Try.func9, Try.ntmps9
  go_wp2_with fail
  generalize hW : ((w.alloc (.cells cs 39)).alloc (.cells #[.slice none 0 0, .map none] 63)).alloc (.cells #[.pointer none, .pointer (some ⟨w.heap.size + 1, 0, none⟩)] 32) = W at HBX HD HS HB0 ⊢
  clear hW
  go_loopw [20] (fun i wr => ∃ q : Nat, q ≤ 2 ∧ i = .int .i64 q ∧ Below W.heap.size W wr) (fun i _ => 2 - (intOf i).toNat)
  case atStart => exact ⟨0, by omega, rfl, Below.refl _ _⟩
  case round =>
    obtain ⟨q, hq, rfl, hb⟩ := hrel
    have hs' := HS.out.below hb
    have hd' := HD.out.below hb
    have hbx' := HBX.out.below hb
    have c0 := hs'.cell 0
    have c1 := hs'.cell 1
    simp at c0 c1
    have HB := Lib.hid hb
    have HD' := Lib.hid hd'
    have HX' := Lib.hid hbx'
    clear hs' hd' hb hbx'
    have hq3 : q = 0 ∨ q = 1 ∨ q = 2 := by omega
    rcases hq3 with rfl | rfl | rfl
    · go_wp2_with (refine wpList_load_row rfl 39 (.tmp 3) rfl w.heap.size rfl 39 cs _ _ HX'.out Try.underlying39 rfl HCI.out ?_)
      refine (A0.out _).mono ?_
      rintro e w2 ⟨rfl, hb2⟩
      have hrg : w2.rangeAt w.heap.size 0 (cs.toList.take 20) := rangeTake (HX'.out.below hb2)
      have HRG := Lib.hid hrg
      have HB2 := Lib.hid (ch0 HB.out hb2)
      have HD2 := Lib.hid (HD'.out.below hb2)
      clear hrg hb2
      go_wp2_with (refine wpList_load_mid rfl 37 (.tmp 33) rfl w.heap.size 0 rfl (cs.toList.take 20) _ HRG.out Try.underlying37 rfl HTI.out ?_)
      refine (F0.out _).mono ?_
      rintro e w3 ⟨rfl, hb3⟩
      have HB3 := Lib.hid (ch0 HB2.out hb3)
      have HD3 := Lib.hid (HD2.out.below hb3)
      clear hb3
      go_wp2_with fail
      refine (T0.out _).mono ?_
      rintro e w4 ⟨rfl, hb4⟩
      have HB4 := Lib.hid (ch0 HB3.out hb4)
      have HD4 := Lib.hid (HD3.out.below hb4)
      have hzb := Blk.new w4 39 zeroA
      have HZB := Lib.hid hzb
      have HD5 := Lib.hid (HD4.out.alloc (.cells zeroA 39))
      have HB5 := Lib.hid (HB4.out.alloc HB4.out.size (.cells zeroA 39))
      clear hb4 hzb
      go_wp2_with (first | (refine wpList_store_row rfl 39 (.tmp 13) (.tmp 42) rfl w4.heap.size zeroA rfl rfl 39 zeroA (heap_alloc_new _ _) HZI.out rfl HZO.out ?_; rw [World.setRow_alloc_new]) | (refine wpList_load_rowW rfl 39 (.tmp 13) rfl w4.heap.size rfl 39 zeroA _ _ HZB.out Try.underlying39 rfl HZI.out ?_))
      refine (cut_nil k _).mono ?_
      rintro e w6 ⟨rfl, rfl⟩
      go_wp2_with fail
      refine (len_nil _).mono ?_
      rintro e w6 ⟨rfl, rfl⟩
      go_wp2_with fail
      refine (copy_nil _).mono ?_
      rintro e w6 ⟨rfl, rfl⟩
      go_wp2_with fail
      go_roundw
      case rel => exact ⟨1, by omega, rfl, HB5.out⟩
      case measure => simp [intOf]
    · go_wp2_with (refine wpList_load_row rfl 39 (.tmp 3) rfl w.heap.size rfl 39 cs _ _ HX'.out Try.underlying39 rfl HCI.out ?_)
      refine (A1.out _ _ _ HD'.out).mono ?_
      rintro e w2 ⟨rfl, hb2⟩
      have hrg : w2.rangeAt w.heap.size 0 (cs.toList.take 20) := rangeTake (HX'.out.below hb2)
      have HRG := Lib.hid hrg
      have HB2 := Lib.hid (ch0 HB.out hb2)
      have HD2 := Lib.hid (HD'.out.below hb2)
      clear hrg hb2
      go_wp2_with (refine wpList_load_mid rfl 37 (.tmp 33) rfl w.heap.size 0 rfl (cs.toList.take 20) _ HRG.out Try.underlying37 rfl HTI.out ?_)
      refine (F1.out _ _ _ HD2.out).mono ?_
      rintro e w3 ⟨rfl, hb3⟩
      have HB3 := Lib.hid (ch0 HB2.out hb3)
      have HD3 := Lib.hid (HD2.out.below hb3)
      clear hb3
      go_wp2_with fail
      refine (T1.out _ _ _ HD3.out).mono ?_
      rintro e w4 ⟨rfl, hb4⟩
      have HB4 := Lib.hid (ch0 HB3.out hb4)
      have HD4 := Lib.hid (HD3.out.below hb4)
      have hzb := Blk.new w4 39 zeroA
      have HZB := Lib.hid hzb
      have HD5 := Lib.hid (HD4.out.alloc (.cells zeroA 39))
      have HB5 := Lib.hid (HB4.out.alloc HB4.out.size (.cells zeroA 39))
      clear hb4 hzb
      go_wp2_with (first | (refine wpList_store_row rfl 39 (.tmp 13) (.tmp 42) rfl w4.heap.size zeroA rfl rfl 39 zeroA (heap_alloc_new _ _) HZI.out rfl HZO.out ?_; rw [World.setRow_alloc_new]) | (refine wpList_load_rowW rfl 39 (.tmp 13) rfl w4.heap.size rfl 39 zeroA _ _ HZB.out Try.underlying39 rfl HZI.out ?_))
      refine (cut_unmade _ _ k _ HD5.out).mono ?_
      rintro e w6 ⟨rfl, rfl⟩
      go_wp2_with fail
      refine (len_unmade _ _ _ HD5.out).mono ?_
      rintro e w6 ⟨rfl, rfl⟩
      go_wp2_with fail
      refine (copy_unmade _ _ _ HD5.out).mono ?_
      rintro e w6 ⟨rfl, rfl⟩
      go_wp2_with fail
      go_roundw
      case rel => exact ⟨2, by omega, rfl, HB5.out⟩
      case measure => simp [intOf]
    · go_wp2_with fail
      refine (awake_any _).mono ?_
      rintro e w2 ⟨rfl, hb2⟩
      go_wp2_with fail
      go_ret
      exact ⟨rfl, (HB0.out.trans (HB.out.mono HB0.out.size)).trans (hb2.mono (Nat.le_trans HB0.out.size HB.out.size))⟩
end Go.Proofs.Ytjcaahilgobfhaa
