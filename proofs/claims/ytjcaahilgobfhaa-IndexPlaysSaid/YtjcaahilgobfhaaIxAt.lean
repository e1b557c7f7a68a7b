/- The index: At; Pick. -/
import Derived.Test.YtjcaahilgobfhaaIxNo
namespace Go.Proofs.Ytjcaahilgobfhaa
open Go.RowKit Go.WideShapes Go.Maps
set_option linter.unusedVariables false
set_option linter.unusedSimpArgs false
theorem tmod_bd (x : Int) (n : Nat) (hn : 0 < n) : -(n : Int) < x.tmod n ∧ x.tmod n < n := by
  constructor
  · rcases Int.lt_or_le x 0 with h | h
    · have h1 := Int.tmod_lt_of_pos (-x) (b := (n : Int)) (by omega)
      rw [Int.neg_tmod] at h1
      omega
    · have h1 := Int.tmod_nonneg (n : Int) h
      omega
  · exact Int.tmod_lt_of_pos x (by omega)
theorem pick_plain (x : Int) (n : Nat) (hn : 0 < n) (hm : n ≤ 140737488351232) : ∃ k : Nat, k < n ∧ (wrap64 (x.tmod n + n)).tmod n = (k : Int) := by
  have h := tmod_bd x n hn
  rw [IntWalk.wrap64_in _ (by constructor <;> omega)]
  rw [Int.tmod_eq_emod_of_nonneg (by omega)]
  have h1 := Int.emod_nonneg (x.tmod n + n) (b := (n : Int)) (by omega)
  have h2 := Int.emod_lt_of_pos (x.tmod n + n) (b := (n : Int)) (by omega)
  exact ⟨((x.tmod n + n) % n).toNat, by omega, by omega⟩
structure IsPick (n : Nat) (w0 : World) (e : Ending) (w : World) : Prop where
  ex : ∃ k : Nat, k < n ∧ e = .returned (.int .i64 k)
  same : w0 = w
theorem pick_any (x : Int) (n : Nat) (w : World) (hn : 0 < n) (hm : n ≤ 140737488351232) (h0 : -9223372036854775808 ≤ x) (h1 : x ≤ 9223372036854775807) :
    Calls Try.prog 25 #[.int .i64 x, .int .i64 n] w (IsPick n w) := by
  go_enter Try.func25, Try.ntmps25
  go_wp2
  go_ret
  obtain ⟨k, hk, e⟩ := pick_plain x n hn hm
  exact ⟨⟨k, hk, ret_i64 e⟩, rfl⟩
set_option maxHeartbeats 1000000 in
theorem at_in {B g mb n : Nat} {l : List Pc} {v : Value} (k : Nat) (w : World) (hi : Idx B w g mb n l v) (p : Pc) (hp : l[k]? = some p) (hm : l.length ≤ 8192) :
    Calls Try.prog 27 #[.pointer (some ⟨g, 0, none⟩), .int .i64 ((k : Int) + 1)] w (Quiet (.tuple #[p.agg, .bool true]) w) := by
  have hkl : k < l.length := (List.getElem?_eq_some_iff.1 hp).1
  have hpo : p.ok := hi.oks p (List.mem_of_getElem? hp)
  obtain ⟨A, c, rfl, hc⟩ := hi.own.slice
  obtain ⟨gl, rfl⟩ : ∃ gl, A = some ⟨gl, 0, none⟩ := by
    rcases hi.own with h | ⟨gl, cur, hv, _⟩
    · rcases h.2 with ⟨h0, h1⟩ | ⟨g', cap, cur, hv, _⟩
      · simp at h0; omega
      · injection hv with hv; exact ⟨g', hv⟩
    · injection hv with hv; exact ⟨gl, hv⟩
  have hal := (Below.refl w.heap.size w).alloc (Nat.le_refl _) (.cells zeroA 39)
  have hi2 := hi.below hal
  have hno := none_made g mb _ (w.alloc (.cells zeroA 39)) hi2.blk
  have c0 := hi2.blk.cell 0
  simp at c0
  have hrow := hi2.own
  have hrg : (w.alloc (.cells zeroA 39)).rangeAt gl (k * 23) p.cells := fun jj y hy => by
    have h1 := flatP_at l hi.oks k p hp jj y hy
    rw [show k * 23 + jj = 23 * k + jj by omega]
    exact hrow.cell _ _ h1
  have hs39 : (Try.prog.info? 39).map (·.size) = some p.cells.length := by rw [Pc.cells_length hpo]; exact size39
  have hs39a : (Try.prog.info? 39).map (·.size) = some p.cells.toArray.size := by rw [List.size_toArray]; exact hs39
  have hzz : zeroA.size = p.cells.toArray.size := (by rfl : zeroA.size = 23).trans (by rw [List.size_toArray, Pc.cells_length hpo])
  have hone : p.cells.toArray.all (·.oneCell') = true := by
    rw [Array.all_eq_true]
    intro i hi'
    exact Pc.cells_one p _ (show p.cells.toArray[i] ∈ p.cells by simp)
  have hld : (loadVar 39 ⟨w.heap.size, 0, none⟩).run Try.prog (w.alloc (.cells p.cells.toArray 39)) = .ok (.agg p.cells.toArray) (w.alloc (.cells p.cells.toArray 39)) := run_loadVar_row _ _ 39 39 p.cells.toArray (0, 0) _ (heap_alloc_new w _) Try.underlying39 rfl hs39a
  have hb := (Below.refl w.heap.size w).alloc (Nat.le_refl _) (.cells p.cells.toArray 39)
  generalize hL : l.length = L at *
  have e1 : decide ((k : Int) + 1 < 1) = false := by simp; omega
  have e2 : decide ((L : Int) < (k : Int) + 1) = false := by simp; omega
  have e3 : wrap64 ((k : Int) + 1 - 1) = (k : Int) := by unfold wrap64; omega
  have e4 : (k : Int) + 1 - 1 = (k : Int) := by omega
  have hkI : (k : Int) < L := by omega
  unfold Pc.agg
  have HNO := Lib.hid hno
  have HRG := Lib.hid hrg
  have HS39 := Lib.hid hs39
  have HSA := Lib.hid hs39a
  have HZ := Lib.hid hzz
  have HO := Lib.hid hone
  have HLD := Lib.hid hld
  have HB := Lib.hid hb
  clear hno hrg hs39 hs39a hzz hone hld hb hrow hi2 hi hal hp hpo hL hc
  generalize p.cells = ps at *
  go_enter Try.func27, Try.ntmps27
  go_wp2_with fail
  refine (HNO.out).mono ?_
  rintro e w1 ⟨rfl, rfl⟩
  go_wp2_with (first | (refine wpList_load_mid rfl 39 (.tmp 28) rfl gl (k * 23) rfl ps _ HRG.out Try.underlying39 rfl HS39.out ?_) | (refine wpList_store_row rfl 39 (.tmp 4) (.tmp 29) rfl w.heap.size ps.toArray rfl rfl 39 zeroA (heap_alloc_new _ _) HSA.out HZ.out HO.out ?_; rw [World.setRow_alloc_new]))
  have hld := HLD.out
  exact bodyPost_ret (v := .tuple #[.agg ps.toArray, .bool true]) (by simp [results, Try.results27, asAddr, Result.andThen, hld]) rfl ⟨rfl, HB.out⟩
set_option maxHeartbeats 1000000 in
theorem at_out {B g mb n : Nat} {l : List Pc} {v : Value} (x : Int) (w : World) (hi : Idx B w g mb n l v) (hx : x < 1 ∨ (l.length : Int) < x) :
    Calls Try.prog 27 #[.pointer (some ⟨g, 0, none⟩), .int .i64 x] w (Quiet (.tuple #[.agg zeroA, .bool false]) w) := by
  obtain ⟨A, c, rfl, hc⟩ := hi.own.slice
  have hal := (Below.refl w.heap.size w).alloc (Nat.le_refl _) (.cells zeroA 39)
  have hi2 := hi.below hal
  have hno := none_made g mb _ (w.alloc (.cells zeroA 39)) hi2.blk
  have c0 := hi2.blk.cell 0
  simp at c0
  have hld := at_load w
  have HAL := Lib.hid hal
  have HLD := Lib.hid hld
  have HNO := Lib.hid hno
  generalize hL : l.length = L at *
  clear hal hld hno hi2 hi
  by_cases h1 : x < 1
  · have e1 : decide (x < 1) = true := by simp [h1]
    clear hx
    go_enter Try.func27, Try.ntmps27
    go_wp2_with fail
    refine (HNO.out).mono ?_
    rintro e w1 ⟨rfl, rfl⟩
    go_wp2_with (refine wpList_store_row rfl 39 (.tmp 4) (.tmp 21) rfl w.heap.size zeroA rfl rfl 39 zeroA (heap_alloc_new _ _) zeroA_info rfl (by kernel_rfl) ?_; rw [World.setRow_alloc_new])
    have hld := HLD.out
    exact bodyPost_ret (v := .tuple #[.agg zeroA, .bool false]) (by simp [results, Try.results27, asAddr, Result.andThen, hld]) rfl ⟨rfl, HAL.out⟩
  · have e1 : decide (x < 1) = false := by simp [h1]
    have h2 : (L : Int) < x := by omega
    have e2 : decide ((L : Int) < x) = true := by simp [h2]
    clear hx
    go_enter Try.func27, Try.ntmps27
    go_wp2_with fail
    refine (HNO.out).mono ?_
    rintro e w1 ⟨rfl, rfl⟩
    go_wp2_with (refine wpList_store_row rfl 39 (.tmp 4) (.tmp 21) rfl w.heap.size zeroA rfl rfl 39 zeroA (heap_alloc_new _ _) zeroA_info rfl (by kernel_rfl) ?_; rw [World.setRow_alloc_new])
    have hld := HLD.out
    exact bodyPost_ret (v := .tuple #[.agg zeroA, .bool false]) (by simp [results, Try.results27, asAddr, Result.andThen, hld]) rfl ⟨rfl, HAL.out⟩
end Go.Proofs.Ytjcaahilgobfhaa
