/- slices.Clone over words and bytes: walks. Condition: at most 10^9 elements. · copied: a machine in memory of its own: walks. Condition: memories of at most 10^9 places. -/
import Derived.Test.YtebmgladdgmmeaaVdGMa
import Derived.Lib.SliceRun
namespace Go.Proofs.Ytebmgladdgmmeaa
open Go.RowKit Go.WideShapes
set_option linter.unusedVariables false
set_option linter.unusedSimpArgs false
theorem cloneW_nil (w : World) : Calls Try.prog 71 #[.slice none 0 0] w (OwnsV 45 [] 0 w) := by
  have h := fun w => Lib.run_eql_slice_nil (P := Try.prog) w 47 45 none 0 0 0 0 Try.underlying47
  go_enter Try.func71, Try.ntmps71
  go_wp2
  go_ret
  exact ⟨⟨none, 0, rfl, by simp, ⟨rfl, .inl ⟨rfl, rfl⟩⟩⟩, Below.refl _ _⟩
set_option maxHeartbeats 2000000 in
theorem cloneW_some (xs : List Int) (a : Addr) (n c : Nat) (w : World) (hn : n = xs.length) (hr : Rd w (some a) (xs.map (.int .u32))) (hm : n ≤ 1000000000) : Calls Try.prog 71 #[.slice (some a) n c] w (OwnsV 45 (xs.map (.int .u32)) n w) := by
  subst hn
  have h := fun w => Lib.run_eql_slice_nil (P := Try.prog) w 47 45 (some a) xs.length c 0 0 Try.underlying47
  have HR := Lib.hid hr
  clear hr
  go_enter Try.func71, Try.ntmps71
  go_wp2_with (at_builtin; refine wpList_app tW rfl (.tmp 5) (.tmp 6) rfl w.heap.size (.slice (some ⟨w.heap.size, 0, none⟩) 0 0) 0 [] rfl (World.ownsRow_lit w #[] 0 (Nat.le_refl _) (by simp [maxLen]) rfl) (some a) _ c (xs.map (.int .u32)) rfl (by rw [List.length_map]) (HR.out.alloc _) (by intro u hu; obtain ⟨z, _, rfl⟩ := List.mem_map.1 hu; rfl) (by omega) (by unfold maxLen; omega) (by simp) ?_; intro v1 w1 o1 hg1 hb1)
  rw [Nat.zero_add, List.nil_append] at o1
  obtain ⟨A1, c1, rfl, hc1⟩ := own_slice o1
  go_ret
  exact ⟨⟨A1, c1, rfl, hc1, o1⟩, ((Below.refl _ _).alloc (Nat.le_refl _) _).trans hb1⟩
theorem cloneW_any (xs : List Int) (A : Option Addr) (n c : Nat) (w : World) (hn : n = xs.length) (hr : Rd w A (xs.map (.int .u32))) (hA : A = none → n = 0 ∧ c = 0) (hm : n ≤ 1000000000) : Calls Try.prog 71 #[.slice A n c] w (OwnsV 45 (xs.map (.int .u32)) n w) := by
  rcases A with _ | a
  · obtain ⟨rfl, rfl⟩ := hA rfl
    obtain rfl := List.eq_nil_of_length_eq_zero hn.symm
    exact cloneW_nil w
  · exact cloneW_some xs a n c w hn hr hm
theorem cloneB_nil (w : World) : Calls Try.prog 72 #[.slice none 0 0] w (OwnsV 5 [] 0 w) := by
  have h := fun w => Lib.run_eql_slice_nil (P := Try.prog) w 48 5 none 0 0 0 0 Try.underlying48
  go_enter Try.func72, Try.ntmps72
  go_wp2
  go_ret
  exact ⟨⟨none, 0, rfl, by simp, ⟨rfl, .inl ⟨rfl, rfl⟩⟩⟩, Below.refl _ _⟩
set_option maxHeartbeats 2000000 in
theorem cloneB_some (xs : List Int) (a : Addr) (n c : Nat) (w : World) (hn : n = xs.length) (hr : Rd w (some a) (xs.map (.int .u8))) (hm : n ≤ 1000000000) : Calls Try.prog 72 #[.slice (some a) n c] w (OwnsV 5 (xs.map (.int .u8)) n w) := by
  subst hn
  have h := fun w => Lib.run_eql_slice_nil (P := Try.prog) w 48 5 (some a) xs.length c 0 0 Try.underlying48
  have HR := Lib.hid hr
  clear hr
  go_enter Try.func72, Try.ntmps72
  go_wp2_with (at_builtin; refine wpList_app tB rfl (.tmp 5) (.tmp 6) rfl w.heap.size (.slice (some ⟨w.heap.size, 0, none⟩) 0 0) 0 [] rfl (World.ownsRow_lit w #[] 0 (Nat.le_refl _) (by simp [maxLen]) rfl) (some a) _ c (xs.map (.int .u8)) rfl (by rw [List.length_map]) (HR.out.alloc _) (by intro u hu; obtain ⟨z, _, rfl⟩ := List.mem_map.1 hu; rfl) (by omega) (by unfold maxLen; omega) (by simp) ?_; intro v1 w1 o1 hg1 hb1)
  rw [Nat.zero_add, List.nil_append] at o1
  obtain ⟨A1, c1, rfl, hc1⟩ := own_slice o1
  go_ret
  exact ⟨⟨A1, c1, rfl, hc1, o1⟩, ((Below.refl _ _).alloc (Nat.le_refl _) _).trans hb1⟩
theorem cloneB_any (xs : List Int) (A : Option Addr) (n c : Nat) (w : World) (hn : n = xs.length) (hr : Rd w A (xs.map (.int .u8))) (hA : A = none → n = 0 ∧ c = 0) (hm : n ≤ 1000000000) : Calls Try.prog 72 #[.slice A n c] w (OwnsV 5 (xs.map (.int .u8)) n w) := by
  rcases A with _ | a
  · obtain ⟨rfl, rfl⟩ := hA rfl
    obtain rfl := List.eq_nil_of_length_eq_zero hn.symm
    exact cloneB_nil w
  · exact cloneB_some xs a n c w hn hr hm
end Go.Proofs.Ytebmgladdgmmeaa
namespace Go.Proofs.Ytebmgladdgmmeaa
open Go.RowKit Go.WideShapes
set_option linter.unusedVariables false
set_option linter.unusedSimpArgs false
/-- The machine of noughts. -/
def zM : Mc := ⟨0, 0, 0, 0, false, List.replicate 256 0⟩
theorem u32_0 : U32 0 := ⟨Int.le_refl 0, by omega⟩
theorem zM_ok : zM.ok := ⟨u32_0, u32_0, u32_0, u32_0, List.length_replicate, fun x hx => by
  have h := List.eq_of_mem_replicate (show x ∈ List.replicate 256 (0 : Int) from hx)
  rw [h]
  exact u32_0⟩
def zCells : Array Value := zM.cells (.slice none 0 0) (.slice none 0 0)
theorem zero50 : (Try.prog.info? 50).map (fun i => (i.zero, i.size)) = some (some (.agg zCells), 263) := by kernel_rfl
def Mc.pre (m : Mc) : List Value := [.int .u32 m.a, .int .u32 m.b, .int .u32 m.c, .int .u32 m.d, .bool m.f] ++ m.r.map (.int .u32)
theorem Mc.pre_len {m : Mc} (h : m.ok) : m.pre.length = 261 := by simp [Mc.pre, h.len]
theorem Mc.cells_pre (m : Mc) (vh vm : Value) : m.cells vh vm = (m.pre ++ [vh, vm]).toArray := by simp [Mc.cells, Mc.list, Mc.pre]
theorem Mc.setH {m : Mc} (h : m.ok) (vh vm u : Value) : (m.cells vh vm).setIfInBounds 261 u = m.cells u vm := by
  rw [Mc.cells_pre, Mc.cells_pre, List.setIfInBounds_toArray, List.set_append_right _ _ (by rw [Mc.pre_len h]; omega), Mc.pre_len h]
  rfl
theorem Mc.setM {m : Mc} (h : m.ok) (vh vm u : Value) : (m.cells vh vm).setIfInBounds 262 u = m.cells vh u := by
  rw [Mc.cells_pre, Mc.cells_pre, List.setIfInBounds_toArray, List.set_append_right _ _ (by rw [Mc.pre_len h]; omega), Mc.pre_len h]
  rfl
theorem MBox.setH {w : World} {g : Nat} {m : Mc} {vh vm : Value} (h : MBox w g m vh vm) (u : Value) : MBox (w.setCell ⟨g, 261, none⟩ u) g m u vm := ⟨by rw [← Mc.setH h.ok vh vm u]; exact h.blk.set 261 u, h.ok⟩
theorem MBox.setM {w : World} {g : Nat} {m : Mc} {vh vm : Value} (h : MBox w g m vh vm) (u : Value) : MBox (w.setCell ⟨g, 262, none⟩ u) g m vh u := ⟨by rw [← Mc.setM h.ok vh vm u]; exact h.blk.set 262 u, h.ok⟩
end Go.Proofs.Ytebmgladdgmmeaa
