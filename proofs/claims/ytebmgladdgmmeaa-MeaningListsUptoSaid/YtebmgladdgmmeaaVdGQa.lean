/- at, put, index, of the reference: walks. Condition: a right machine, a place. -/
import Derived.Test.YtebmgladdgmmeaaVdGPj
namespace Go.Proofs.Ytebmgladdgmmeaa
open Go.RowKit Go.WideShapes
set_option linter.unusedVariables false
set_option linter.unusedSimpArgs false
theorem index80 (x : Int) (n : Nat) (hx : U32 x) (hn : 0 < n) (w : World) : Calls Try.prog 80 #[.int .u32 x, .int .i64 n] w (Same (.int .i64 (idx x n : Nat)) w) := by
  have w1 : IntKind.i64.wrap x = x := IntWalk.i64_in _ (by have := hx.1; have := hx.2; omega)
  have h0 : x.tmod (n : Int) = ((idx x n : Nat) : Int) := by
    rw [Int.tmod_eq_emod_of_nonneg hx.1]
    unfold idx
    have := Int.emod_nonneg x (show (n : Int) ≠ 0 by omega)
    omega
  have hz : ((n : Int) == 0) = false := by simp; omega
  have hz2 : ¬ ((n : Int) = 0) := by omega
  have hz3 : ¬ (n = 0) := by omega
  go_enter Try.func80, Try.ntmps80
  go_wp2_with fail
  go_ret
  exact ⟨rfl, rfl⟩
section
variable {w : World} {g gh gm ch cm : Nat} {s : St}
/-- A right machine by value. -/
def valVm (bh oh bm om : Nat) (s : St) (ch cm : Nat) : Value := .agg (s.m.cells (.slice (some ⟨bh, oh, none⟩) s.hs.length ch) (.slice (some ⟨bm, om, none⟩) s.ms.length cm))
structure VRows (w : World) (bh oh bm om : Nat) (s : St) : Prop where
  h : Rd w (some ⟨bh, oh, none⟩) (s.hs.map (.int .u32))
  m : Rd w (some ⟨bm, om, none⟩) (s.ms.map (.int .u8))
  ok : s.ok
theorem rd_cell {w : World} {b o k : Nat} {xs : List Value} {u : Value} (h : Rd w (some ⟨b, o, none⟩) xs) (hu : xs[k]? = some u) : b < w.heap.size ∧ w.cell? ⟨b, o + k, none⟩ = some u := by
  obtain ⟨b1, o1, e, hlt, hc⟩ := h.at hu
  injection e with e
  injection e with e1 e2
  subst e1 e2
  exact ⟨hlt, hc⟩
theorem VRows.hcell {w : World} {bh oh bm om : Nat} {s : St} (h : VRows w bh oh bm om s) (x : Int) : bh < w.heap.size ∧ w.cell? ⟨bh, oh + idx x s.hs.length, none⟩ = some (.int .u32 (s.hs.getD (idx x s.hs.length) 0)) := by
  have hl := idx_lt x (pow_pos h.ok.p8)
  refine rd_cell h.h ?_
  rw [List.getElem?_map, List.getD_eq_getElem?_getD, List.getElem?_eq_getElem hl]
  rfl
theorem VRows.mcell {w : World} {bh oh bm om : Nat} {s : St} (h : VRows w bh oh bm om s) (x : Int) : bm < w.heap.size ∧ w.cell? ⟨bm, om + idx x s.ms.length, none⟩ = some (.int .u8 (s.ms.getD (idx x s.ms.length) 0)) := by
  have hl := idx_lt x (pow_pos h.ok.p12)
  refine rd_cell h.m ?_
  rw [List.getElem?_map, List.getD_eq_getElem?_getD, List.getElem?_eq_getElem hl]
  rfl
variable {bh oh bm om : Nat}
set_option maxRecDepth 100000 in
set_option maxHeartbeats 4000000 in
theorem at58_0 (v : Int) (h : VRows w bh oh bm om s) : Calls Try.prog 58 #[valVm bh oh bm om s ch cm, .int .i64 0, .int .i64 v] w (Quiet (.int .u32 (operV 0 v s)) w) := by
  have hbox := MBox.new h.ok.m w (.slice (some ⟨bh, oh, none⟩) s.hs.length ch) (.slice (some ⟨bm, om, none⟩) s.ms.length cm)
  have HB := Lib.hid ((Below.refl w.heap.size w).alloc (Nat.le_refl _) (.cells (s.m.cells (.slice (some ⟨bh, oh, none⟩) s.hs.length ch) (.slice (some ⟨bm, om, none⟩) s.ms.length cm)) 50))
  unfold valVm
  have e : operV 0 v s = s.m.a := rfl
  have c0 := hbox.c0
  rw [e]
  obtain ⟨x, hx⟩ : ∃ x, s.m.a = x := ⟨_, rfl⟩
  rw [hx] at c0 ⊢
  obtain ⟨cs, hcs⟩ : ∃ x, s.m.cells (.slice (some ⟨bh, oh, none⟩) s.hs.length ch) (.slice (some ⟨bm, om, none⟩) s.ms.length cm) = x := ⟨_, rfl⟩
  rw [hcs] at c0 HB ⊢
  have q0 : cs[0]? = some (.int .u32 x) := by rw [← (Blk.new w 50 cs).cell 0]; exact c0
  clear e hbox h hx hcs c0
  go_enter Try.func58, Try.ntmps58
  go_wp2_with fail
  go_ret
  exact ⟨rfl, HB.out⟩
set_option maxRecDepth 100000 in
set_option maxHeartbeats 4000000 in
theorem at58_1 (v : Int) (h : VRows w bh oh bm om s) : Calls Try.prog 58 #[valVm bh oh bm om s ch cm, .int .i64 1, .int .i64 v] w (Quiet (.int .u32 (operV 1 v s)) w) := by
  have hbox := MBox.new h.ok.m w (.slice (some ⟨bh, oh, none⟩) s.hs.length ch) (.slice (some ⟨bm, om, none⟩) s.ms.length cm)
  have HB := Lib.hid ((Below.refl w.heap.size w).alloc (Nat.le_refl _) (.cells (s.m.cells (.slice (some ⟨bh, oh, none⟩) s.hs.length ch) (.slice (some ⟨bm, om, none⟩) s.ms.length cm)) 50))
  unfold valVm
  have e : operV 1 v s = s.m.b := rfl
  have c0 := hbox.c1
  rw [e]
  obtain ⟨x, hx⟩ : ∃ x, s.m.b = x := ⟨_, rfl⟩
  rw [hx] at c0 ⊢
  obtain ⟨cs, hcs⟩ : ∃ x, s.m.cells (.slice (some ⟨bh, oh, none⟩) s.hs.length ch) (.slice (some ⟨bm, om, none⟩) s.ms.length cm) = x := ⟨_, rfl⟩
  rw [hcs] at c0 HB ⊢
  have q0 : cs[1]? = some (.int .u32 x) := by rw [← (Blk.new w 50 cs).cell 1]; exact c0
  clear e hbox h hx hcs c0
  go_enter Try.func58, Try.ntmps58
  go_wp2_with fail
  go_ret
  exact ⟨rfl, HB.out⟩
set_option maxRecDepth 100000 in
set_option maxHeartbeats 4000000 in
theorem at58_2 (v : Int) (h : VRows w bh oh bm om s) : Calls Try.prog 58 #[valVm bh oh bm om s ch cm, .int .i64 2, .int .i64 v] w (Quiet (.int .u32 (operV 2 v s)) w) := by
  have hbox := MBox.new h.ok.m w (.slice (some ⟨bh, oh, none⟩) s.hs.length ch) (.slice (some ⟨bm, om, none⟩) s.ms.length cm)
  have HB := Lib.hid ((Below.refl w.heap.size w).alloc (Nat.le_refl _) (.cells (s.m.cells (.slice (some ⟨bh, oh, none⟩) s.hs.length ch) (.slice (some ⟨bm, om, none⟩) s.ms.length cm)) 50))
  unfold valVm
  have e : operV 2 v s = s.m.c := rfl
  have c0 := hbox.c2
  rw [e]
  obtain ⟨x, hx⟩ : ∃ x, s.m.c = x := ⟨_, rfl⟩
  rw [hx] at c0 ⊢
  obtain ⟨cs, hcs⟩ : ∃ x, s.m.cells (.slice (some ⟨bh, oh, none⟩) s.hs.length ch) (.slice (some ⟨bm, om, none⟩) s.ms.length cm) = x := ⟨_, rfl⟩
  rw [hcs] at c0 HB ⊢
  have q0 : cs[2]? = some (.int .u32 x) := by rw [← (Blk.new w 50 cs).cell 2]; exact c0
  clear e hbox h hx hcs c0
  go_enter Try.func58, Try.ntmps58
  go_wp2_with fail
  go_ret
  exact ⟨rfl, HB.out⟩
set_option maxRecDepth 100000 in
set_option maxHeartbeats 4000000 in
theorem at58_3 (v : Int) (h : VRows w bh oh bm om s) : Calls Try.prog 58 #[valVm bh oh bm om s ch cm, .int .i64 3, .int .i64 v] w (Quiet (.int .u32 (operV 3 v s)) w) := by
  have hbox := MBox.new h.ok.m w (.slice (some ⟨bh, oh, none⟩) s.hs.length ch) (.slice (some ⟨bm, om, none⟩) s.ms.length cm)
  have HB := Lib.hid ((Below.refl w.heap.size w).alloc (Nat.le_refl _) (.cells (s.m.cells (.slice (some ⟨bh, oh, none⟩) s.hs.length ch) (.slice (some ⟨bm, om, none⟩) s.ms.length cm)) 50))
  unfold valVm
  have e : operV 3 v s = s.m.d := rfl
  have c0 := hbox.c3
  rw [e]
  obtain ⟨x, hx⟩ : ∃ x, s.m.d = x := ⟨_, rfl⟩
  rw [hx] at c0 ⊢
  obtain ⟨cs, hcs⟩ : ∃ x, s.m.cells (.slice (some ⟨bh, oh, none⟩) s.hs.length ch) (.slice (some ⟨bm, om, none⟩) s.ms.length cm) = x := ⟨_, rfl⟩
  rw [hcs] at c0 HB ⊢
  have q0 : cs[3]? = some (.int .u32 x) := by rw [← (Blk.new w 50 cs).cell 3]; exact c0
  clear e hbox h hx hcs c0
  go_enter Try.func58, Try.ntmps58
  go_wp2_with fail
  go_ret
  exact ⟨rfl, HB.out⟩
set_option maxRecDepth 100000 in
set_option maxHeartbeats 4000000 in
theorem at58_4 (v : Int) (h : VRows w bh oh bm om s) : Calls Try.prog 58 #[valVm bh oh bm om s ch cm, .int .i64 4, .int .i64 v] w (Quiet (.int .u32 (operV 4 v s)) w) := by
  have hbox := MBox.new h.ok.m w (.slice (some ⟨bh, oh, none⟩) s.hs.length ch) (.slice (some ⟨bm, om, none⟩) s.ms.length cm)
  have HB := Lib.hid ((Below.refl w.heap.size w).alloc (Nat.le_refl _) (.cells (s.m.cells (.slice (some ⟨bh, oh, none⟩) s.hs.length ch) (.slice (some ⟨bm, om, none⟩) s.ms.length cm)) 50))
  unfold valVm
  have hpos := pow_pos h.ok.p12
  have hlt := idx_lt s.m.b hpos
  have hle : s.ms.length ≤ 4096 := pow_le h.ok.p12
  have e : operV 4 v s = s.ms.getD (idx s.m.b s.ms.length) 0 := rfl
  obtain ⟨hbl, c0⟩ := h.mcell s.m.b
  have cr := hbox.c1
  have cf := hbox.cm
  have hio := index80 s.m.b s.ms.length h.ok.m.b hpos
  have hoct := getD_oct h.ok.mo (idx s.m.b s.ms.length)
  rw [e]
  obtain ⟨x, hx⟩ : ∃ x, s.ms.getD (idx s.m.b s.ms.length) 0 = x := ⟨_, rfl⟩
  rw [hx] at c0 hoct ⊢
  obtain ⟨cs, hcs⟩ : ∃ x, s.m.cells (.slice (some ⟨bh, oh, none⟩) s.hs.length ch) (.slice (some ⟨bm, om, none⟩) s.ms.length cm) = x := ⟨_, rfl⟩
  rw [hcs] at cr cf HB ⊢
  obtain ⟨n, hn⟩ : ∃ n, s.ms.length = n := ⟨_, rfl⟩
  simp only [hn] at hlt hle c0 cf hio hpos
  obtain ⟨r, hr⟩ : ∃ r, s.m.b = r := ⟨_, rfl⟩
  simp only [hr] at hlt c0 cr hio
  obtain ⟨k, hk⟩ : ∃ k, idx r n = k := ⟨_, rfl⟩
  simp only [hk] at hlt c0 hio
  have q1 : cs[1]? = some (.int .u32 r) := by rw [← (Blk.new w 50 cs).cell 1]; exact cr
  have q2 : cs[262]? = some (.slice (some ⟨bm, om, none⟩) n cm) := by rw [← (Blk.new w 50 cs).cell 262]; exact cf
  have hki : (k : Int) < (n : Int) := by omega
  have hk0 : (0 : Int) ≤ (k : Int) := by omega
  have wx : IntKind.u32.wrap x = x := by rw [IntKind.wrap_u32]; omega
  have HIO := Lib.hid hio
  clear e hbox h hx hcs hio hn hr hk hoct cr cf
  go_enter Try.func58, Try.ntmps58
  go_wp2_with fail
  go_region_with (go_at_call 80; (with_reducible refine (HIO.out _).mono ?_); rintro e w1 ⟨rfl, rfl⟩)
  all_goals
    go_wp2_with fail
    go_ret
    exact ⟨rfl, HB.out.drew⟩
set_option maxRecDepth 100000 in
set_option maxHeartbeats 4000000 in
theorem at58_5 (v : Int) (h : VRows w bh oh bm om s) : Calls Try.prog 58 #[valVm bh oh bm om s ch cm, .int .i64 5, .int .i64 v] w (Quiet (.int .u32 (operV 5 v s)) w) := by
  have hbox := MBox.new h.ok.m w (.slice (some ⟨bh, oh, none⟩) s.hs.length ch) (.slice (some ⟨bm, om, none⟩) s.ms.length cm)
  have HB := Lib.hid ((Below.refl w.heap.size w).alloc (Nat.le_refl _) (.cells (s.m.cells (.slice (some ⟨bh, oh, none⟩) s.hs.length ch) (.slice (some ⟨bm, om, none⟩) s.ms.length cm)) 50))
  unfold valVm
  have hpos := pow_pos h.ok.p12
  have hlt := idx_lt s.m.c hpos
  have hle : s.ms.length ≤ 4096 := pow_le h.ok.p12
  have e : operV 5 v s = s.ms.getD (idx s.m.c s.ms.length) 0 := rfl
  obtain ⟨hbl, c0⟩ := h.mcell s.m.c
  have cr := hbox.c2
  have cf := hbox.cm
  have hio := index80 s.m.c s.ms.length h.ok.m.c hpos
  have hoct := getD_oct h.ok.mo (idx s.m.c s.ms.length)
  rw [e]
  obtain ⟨x, hx⟩ : ∃ x, s.ms.getD (idx s.m.c s.ms.length) 0 = x := ⟨_, rfl⟩
  rw [hx] at c0 hoct ⊢
  obtain ⟨cs, hcs⟩ : ∃ x, s.m.cells (.slice (some ⟨bh, oh, none⟩) s.hs.length ch) (.slice (some ⟨bm, om, none⟩) s.ms.length cm) = x := ⟨_, rfl⟩
  rw [hcs] at cr cf HB ⊢
  obtain ⟨n, hn⟩ : ∃ n, s.ms.length = n := ⟨_, rfl⟩
  simp only [hn] at hlt hle c0 cf hio hpos
  obtain ⟨r, hr⟩ : ∃ r, s.m.c = r := ⟨_, rfl⟩
  simp only [hr] at hlt c0 cr hio
  obtain ⟨k, hk⟩ : ∃ k, idx r n = k := ⟨_, rfl⟩
  simp only [hk] at hlt c0 hio
  have q1 : cs[2]? = some (.int .u32 r) := by rw [← (Blk.new w 50 cs).cell 2]; exact cr
  have q2 : cs[262]? = some (.slice (some ⟨bm, om, none⟩) n cm) := by rw [← (Blk.new w 50 cs).cell 262]; exact cf
  have hki : (k : Int) < (n : Int) := by omega
  have hk0 : (0 : Int) ≤ (k : Int) := by omega
  have wx : IntKind.u32.wrap x = x := by rw [IntKind.wrap_u32]; omega
  have HIO := Lib.hid hio
  clear e hbox h hx hcs hio hn hr hk hoct cr cf
  go_enter Try.func58, Try.ntmps58
  go_wp2_with fail
  go_region_with (go_at_call 80; (with_reducible refine (HIO.out _).mono ?_); rintro e w1 ⟨rfl, rfl⟩)
  all_goals
    go_wp2_with fail
    go_ret
    exact ⟨rfl, HB.out.drew⟩
set_option maxRecDepth 100000 in
set_option maxHeartbeats 4000000 in
theorem at58_6 (v : Int) (h : VRows w bh oh bm om s) : Calls Try.prog 58 #[valVm bh oh bm om s ch cm, .int .i64 6, .int .i64 v] w (Quiet (.int .u32 (operV 6 v s)) w) := by
  have hbox := MBox.new h.ok.m w (.slice (some ⟨bh, oh, none⟩) s.hs.length ch) (.slice (some ⟨bm, om, none⟩) s.ms.length cm)
  have HB := Lib.hid ((Below.refl w.heap.size w).alloc (Nat.le_refl _) (.cells (s.m.cells (.slice (some ⟨bh, oh, none⟩) s.hs.length ch) (.slice (some ⟨bm, om, none⟩) s.ms.length cm)) 50))
  unfold valVm
  have hpos := pow_pos h.ok.p8
  have hlt := idx_lt s.m.d hpos
  have hle : s.hs.length ≤ 4096 := pow_le (pow_up h.ok.p8)
  have e : operV 6 v s = s.hs.getD (idx s.m.d s.hs.length) 0 := rfl
  obtain ⟨hbl, c0⟩ := h.hcell s.m.d
  have cr := hbox.c3
  have cf := hbox.ch
  have hio := index80 s.m.d s.hs.length h.ok.m.d hpos

  rw [e]
  obtain ⟨x, hx⟩ : ∃ x, s.hs.getD (idx s.m.d s.hs.length) 0 = x := ⟨_, rfl⟩
  rw [hx] at c0 ⊢
  obtain ⟨cs, hcs⟩ : ∃ x, s.m.cells (.slice (some ⟨bh, oh, none⟩) s.hs.length ch) (.slice (some ⟨bm, om, none⟩) s.ms.length cm) = x := ⟨_, rfl⟩
  rw [hcs] at cr cf HB ⊢
  obtain ⟨n, hn⟩ : ∃ n, s.hs.length = n := ⟨_, rfl⟩
  simp only [hn] at hlt hle c0 cf hio hpos
  obtain ⟨r, hr⟩ : ∃ r, s.m.d = r := ⟨_, rfl⟩
  simp only [hr] at hlt c0 cr hio
  obtain ⟨k, hk⟩ : ∃ k, idx r n = k := ⟨_, rfl⟩
  simp only [hk] at hlt c0 hio
  have q1 : cs[3]? = some (.int .u32 r) := by rw [← (Blk.new w 50 cs).cell 3]; exact cr
  have q2 : cs[261]? = some (.slice (some ⟨bh, oh, none⟩) n ch) := by rw [← (Blk.new w 50 cs).cell 261]; exact cf
  have hki : (k : Int) < (n : Int) := by omega
  have hk0 : (0 : Int) ≤ (k : Int) := by omega

  have HIO := Lib.hid hio
  clear e hbox h hx hcs hio hn hr hk  cr cf
  go_enter Try.func58, Try.ntmps58
  go_wp2_with fail
  go_region_with (go_at_call 80; (with_reducible refine (HIO.out _).mono ?_); rintro e w1 ⟨rfl, rfl⟩)
  all_goals
    go_wp2_with fail
    go_ret
    exact ⟨rfl, HB.out.drew⟩
set_option maxRecDepth 100000 in
set_option maxHeartbeats 4000000 in
theorem at58_7 (v : Int) (h : VRows w bh oh bm om s) : Calls Try.prog 58 #[valVm bh oh bm om s ch cm, .int .i64 7, .int .i64 v] w (Quiet (.int .u32 (operV 7 v s)) w) := by
  have hbox := MBox.new h.ok.m w (.slice (some ⟨bh, oh, none⟩) s.hs.length ch) (.slice (some ⟨bm, om, none⟩) s.ms.length cm)
  have HB := Lib.hid ((Below.refl w.heap.size w).alloc (Nat.le_refl _) (.cells (s.m.cells (.slice (some ⟨bh, oh, none⟩) s.hs.length ch) (.slice (some ⟨bm, om, none⟩) s.ms.length cm)) 50))
  unfold valVm
  have e : operV 7 v s = v % 4294967296 := rfl
  rw [e]
  obtain ⟨cs, hcs⟩ : ∃ x, s.m.cells (.slice (some ⟨bh, oh, none⟩) s.hs.length ch) (.slice (some ⟨bm, om, none⟩) s.ms.length cm) = x := ⟨_, rfl⟩
  rw [hcs] at HB ⊢
  clear e hbox h hcs
  go_enter Try.func58, Try.ntmps58
  go_wp2_with fail
  go_ret
  exact ⟨rfl, HB.out⟩
theorem at58 (p v : Int) (hp : 0 ≤ p ∧ p ≤ 7) (h : VRows w bh oh bm om s) : Calls Try.prog 58 #[valVm bh oh bm om s ch cm, .int .i64 p, .int .i64 v] w (Quiet (.int .u32 (operV p v s)) w) := by
  rcases (show p = 0 ∨ p = 1 ∨ p = 2 ∨ p = 3 ∨ p = 4 ∨ p = 5 ∨ p = 6 ∨ p = 7 from by omega) with rfl | rfl | rfl | rfl | rfl | rfl | rfl | rfl
  · exact at58_0 v h
  · exact at58_1 v h
  · exact at58_2 v h
  · exact at58_3 v h
  · exact at58_4 v h
  · exact at58_5 v h
  · exact at58_6 v h
  · exact at58_7 v h
end
end Go.Proofs.Ytebmgladdgmmeaa
