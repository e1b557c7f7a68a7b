/- The index: At, Len, frames; appending many structs. -/
import Derived.Test.YtlhhkmpidnegcaaIxCu
namespace Go.Proofs.Ytlhhkmpidnegcaa
open Go.RowKit Go.WideShapes Go.Maps
set_option linter.unusedVariables false
set_option linter.unusedSimpArgs false
set_option maxRecDepth 100000
def zeroA : Array Value := #[.int .u8 0, .int .u8 0, .int .u8 0, .int .u8 0, .int .u8 0, .int .u8 0, .int .u8 0, .int .u8 0, .int .u8 0, .int .u8 0, .int .u8 0, .int .u8 0, .int .u8 0, .int .u8 0, .int .u8 0, .int .u8 0, .int .u8 0, .int .u8 0, .int .u8 0, .int .u8 0, .int .i64 0, .int .i64 0, .int .i64 0]
theorem zeroA_info : (Try.prog.info? 52).map (·.size) = some zeroA.size := by kernel_rfl
theorem at_load (w : World) : (loadVar 52 ⟨w.heap.size, 0, none⟩).run Try.prog (w.alloc (.cells zeroA 52)) = .ok (.agg zeroA) (w.alloc (.cells zeroA 52)) := run_loadVar_row _ _ 52 52 zeroA (0, 0) _ (heap_alloc_new w _) Try.underlying52 rfl zeroA_info
theorem len_nil (w : World) : Calls Try.prog 34 #[.pointer none] w (Same (.int .i64 0) w) := by
  go_enter Try.func34, Try.ntmps34
  go_wp2_with fail
  refine (none_nil _).mono ?_
  rintro e w1 ⟨rfl, rfl⟩
  go_wp2_with fail
  go_ret
  exact ⟨rfl, rfl⟩
theorem len_unmade (g : Nat) (u : Value) (w : World) (hb : Blk w g 108 #[u, .map none]) : Calls Try.prog 34 #[.pointer (some ⟨g, 0, none⟩)] w (Same (.int .i64 0) w) := by
  have hno := none_unmade g u _ hb
  have HNO := Lib.hid hno
  clear hno hb
  go_enter Try.func34, Try.ntmps34
  go_wp2_with fail
  refine (HNO.out).mono ?_
  rintro e w1 ⟨rfl, rfl⟩
  go_wp2_with fail
  go_ret
  exact ⟨rfl, rfl⟩
theorem len_any {B g mb n : Nat} {l : List Pc} {v : Value} (w : World) (hi : Idx B w g mb n l v) : Calls Try.prog 34 #[.pointer (some ⟨g, 0, none⟩)] w (Same (.int .i64 l.length) w) := by
  obtain ⟨A, c, rfl, _⟩ := hi.own.slice
  exact len_made g mb A l.length c w hi.blk
set_option maxHeartbeats 1000000 in
theorem at_in {B g mb n : Nat} {l : List Pc} {v : Value} (k : Nat) (w : World) (hi : Idx B w g mb n l v) (p : Pc) (hp : l[k]? = some p) (hm : l.length ≤ 8192) :
    Calls Try.prog 45 #[.pointer (some ⟨g, 0, none⟩), .int .i64 ((k : Int) + 1)] w (Quiet (.tuple #[p.agg, .bool true]) w) := by
  have hkl : k < l.length := (List.getElem?_eq_some_iff.1 hp).1
  have hpo : p.ok := hi.oks p (List.mem_of_getElem? hp)
  obtain ⟨A, c, rfl, hc⟩ := hi.own.slice
  obtain ⟨gl, rfl⟩ : ∃ gl, A = some ⟨gl, 0, none⟩ := by
    rcases hi.own with h | ⟨gl, cur, hv, _⟩
    · rcases h.2 with ⟨h0, h1⟩ | ⟨g', cap, cur, hv, _⟩
      · simp at h0; omega
      · injection hv with hv; exact ⟨g', hv⟩
    · injection hv with hv; exact ⟨gl, hv⟩
  have hal := (Below.refl w.heap.size w).alloc (Nat.le_refl _) (.cells zeroA 52)
  have hi2 := hi.below hal
  have hno := none_made g mb _ (w.alloc (.cells zeroA 52)) hi2.blk
  have c0 := hi2.blk.cell 0
  simp at c0
  have hrow := hi2.own
  have hrg : (w.alloc (.cells zeroA 52)).rangeAt gl (k * 23) p.cells := fun jj y hy => by
    have h1 := flatP_at l hi.oks k p hp jj y hy
    rw [show k * 23 + jj = 23 * k + jj by omega]
    exact hrow.cell _ _ h1
  have hs39 : (Try.prog.info? 52).map (·.size) = some p.cells.length := by rw [Pc.cells_length hpo]; exact size39
  have hs39a : (Try.prog.info? 52).map (·.size) = some p.cells.toArray.size := by rw [List.size_toArray]; exact hs39
  have hzz : zeroA.size = p.cells.toArray.size := (by rfl : zeroA.size = 23).trans (by rw [List.size_toArray, Pc.cells_length hpo])
  have hone : p.cells.toArray.all (·.oneCell') = true := by
    rw [Array.all_eq_true]
    intro i hi'
    exact Pc.cells_one p _ (show p.cells.toArray[i] ∈ p.cells by simp)
  have hld : (loadVar 52 ⟨w.heap.size, 0, none⟩).run Try.prog (w.alloc (.cells p.cells.toArray 52)) = .ok (.agg p.cells.toArray) (w.alloc (.cells p.cells.toArray 52)) := run_loadVar_row _ _ 52 52 p.cells.toArray (0, 0) _ (heap_alloc_new w _) Try.underlying52 rfl hs39a
  have hb := (Below.refl w.heap.size w).alloc (Nat.le_refl _) (.cells p.cells.toArray 52)
  generalize hL : l.length = L at *
  have e1 : decide ((k : Int) + 1 < 1) = false := by simp; omega
  have e2 : decide ((L : Int) < (k : Int) + 1) = false := by simp; omega
  have e3 : wrap64 ((k : Int) + 1 - 1) = (k : Int) := by unfold wrap64; omega
  have e4 : (k : Int) + 1 - 1 = (k : Int) := by omega
  have hkI : (k : Int) < L := by omega
  unfold Pc.agg
  have HNO := Lib.hid hno
  have HRG := Lib.hid hrg
  have HS39 := Lib.hid hs39
  have HSA := Lib.hid hs39a
  have HZ := Lib.hid hzz
  have HO := Lib.hid hone
  have HLD := Lib.hid hld
  have HB := Lib.hid hb
  clear hno hrg hs39 hs39a hzz hone hld hb hrow hi2 hi hal hp hpo hL hc
  generalize p.cells = ps at *
  go_enter Try.func45, Try.ntmps45
  go_wp2_with fail
  refine (HNO.out).mono ?_
  rintro e w1 ⟨rfl, rfl⟩
  go_wp2_with (first | (refine wpList_load_mid rfl 52 (.tmp 28) rfl gl (k * 23) rfl ps _ HRG.out Try.underlying52 rfl HS39.out ?_) | (refine wpList_store_row rfl 52 (.tmp 4) (.tmp 29) rfl w.heap.size ps.toArray rfl rfl 52 zeroA (heap_alloc_new _ _) HSA.out HZ.out HO.out ?_; rw [World.setRow_alloc_new]))
  have hld := HLD.out
  exact bodyPost_ret (v := .tuple #[.agg ps.toArray, .bool true]) (by simp [results, Try.results45, asAddr, Result.andThen, hld]) rfl ⟨rfl, HB.out⟩
set_option maxHeartbeats 1000000 in
theorem at_out {B g mb n : Nat} {l : List Pc} {v : Value} (x : Int) (w : World) (hi : Idx B w g mb n l v) (hx : x < 1 ∨ (l.length : Int) < x) :
    Calls Try.prog 45 #[.pointer (some ⟨g, 0, none⟩), .int .i64 x] w (Quiet (.tuple #[.agg zeroA, .bool false]) w) := by
  obtain ⟨A, c, rfl, hc⟩ := hi.own.slice
  have hal := (Below.refl w.heap.size w).alloc (Nat.le_refl _) (.cells zeroA 52)
  have hi2 := hi.below hal
  have hno := none_made g mb _ (w.alloc (.cells zeroA 52)) hi2.blk
  have c0 := hi2.blk.cell 0
  simp at c0
  have hld := at_load w
  have HAL := Lib.hid hal
  have HLD := Lib.hid hld
  have HNO := Lib.hid hno
  generalize hL : l.length = L at *
  clear hal hld hno hi2 hi
  by_cases h1 : x < 1
  · have e1 : decide (x < 1) = true := by simp [h1]
    clear hx
    go_enter Try.func45, Try.ntmps45
    go_wp2_with fail
    refine (HNO.out).mono ?_
    rintro e w1 ⟨rfl, rfl⟩
    go_wp2_with (refine wpList_store_row rfl 52 (.tmp 4) (.tmp 21) rfl w.heap.size zeroA rfl rfl 52 zeroA (heap_alloc_new _ _) zeroA_info rfl (by kernel_rfl) ?_; rw [World.setRow_alloc_new])
    have hld := HLD.out
    exact bodyPost_ret (v := .tuple #[.agg zeroA, .bool false]) (by simp [results, Try.results45, asAddr, Result.andThen, hld]) rfl ⟨rfl, HAL.out⟩
  · have e1 : decide (x < 1) = false := by simp [h1]
    have h2 : (L : Int) < x := by omega
    have e2 : decide ((L : Int) < x) = true := by simp [h2]
    clear hx
    go_enter Try.func45, Try.ntmps45
    go_wp2_with fail
    refine (HNO.out).mono ?_
    rintro e w1 ⟨rfl, rfl⟩
    go_wp2_with (refine wpList_store_row rfl 52 (.tmp 4) (.tmp 21) rfl w.heap.size zeroA rfl rfl 52 zeroA (heap_alloc_new _ _) zeroA_info rfl (by kernel_rfl) ?_; rw [World.setRow_alloc_new])
    have hld := HLD.out
    exact bodyPost_ret (v := .tuple #[.agg zeroA, .bool false]) (by simp [results, Try.results45, asAddr, Result.andThen, hld]) rfl ⟨rfl, HAL.out⟩
section
variable {P : Program} {t e : TypeId} {z : Value} {size bytes : Nat}
theorem run_appN (T : SlS P t e z size bytes) (w : World) (ty : TypeId) (base : Nat) (v : Value) (n : Nat) (xs : List Value) (hown : w.ownsRow base e size v n xs)
    (A : Option Addr) (m c : Nat) (news : List Value) (hl : news.length = m * size) (hr : m = 0 ∨ ∃ ad : Addr, A = some ad ∧ ∀ j u, news[j]? = some u → w.cell? (ad.add j) = some u) (h1 : ∀ u ∈ news, u.oneCell' = true)
    (hby : (n + m) * bytes ≤ 140737488355328) (h63 : n + m ≤ maxLen) (hbase : base ≤ w.heap.size) :
    ∃ v' w', (Builtin.append_ #[t, t] ty #[v, .slice A m c]).run P w = .ok v' w' ∧ w'.ownsRow base e size v' (n + m) (xs ++ news) ∧ w.grownBy w' v.ownBlock ∧ (v'.ownBlock = v.ownBlock ∨ ∀ k, v'.ownBlock = some k → w.heap.size ≤ k) := by
  obtain ⟨i, hi, hz, hs, hb⟩ := info_parts T.i
  have zero : m = 0 → ∃ v' w', (Builtin.append_ #[t, t] ty #[v, .slice A m c]).run P w = .ok v' w' ∧ w'.ownsRow base e size v' (n + m) (xs ++ news) ∧ w.grownBy w' v.ownBlock ∧ (v'.ownBlock = v.ownBlock ∨ ∀ k, v'.ownBlock = some k → w.heap.size ≤ k) := by
    rintro rfl
    have hr0 : (Builtin.append_ #[t, t] ty #[v, .slice A 0 c]).run P w = .ok v w := by
      rcases hown.2 with ⟨rfl, rfl⟩ | ⟨g, cap, cur, rfl, _, _, hnc, _⟩
      · cases A <;> simp [Builtin.append_, run_underlying T.u, sizeOf, typeInfo, hi, Builtin.lenOf, Builtin.firstCells, loadCells, loadCellsFrom]
      · cases A <;> simp [Builtin.append_, run_underlying T.u, sizeOf, typeInfo, hi, Builtin.lenOf, Builtin.firstCells, hnc, storeCells, loadCells, loadCellsFrom]
    have hn : news = [] := List.eq_nil_of_length_eq_zero (by rw [hl]; omega)
    subst hn
    exact ⟨v, w, hr0, by simpa using hown, World.grownBy.refl w _, .inl rfl⟩
  rcases hr with h0 | ⟨ad, rfl, hc⟩
  · exact zero h0
  · obtain ⟨v', w', hrun, h2, h3, _, h5⟩ := run_append_own_at (P := P) w base t ty e i z size bytes T.u hi hz hs hb T.z T.pos v n xs hown ad m c news hl hc h1 h63 hby hbase
    exact ⟨v', w', hrun, h2, h3, h5.imp id fun h k hk => by rw [h] at hk; injection hk with hk; omega⟩
end
section
variable {P : Program} {t e : TypeId} {z : Value} {size bytes : Nat}
theorem wpList_appN {ops : Array Oper} {rest : List Oper} {o : Oper} {a : Act} {w : World} {Q : Exit → Act → World → Prop} (T : SlS P t e z size bytes) (hgd : Region.wanted o (yielded ops a.tmps) = true) (s x : Operand)
    (ho : o.op = .call { callee := .builtin .append, args := #[s, x], argTypes := #[t, t] })
    (base : Nat) (v : Value) (n : Nat) (xs : List Value) (hs : a.eval s = v) (hown : w.ownsRow base e size v n xs)
    (A : Option Addr) (m c : Nat) (news : List Value) (hx : a.eval x = .slice A m c) (hl : news.length = m * size) (hr : m = 0 ∨ ∃ ad : Addr, A = some ad ∧ ∀ j u, news[j]? = some u → w.cell? (ad.add j) = some u) (h1 : ∀ u ∈ news, u.oneCell' = true)
    (hby : (n + m) * bytes ≤ 140737488355328) (h63 : n + m ≤ maxLen) (hbase : base ≤ w.heap.size)
    (h : ∀ v' w', w'.ownsRow base e size v' (n + m) (xs ++ news) → w.grownBy w' v.ownBlock → (v'.ownBlock = v.ownBlock ∨ ∀ k, v'.ownBlock = some k → w.heap.size ≤ k) → wpList P ops Q rest (a.put o.dst v') w') : wpList P ops Q (o :: rest) a w := by
  obtain ⟨v', w', hrun, h2, h3, h5⟩ := run_appN T w o.type base v n xs hown A m c news hl hr h1 hby h63 hbase
  refine wpList_step fun K hK => ?_
  rw [if_pos hgd]
  unfold Oper.wp execOp
  simp only [ho, resolve, invoke, builtin, Sem.run_bind, Sem.run_pure, Result.andThen_ok, List.map_toArray, List.map_cons, List.map_nil, hs, hx, hrun]
  exact hK _ _ (h v' w' h2 h3 h5)
end
theorem own_mono {w : World} {B B' n : Nat} {e : TypeId} {size : Nat} {v : Value} {xs : List Value} (h : w.ownsRow B e size v n xs) (hB : B' ≤ B) : w.ownsRow B' e size v n xs := by
  refine ⟨h.1, ?_⟩
  rcases h.2 with h0 | ⟨g, cap, cur, hv, h1, hr⟩
  · exact .inl h0
  · exact .inr ⟨g, cap, cur, hv, by omega, hr⟩
theorem RowP.mono {B B' n : Nat} {w : World} {v : Value} {xs : List Value} (h : RowP B w v n xs) (hB : B' ≤ B) : RowP B' w v n xs := by
  rcases h with h | ⟨gl, cur, hv, h1, hr⟩
  · exact .inl (own_mono h hB)
  · exact .inr ⟨gl, cur, hv, by omega, hr⟩
theorem Idx.mono {B B' g mb n : Nat} {l : List Pc} {v : Value} {w : World} (h : Idx B w g mb n l v) (hB : B' ≤ B) : Idx B' w g mb n l v := ⟨by have := h.ge; omega, by have := h.gm; omega, h.oks, h.blk, h.own.mono hB, h.map⟩
theorem Idx.frm {S : Nat → Prop} {B g mb n : Nat} {l : List Pc} {v : Value} {w w' : World} (h : Idx B w g mb n l v) (hf : Frm S w w') (h1 : ¬ S g) (h2 : ¬ S mb) (h3 : ∀ k, v.ownBlock = some k → ¬ S k) : Idx B w' g mb n l v :=
  ⟨h.ge, h.gm, h.oks, h.blk.frm hf h1, h.own.frm hf h3, h.map.frm hf h2⟩
theorem nodup_snoc (l : List Pc) (p : Pc) (nd : (l.map Pc.h).Nodup) (hf : findP l p.h = none) : ((l ++ [p]).map Pc.h).Nodup := by
  unfold findP at hf
  rw [Option.map_eq_none_iff, List.findIdx?_eq_none_iff] at hf
  rw [List.map_append, List.nodup_append]
  refine ⟨nd, by simp, fun a ha b hb e => ?_⟩
  simp at hb
  obtain ⟨q, hq, rfl⟩ := List.mem_map.1 ha
  have := hf q hq
  simp at this
  exact this (e.trans hb)
theorem find_none_or (l : List Pc) (h : List Int) : findP l h = none ∨ ∃ i, findP l h = some i := by
  cases findP l h with
  | none => exact .inl rfl
  | some i => exact .inr ⟨i, rfl⟩
end Go.Proofs.Ytlhhkmpidnegcaa
