/- cut.Next's walk: for every row of bytes; no condition. -/
import Derived.Test.YtjcaahilgobfhaaRows
import Derived.Test.YtjcaahilgobfhaaCutPlain
import Derived.Deep.WholeRow
namespace Go.Proofs.Ytjcaahilgobfhaa
open Go.RowKit Go.WideShapes
def zeros256 : Array Value := (noGuess.map (Value.int .u8)).toArray
theorem zero70 : (Try.prog.info? 70).map (fun i => (i.zero, i.size)) = some (some (.agg zeros256), 256) := by kernel_rfl
/-- A table of 256 bytes in block g. -/
structure Arr (w : World) (g : Nat) (l : List Int) : Prop where
  lt : g < w.heap.size
  cell : ∀ i, i < 256 → w.cell? ⟨g, i, none⟩ = some (.int .u8 (l.getD i 0))
  free : ∀ i, w.frozen? ⟨g, i, none⟩ = false
theorem Arr.set_ {w : World} {g : Nat} {l : List Int} (h : Arr w g l) (hl : l.length = 256) (i : Nat) (hi : i < 256) (c : Int) : Arr (w.setCell ⟨g, i, none⟩ (.int .u8 c)) g (l.set i c) where
  lt := by simpa [World.setCell] using h.lt
  cell j hj := by
    rw [List.getD_eq_getElem?_getD, List.getElem?_set]
    by_cases e : i = j
    · subst e
      rw [World.cell?_setCell_same (h := h.cell i hi)]
      simp [hl, hi]
    · rw [World.cell?_setCell_other _ _ _ _ (by intro x; injection x with _ x; exact e (by omega)), h.cell j hj, if_neg e, List.getD_eq_getElem?_getD]
  free j := by rw [World.frozen?_setCell]; exact h.free j
theorem Arr.drew {w : World} {g : Nat} {l : List Int} (h : Arr w g l) : Arr w.drew g l := ⟨h.lt, h.cell, h.free⟩
theorem Arr.new (w : World) (e : TypeId) : Arr (w.alloc (.cells zeros256 e)) w.heap.size noGuess where
  lt := by simp
  cell i hi := by
    rw [cell_of_row _ _ _ _ _ _ (heap_alloc_new _ _)]
    unfold zeros256
    rw [List.getElem?_toArray, List.getElem?_map, List.getElem?_eq_getElem (by rw [noGuess_length]; exact hi), List.getD_eq_getElem?_getD, List.getElem?_eq_getElem (by rw [noGuess_length]; exact hi)]
    rfl
  free i := frozen_of_row _ _ _ _ _ (heap_alloc_new _ _)
structure NextRel (bs : List Int) (g : Nat) (w0 : World) (u v i : Value) (w : World) : Prop where
  ex : ∃ k : Nat, i = .int .i64 k ∧ k ≤ bs.length ∧ k ≤ 4096 ∧ u = .int .u32 (scanS bs k).s ∧ v = .int .u8 (scanS bs k).a ∧ Arr w g (scanS bs k).g ∧ (∀ j, 0 < j → j ≤ k → ¬ lowAt bs j)
  low : Below w0.heap.size w0 w
theorem isNext_low {bs : List Int} {k : Nat} (h1 : k < bs.length) (h2 : k < 4096) (hno : ∀ j, 0 < j → j ≤ k → ¬ lowAt bs j) (hl : lowAt bs (k + 1)) : IsNext bs (k + 1) :=
  ⟨by omega, by omega, fun _ => by omega, fun j h0 hj => hno j h0 (by omega), .inr (.inr hl)⟩
theorem isNext_end {bs : List Int} {k : Nat} (h1 : k ≤ bs.length) (h2 : k ≤ 4096) (h3 : ¬ (k < bs.length ∧ k < 4096)) (hno : ∀ j, 0 < j → j ≤ k → ¬ lowAt bs j) : IsNext bs k :=
  ⟨h1, h2, fun _ => by omega, fun j h0 hj => hno j h0 (by omega), by omega⟩
theorem nextRel_step {bs : List Int} {g : Nat} {w0 w : World} {k : Nat} {s' cell : Int} {x : CS} (h1 : k < bs.length) (h2 : k < 4096) (hno : ∀ j, 0 < j → j ≤ k → ¬ lowAt bs j) (hl : ¬ lowAt bs (k + 1)) (hs : scanS bs (k + 1) = x)
    (e1 : s' = x.s) (e2 : cell = x.a) (ha : Arr w g x.g) (hb : Below w0.heap.size w0 w) : NextRel bs g w0 (.int .u32 s') (.int .u8 cell) (.int .i64 ((k : Int) + 1)) w :=
  ⟨⟨k + 1, by simp, by omega, by omega, by rw [hs, e1], by rw [hs, e2], by rw [hs]; exact ha, fun j h0 hj => by
    by_cases e : j = k + 1
    · rw [e]; exact hl
    · exact hno j h0 (by omega)⟩, hb⟩
set_option maxRecDepth 100000 in
set_option maxHeartbeats 2000000 in
theorem next_any (bs : List Int) (A : Option Addr) (c : Nat) (w : World) (ho : Oct bs) (hr : Rd w A (bs.map (.int .u8))) (hm : bs.length ≤ maxLen) :
    Calls Try.prog 14 #[.slice A bs.length c] w fun e w' => (∃ n : Nat, e = .returned (.int .i64 n) ∧ IsNext bs n) ∧ Below w.heap.size w w' := by
  unfold maxLen at hm
  have hz := (zero_of_info zero70).1
  have HR := Lib.hid hr
  have HO := Lib.hid ho
  clear hr ho
  go_enter Try.func14, Try.ntmps14
  go_wp2_with fail
  all_goals
    go_loopw [4, 5, 12] (fun u v i wr => NextRel bs w.heap.size w u v i wr) (fun _ _ i _ => bs.length - (intOf i).toNat)
    case atStart => exact ⟨⟨0, rfl, by omega, by omega, rfl, rfl, Arr.new w 70, fun j h0 h1 => by omega⟩, (Below.refl _ _).alloc (Nat.le_refl _) _⟩
    case round =>
      obtain ⟨⟨k, rfl, hk1, hk2, rfl, rfl, harr, hno⟩, hb⟩ := hrel
      have hok := scan_ok HO.out k
      obtain ⟨cell, hcell⟩ : ∃ c, c = bs.getD k 0 := ⟨_, rfl⟩
      have hcb := HO.out.getD k
      rw [← hcell] at hcb
      have hstep : scanS bs (k + 1) = (scanS bs k).step cell := by rw [hcell]; rfl
      have hlow : lowAt bs (k + 1) ↔ 64 ≤ k + 1 ∧ ((scanS bs k).step cell).s < 8388608 := by unfold lowAt; rw [hstep]
      have HS := Lib.hid hstep
      have HL := Lib.hid hlow
      have HC := Lib.hid hcell
      have HN := Lib.hid hno
      clear hstep hlow hcell hno
      generalize scanS bs k = S at *
      obtain ⟨s, a, gl⟩ := S
      obtain ⟨o1, o2, o3, o4, o5⟩ := hok
      simp only at o1 o2 o3 o4 o5
      have ha := harr.cell a.toNat (by omega)
      have hf := harr.free a.toNat
      have hset := harr.set_ o5 a.toNat (by omega) cell
      have HA := Lib.hid harr
      have HT := Lib.hid hset
      have H5 := Lib.hid o5
      clear harr hset o5
      by_cases hlt : k < bs.length ∧ k < 4096
      · obtain ⟨b, off, hA, hbl, hcl⟩ := ((HR.out).below ((Below.mono hb (Nat.le_refl _))) rfl).at (k := k) (u := .int .u8 cell) (by rw [HC.out, List.getElem?_map, List.getElem?_eq_getElem hlt.1, List.getD_eq_getElem?_getD, List.getElem?_eq_getElem hlt.1]; rfl)
        subst hA
        obtain ⟨l1, l2⟩ := hlt
        obtain ⟨q, hq⟩ : ∃ q, q = gl.getD a.toNat 0 := ⟨_, rfl⟩
        simp only at ha
        rw [← hq] at ha
        have HQ := Lib.hid hq
        clear hq
        have hbs := hb.setCell (p := ⟨w.heap.size, a.toNat, none⟩) (Nat.le_refl _) (.int .u8 cell)
        have HB := Lib.hid hbs
        clear hbs
        by_cases hhit : q = cell
        · have hqc : (q == cell) = true := by simpa using hhit
          have hfac : (⟨s, a, gl⟩ : CS).step cell = ⟨mixI s cell 314159265, cell, gl.set a.toNat cell⟩ := by unfold CS.step; simp only; rw [← HQ.out, hqc]; rfl
          have HF := Lib.hid hfac
          clear hhit hfac
          go_wp2
          all_goals first
            | (refine ⟨nextRel_step l1 l2 HN.out (fun hl => ?_) (HS.out.trans HF.out) rfl rfl HT.out HB.out, by simp [intOf]; omega⟩; have := HL.out.1 hl; rw [HF.out] at this; simp only [mixI] at this; omega)
            | (go_ret; exact ⟨⟨k + 1, by simp, isNext_low l1 l2 HN.out (HL.out.2 ⟨by omega, by rw [HF.out]; assumption⟩)⟩, HB.out⟩)
        · have hqc : (q == cell) = false := by simpa using hhit
          have hfac : (⟨s, a, gl⟩ : CS).step cell = ⟨mixI s cell 271828182, cell, gl.set a.toNat cell⟩ := by unfold CS.step; simp only; rw [← HQ.out, hqc]; rfl
          have HF := Lib.hid hfac
          clear hhit hfac
          go_wp2
          all_goals first
            | (refine ⟨nextRel_step l1 l2 HN.out (fun hl => ?_) (HS.out.trans HF.out) rfl rfl HT.out HB.out, by simp [intOf]; omega⟩; have := HL.out.1 hl; rw [HF.out] at this; simp only [mixI] at this; omega)
            | (go_ret; exact ⟨⟨k + 1, by simp, isNext_low l1 l2 HN.out (HL.out.2 ⟨by omega, by rw [HF.out]; assumption⟩)⟩, HB.out⟩)
      · go_wp2
        go_ret
        exact ⟨⟨k, ret_i64 (by omega), isNext_end hk1 hk2 hlt HN.out⟩, hb⟩
end Go.Proofs.Ytjcaahilgobfhaa
