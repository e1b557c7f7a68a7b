/- The chapter's examples of parts: the walk. No condition. -/
import Derived.Test.YtaiekpdoljleeaaPaCopy
namespace Go.Proofs.Ytaiekpdoljleeaa
open Go.RowKit Go.WideShapes
set_option linter.unusedVariables false
theorem rd_new (w : World) (us : Array Value) (e : TypeId) : Rd (w.alloc (.cells us e)) (some ⟨w.heap.size, 0, none⟩) us.toList := fun _ => by
  refine ⟨_, 0, rfl, by simp, fun i y hy => ?_⟩
  rw [Nat.zero_add, cell_of_row _ _ _ _ _ _ (heap_alloc_new _ _)]
  simpa using hy
theorem Rd.far {w : World} {b o : Nat} {xs : List Value} (h : Rd w (some ⟨b, o, none⟩) xs) {p : Addr} (hp : p.block ≠ b) (u : Value) : Rd (w.setCell p u) (some ⟨b, o, none⟩) xs := fun hn => by
  obtain ⟨b', o', e, hlt, hc⟩ := h hn
  injection e with e
  injection e with e1 e2
  subst e1 e2
  exact ⟨b, o, rfl, by simpa [World.setCell] using hlt, fun i u' hu => (World.cell?_setCell_other w _ _ u (fun e => hp (by rw [e]))).trans (hc i u' hu)⟩
/-- A row's block, known whole. -/
theorem own_blk {w : World} {base n g : Nat} {e : TypeId} {size c : Nat} {xs : List Value} (h : w.ownsRow base e size (.slice (some ⟨g, 0, none⟩) n c) n xs) : ∃ cur, Blk w g e cur ∧ cur.toList.take (n * size) = xs ∧ base ≤ g := by
  rcases h.2 with ⟨h0, _⟩ | ⟨g', cap, cur, hv, hb, hg, _, _, _, ht⟩
  · cases h0
  · injection hv with hv _ _
    injection hv with hv
    injection hv with hv _ _
    subst hv
    exact ⟨cur, hg, ht, hb⟩
theorem rd_set {w : World} {base n g k : Nat} {e : TypeId} {size c : Nat} {xs : List Value} (h : w.ownsRow base e size (.slice (some ⟨g, 0, none⟩) n c) n xs) (hk : k < xs.length) (u : Value) : Rd (w.setCell ⟨g, k, none⟩ u) (some ⟨g, 0, none⟩) (xs.set k u) := fun _ => by
  obtain ⟨cur, hb, ht, _⟩ := own_blk h
  refine ⟨g, 0, rfl, (hb.set k u).lt, fun i y hy => ?_⟩
  rw [Nat.zero_add, (hb.set k u).cell]
  have hl := h.1
  have hks : k < cur.size := by
    rw [← ht, List.length_take] at hk
    simp at hk
    omega
  by_cases hik : k = i
  · subst hik
    rw [List.getElem?_set_self (by exact hk)] at hy
    rw [Array.getElem?_setIfInBounds_self_of_lt hks]
    exact hy
  · rw [List.getElem?_set_ne hik] at hy
    rw [Array.getElem?_setIfInBounds_ne hik]
    rw [← ht, List.getElem?_take] at hy
    split at hy
    · simpa using hy
    · cases hy
theorem rightLit (ts : List Pt) (w : World) (us : Array Value) (n : Nat) (h : us.toList = flat_pts ts) (hn : n = ts.length) (hok : ∀ t ∈ ts, t.ok) (hl : n ≤ 5000) (g0 : Nat) (hg : g0 = w.heap.size) : Calls Try.prog 12 #[.slice (some ⟨g0, 0, none⟩) n n] (w.alloc (.cells us 32)) (Quiet (.int .i64 (rightP ts)) (w.alloc (.cells us 32))) :=
  rightList ts _ n n _ hn hok (by rw [← h, hg]; exact rd_new w us 32) hl
def exL : List Pt := [⟨2, 8, 0, 0, 0, 0, 255⟩, ⟨7, 4, 0, 1, 0, 8, 0⟩]
def exBad : List Pt := [⟨2, 8, 0, 0, 0, 0, 255⟩, ⟨7, 4, 0, 2, 0, 8, 0⟩]
def exC : List Pt := [⟨1, 0, 0, 0, 5, 0, 0⟩]
def exA : List Pt := [⟨5, 0, 0, 0, 0, 0, 0⟩]
theorem right_exC : rightP exC = 0 := by decide +kernel
theorem right_exA : rightP exA = 100 := by decide +kernel
theorem right_exL : rightP exL = 0 := by decide +kernel
theorem right_exBad : rightP exBad = 100 := by decide +kernel
theorem right_nil : rightP [] = 100 := by decide +kernel
theorem mem_exL : memP exL = 272 := by decide +kernel
theorem pl_ex : placesP 9 3 0 = 256 := by decide +kernel
theorem ok_lit (l : List Pt) (h : l.all (fun t => decide (0 ≤ t.k) && decide (t.k ≤ 255) && decide (-1000000 ≤ t.s) && decide (t.s ≤ 1000000) && decide (-1000000 ≤ t.a) && decide (t.a ≤ 1000000) && decide (-1000000 ≤ t.b) && decide (t.b ≤ 1000000) && decide (-1000000 ≤ t.c) && decide (t.c ≤ 1000000) && decide (-1000000 ≤ t.r) && decide (t.r ≤ 1000000) && decide (-1000000 ≤ t.l) && decide (t.l ≤ 1000000)) = true) : ∀ t ∈ l, t.ok := fun t ht => by
  have := (List.all_eq_true.1 h) t ht
  simp only [Bool.and_eq_true, decide_eq_true_eq] at this
  constructor <;> omega
set_option maxRecDepth 100000 in
set_option maxHeartbeats 4000000 in
theorem awake_any (w : World) : Calls Try.prog 10 #[] w (Quiet (.bool true) w) := by
  go_enter Try.func10, Try.ntmps10
  go_wp2_with fail
  refine (copy_any exL (some ⟨w.heap.size, 0, none⟩) 2 2 _ rfl (rd_new w _ 32) (by omega)).mono ?_
  rintro e w1 ⟨⟨A1, c1, rfl, hc1, o1⟩, hb1⟩
  obtain ⟨g, cap, hv, hbg, hlt⟩ := o1.form (by omega)
  injection hv with hA _ _
  subst hA
  obtain ⟨cur, hblk, htk, hge⟩ := own_blk o1
  have hcs : 10 < cur.size := by
    have h := congrArg List.length htk
    rw [flat_pts_length, List.length_take] at h
    simp at h
    have : exL.length = 2 := rfl
    omega
  have f10 := hblk.frozen 10
  have c10 := hblk.cell 10
  rw [Array.getElem?_eq_getElem hcs] at c10
  generalize cur[10] = u10 at c10
  have HL := Lib.hid ((rd_new w (flat_pts exL).toArray 32).below hb1 rfl)
  rw [show (flat_pts exL).toArray.toList = flat_pts exL from rfl] at HL
  have hgw : g ≠ w.heap.size := by
    have := hbg
    rw [World.size_alloc] at this
    omega
  have HL2 := Lib.hid (HL.out.far (p := ⟨g, 10, none⟩) hgw (.int .i64 2))
  have HB2 := Lib.hid (rd_set o1 (k := 10) (by rw [flat_pts_length]; decide) (.int .i64 2))
  have e2 : (flat_pts exL).set 10 (.int .i64 2) = flat_pts exBad := rfl
  rw [e2] at HB2
  have B1 : Below w.heap.size w w1 := ((Below.refl w.heap.size w).alloc (Nat.le_refl _) _).trans (hb1.mono (by rw [World.size_alloc]; omega))
  have B2 := Lib.hid (B1.setCell (p := ⟨g, 10, none⟩) (by rw [World.size_alloc] at hbg; show w.heap.size ≤ g; omega) (.int .i64 2))
  have okC := ok_lit exC (by decide)
  have okA := ok_lit exA (by decide)
  have okL := ok_lit exL (by decide)
  have okB := ok_lit exBad (by decide)
  have KC := Lib.hid okC
  have KA := Lib.hid okA
  have KL := Lib.hid okL
  have KB := Lib.hid okB
  clear okC okA okL okB o1 hb1 hblk htk hge hcs HL e2 B1
  go_wp2_with fail
  refine (rightLit exC _ #[.int .u8 1, .int .i64 0, .int .i64 0, .int .i64 0, .int .i64 5, .int .i64 0, .int .i64 0] 1 rfl rfl KC.out (by omega) _ (by simp)).mono ?_
  rw [right_exC]
  rintro e w3 ⟨rfl, hb3⟩
  have B3 := Lib.hid (ch1 B2.out hb3)
  have L3 := Lib.hid ((HL2.out.alloc _).below hb3 rfl)
  have A3 := Lib.hid ((HB2.out.alloc _).below hb3 rfl)
  clear hb3
  go_wp2_with fail
  refine (rightLit exA _ #[.int .u8 5, .int .i64 0, .int .i64 0, .int .i64 0, .int .i64 0, .int .i64 0, .int .i64 0] 1 rfl rfl KA.out (by omega) _ (by simp)).mono ?_
  rw [right_exA]
  rintro e w4 ⟨rfl, hb4⟩
  have B4 := Lib.hid (ch1 B3.out hb4)
  have L4 := Lib.hid ((L3.out.alloc _).below hb4 rfl)
  have A4 := Lib.hid ((A3.out.alloc _).below hb4 rfl)
  clear hb4
  go_wp2_with fail
  refine (rightList exL _ 2 2 _ rfl KL.out L4.out (by omega)).mono ?_
  rw [right_exL]
  rintro e w5 ⟨rfl, hb5⟩
  have B5 := Lib.hid (ch0 B4.out hb5)
  have L5 := Lib.hid (L4.out.below hb5 rfl)
  have A5 := Lib.hid (A4.out.below hb5 rfl)
  clear hb5
  go_wp2_with fail
  refine (memory_any exL _ 2 2 _ rfl KL.out L5.out (by omega)).mono ?_
  rw [mem_exL]
  rintro e w6 ⟨rfl, hb6⟩
  have B6 := Lib.hid (ch0 B5.out hb6)
  have A6 := Lib.hid (A5.out.below hb6 rfl)
  clear hb6
  go_wp2_with fail
  refine (rightList exBad _ 2 _ _ rfl KB.out A6.out (by omega)).mono ?_
  rw [right_exBad]
  rintro e w7 ⟨rfl, hb7⟩
  have B7 := Lib.hid (ch0 B6.out hb7)
  clear hb7
  go_wp2_with fail
  refine (rightList [] none 0 0 _ rfl (by intro t ht; cases ht) (Rd.nil _ _) (by omega)).mono ?_
  rw [right_nil]
  rintro e w8 ⟨rfl, hb8⟩
  have B8 := Lib.hid (ch0 B7.out hb8)
  clear hb8
  go_wp2_with fail
  refine (places_any ⟨9, 3, 0, 0, 0, 0, 0⟩ _ (by decide) (by decide)).mono ?_
  rw [show placesP (Pt.k ⟨9, 3, 0, 0, 0, 0, 0⟩) (Pt.s ⟨9, 3, 0, 0, 0, 0, 0⟩) (Pt.b ⟨9, 3, 0, 0, 0, 0, 0⟩) = 256 from pl_ex]
  rintro e w9 ⟨rfl, hb9⟩
  go_wp2_with fail
  go_ret
  exact ⟨rfl, ch0 B8.out hb9⟩
end Go.Proofs.Ytaiekpdoljleeaa
