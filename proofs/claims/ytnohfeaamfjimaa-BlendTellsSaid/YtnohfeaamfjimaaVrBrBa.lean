/- The reference: how a unit begins: what lies where; units without tables. -/
import Derived.Test.YtnohfeaamfjimaaVrBrTk
import Derived.Test.YtnohfeaamfjimaaVrBrRs
import Derived.Test.YtnohfeaamfjimaaVrBlBf
import Derived.StillTailTactics
import Derived.IntWalk
import Derived.Deep.WholeRow
namespace Go.Proofs.Ytnohfeaamfjimaa
open Go.RowKit Go.WideShapes
set_option linter.unusedVariables false
set_option linter.unusedSimpArgs false
/-- A unit of part p as the reference lays it: its sixteen cells. -/
def bgC (p : Pt) (v1 v2 v3 v4 v5 v6 : Value) : Array Value := #[.int .u8 p.k, .int .i64 p.s, .int .i64 p.a, .int .i64 p.b, .int .i64 p.c, .int .i64 p.r, .int .i64 p.l, .int .u32 0, v1, v2, v3, v4, v5, v6, .int .i64 0, .int .i64 0]
theorem bg_info (p : Pt) (v1 v2 v3 v4 v5 v6 : Value) : (Try.prog.info? 74).map (·.size) = some (bgC p v1 v2 v3 v4 v5 v6).size := by
  show _ = some 16
  kernel_rfl
theorem bg_one (p : Pt) (v1 v2 v3 v4 v5 v6 : Value) (h1 : v1.oneCell' = true) (h2 : v2.oneCell' = true) (h3 : v3.oneCell' = true) (h4 : v4.oneCell' = true) (h5 : v5.oneCell' = true) (h6 : v6.oneCell' = true) : (bgC p v1 v2 v3 v4 v5 v6).all (·.oneCell') = true := by
  have e : ∀ (k : IntKind) (x : Int), (Value.int k x).oneCell' = true := fun _ _ => rfl
  simp [bgC, e, h1, h2, h3, h4, h5, h6]
theorem frm_setRow (w : World) (g : Nat) (cs : Array Value) : Frm (fun k => k = g) w (w.setRow g cs) := by
  refine ⟨rfl, rfl, rfl, by simp [World.setRow], fun k hk hn => ?_⟩
  simp only [World.setRow]
  rw [Array.getElem?_modify, if_neg (fun e => hn e.symm)]
theorem blk_setRow {w : World} {g : Nat} {t : TypeId} {cs : Array Value} (h : Blk w g t cs) (c' : Array Value) : Blk (w.setRow g c') g t c' := by
  unfold Blk at h ⊢
  simp only [World.setRow]
  rw [Array.getElem?_modify, if_pos rfl, h]
  rfl
/-- Under way: the part's box, the answer's box, the unit. -/
structure BgW (p : Pt) (w0 w : World) (v1 v2 v3 v4 v5 v6 : Value) : Prop where
  b1 : Blk w w0.heap.size 25 #[.int .u8 p.k, .int .i64 p.s, .int .i64 p.a, .int .i64 p.b, .int .i64 p.c, .int .i64 p.r, .int .i64 p.l]
  b2 : Blk w (w0.heap.size + 1) 74 #[.int .u8 0, .int .i64 0, .int .i64 0, .int .i64 0, .int .i64 0, .int .i64 0, .int .i64 0, .int .u32 0, .slice none 0 0, .slice none 0 0, .slice none 0 0, .slice none 0 0, .slice none 0 0, .slice none 0 0, .int .i64 0, .int .i64 0]
  b3 : Blk w (w0.heap.size + 2) 74 (bgC p v1 v2 v3 v4 v5 v6)
  low : Below w0.heap.size w0 w
  sz : w0.heap.size + 3 ≤ w.heap.size
structure BegR (p : Pt) (w0 : World) (e : Ending) (w : World) : Prop where
  ex : ∃ l : RL, e = .returned (.agg ((beginU p).rc l).toArray) ∧ RU w (beginU p) l ∧ ∀ b, l.has (beginU p) b → w0.heap.size ≤ b ∧ b < w.heap.size
  low : Below w0.heap.size w0 w
theorem BgW.start (p : Pt) (w : World) : BgW p w (((w.alloc (.cells #[.int .u8 p.k, .int .i64 p.s, .int .i64 p.a, .int .i64 p.b, .int .i64 p.c, .int .i64 p.r, .int .i64 p.l] 25)).alloc (.cells #[.int .u8 0, .int .i64 0, .int .i64 0, .int .i64 0, .int .i64 0, .int .i64 0, .int .i64 0, .int .u32 0, .slice none 0 0, .slice none 0 0, .slice none 0 0, .slice none 0 0, .slice none 0 0, .slice none 0 0, .int .i64 0, .int .i64 0] 74)).alloc (.cells (bgC p (.slice none 0 0) (.slice none 0 0) (.slice none 0 0) (.slice none 0 0) (.slice none 0 0) (.slice none 0 0)) 74)) (.slice none 0 0) (.slice none 0 0) (.slice none 0 0) (.slice none 0 0) (.slice none 0 0) (.slice none 0 0) := by
  have s1 : ∀ (W : World) (o : Obj), (W.alloc o).heap.size = W.heap.size + 1 := fun W o => by simp
  refine ⟨((Blk.new w _ _).alloc _).alloc _, ?_, ?_, (((Below.refl _ _).alloc (Nat.le_refl _) _).alloc (by simp) _).alloc (by simp; omega) _, by simp⟩
  · have := (Blk.new (w.alloc (.cells #[.int .u8 p.k, .int .i64 p.s, .int .i64 p.a, .int .i64 p.b, .int .i64 p.c, .int .i64 p.r, .int .i64 p.l] 25)) 74 #[.int .u8 0, .int .i64 0, .int .i64 0, .int .i64 0, .int .i64 0, .int .i64 0, .int .i64 0, .int .u32 0, .slice none 0 0, .slice none 0 0, .slice none 0 0, .slice none 0 0, .slice none 0 0, .slice none 0 0, .int .i64 0, .int .i64 0]).alloc (.cells (bgC p (.slice none 0 0) (.slice none 0 0) (.slice none 0 0) (.slice none 0 0) (.slice none 0 0) (.slice none 0 0)) 74)
    rw [s1] at this
    exact this
  · have := Blk.new ((w.alloc (.cells #[.int .u8 p.k, .int .i64 p.s, .int .i64 p.a, .int .i64 p.b, .int .i64 p.c, .int .i64 p.r, .int .i64 p.l] 25)).alloc (.cells #[.int .u8 0, .int .i64 0, .int .i64 0, .int .i64 0, .int .i64 0, .int .i64 0, .int .i64 0, .int .u32 0, .slice none 0 0, .slice none 0 0, .slice none 0 0, .slice none 0 0, .slice none 0 0, .slice none 0 0, .int .i64 0, .int .i64 0] 74)) 74 (bgC p (.slice none 0 0) (.slice none 0 0) (.slice none 0 0) (.slice none 0 0) (.slice none 0 0) (.slice none 0 0))
    rw [s1, s1] at this
    exact this
section
variable {p : Pt} {w0 w w' : World} {v1 v2 v3 v4 v5 v6 : Value}
theorem BgW.fr {S : Nat → Prop} (h : BgW p w0 w v1 v2 v3 v4 v5 v6) (hf : Frm S w w') (hS : ∀ b, S b → w0.heap.size + 3 ≤ b) : BgW p w0 w' v1 v2 v3 v4 v5 v6 :=
  ⟨h.b1.frm hf (fun hb => by have := hS _ hb; omega), h.b2.frm hf (fun hb => by have := hS _ hb; omega), h.b3.frm hf (fun hb => by have := hS _ hb; omega), h.low.trans (hf.to_below h.low.size (fun b hb => by have := hS _ hb; omega)), Nat.le_trans h.sz hf.size⟩
theorem BgW.kp (h : BgW p w0 w v1 v2 v3 v4 v5 v6) (hb : Below (w0.heap.size + 3) w w') : BgW p w0 w' v1 v2 v3 v4 v5 v6 :=
  h.fr (S := fun b => w0.heap.size + 3 ≤ b) ⟨hb.os, hb.tape, hb.output, hb.size, fun k hk hn => hb.block k (by omega)⟩ (fun _ h => h)
theorem BgW.below (h : BgW p w0 w v1 v2 v3 v4 v5 v6) (hb : Below w.heap.size w w') : BgW p w0 w' v1 v2 v3 v4 v5 v6 := h.kp (hb.mono h.sz)
theorem BgW.c1 (h : BgW p w0 w v1 v2 v3 v4 v5 v6) : w.cell? ⟨w0.heap.size + 2, 8, none⟩ = some v1 := h.b3.cell 8
theorem BgW.f1 (h : BgW p w0 w v1 v2 v3 v4 v5 v6) : w.frozen? ⟨w0.heap.size + 2, 8, none⟩ = false := h.b3.frozen 8
theorem BgW.s1 (h : BgW p w0 w v1 v2 v3 v4 v5 v6) (v : Value) : BgW p w0 (w.setCell ⟨w0.heap.size + 2, 8, none⟩ v) v v2 v3 v4 v5 v6 :=
  ⟨h.b1.far (p := ⟨w0.heap.size + 2, 8, none⟩) (by show w0.heap.size ≠ w0.heap.size + 2; omega) v, h.b2.far (p := ⟨w0.heap.size + 2, 8, none⟩) (by show w0.heap.size + 1 ≠ w0.heap.size + 2; omega) v, h.b3.set 8 v, h.low.setCell (p := ⟨w0.heap.size + 2, 8, none⟩) (by show w0.heap.size ≤ w0.heap.size + 2; omega) v, by have := h.sz; simpa using this⟩
theorem BgW.c2 (h : BgW p w0 w v1 v2 v3 v4 v5 v6) : w.cell? ⟨w0.heap.size + 2, 9, none⟩ = some v2 := h.b3.cell 9
theorem BgW.f2 (h : BgW p w0 w v1 v2 v3 v4 v5 v6) : w.frozen? ⟨w0.heap.size + 2, 9, none⟩ = false := h.b3.frozen 9
theorem BgW.s2 (h : BgW p w0 w v1 v2 v3 v4 v5 v6) (v : Value) : BgW p w0 (w.setCell ⟨w0.heap.size + 2, 9, none⟩ v) v1 v v3 v4 v5 v6 :=
  ⟨h.b1.far (p := ⟨w0.heap.size + 2, 9, none⟩) (by show w0.heap.size ≠ w0.heap.size + 2; omega) v, h.b2.far (p := ⟨w0.heap.size + 2, 9, none⟩) (by show w0.heap.size + 1 ≠ w0.heap.size + 2; omega) v, h.b3.set 9 v, h.low.setCell (p := ⟨w0.heap.size + 2, 9, none⟩) (by show w0.heap.size ≤ w0.heap.size + 2; omega) v, by have := h.sz; simpa using this⟩
theorem BgW.c3 (h : BgW p w0 w v1 v2 v3 v4 v5 v6) : w.cell? ⟨w0.heap.size + 2, 10, none⟩ = some v3 := h.b3.cell 10
theorem BgW.f3 (h : BgW p w0 w v1 v2 v3 v4 v5 v6) : w.frozen? ⟨w0.heap.size + 2, 10, none⟩ = false := h.b3.frozen 10
theorem BgW.s3 (h : BgW p w0 w v1 v2 v3 v4 v5 v6) (v : Value) : BgW p w0 (w.setCell ⟨w0.heap.size + 2, 10, none⟩ v) v1 v2 v v4 v5 v6 :=
  ⟨h.b1.far (p := ⟨w0.heap.size + 2, 10, none⟩) (by show w0.heap.size ≠ w0.heap.size + 2; omega) v, h.b2.far (p := ⟨w0.heap.size + 2, 10, none⟩) (by show w0.heap.size + 1 ≠ w0.heap.size + 2; omega) v, h.b3.set 10 v, h.low.setCell (p := ⟨w0.heap.size + 2, 10, none⟩) (by show w0.heap.size ≤ w0.heap.size + 2; omega) v, by have := h.sz; simpa using this⟩
theorem BgW.c4 (h : BgW p w0 w v1 v2 v3 v4 v5 v6) : w.cell? ⟨w0.heap.size + 2, 11, none⟩ = some v4 := h.b3.cell 11
theorem BgW.f4 (h : BgW p w0 w v1 v2 v3 v4 v5 v6) : w.frozen? ⟨w0.heap.size + 2, 11, none⟩ = false := h.b3.frozen 11
theorem BgW.s4 (h : BgW p w0 w v1 v2 v3 v4 v5 v6) (v : Value) : BgW p w0 (w.setCell ⟨w0.heap.size + 2, 11, none⟩ v) v1 v2 v3 v v5 v6 :=
  ⟨h.b1.far (p := ⟨w0.heap.size + 2, 11, none⟩) (by show w0.heap.size ≠ w0.heap.size + 2; omega) v, h.b2.far (p := ⟨w0.heap.size + 2, 11, none⟩) (by show w0.heap.size + 1 ≠ w0.heap.size + 2; omega) v, h.b3.set 11 v, h.low.setCell (p := ⟨w0.heap.size + 2, 11, none⟩) (by show w0.heap.size ≤ w0.heap.size + 2; omega) v, by have := h.sz; simpa using this⟩
theorem BgW.c5 (h : BgW p w0 w v1 v2 v3 v4 v5 v6) : w.cell? ⟨w0.heap.size + 2, 12, none⟩ = some v5 := h.b3.cell 12
theorem BgW.f5 (h : BgW p w0 w v1 v2 v3 v4 v5 v6) : w.frozen? ⟨w0.heap.size + 2, 12, none⟩ = false := h.b3.frozen 12
theorem BgW.s5 (h : BgW p w0 w v1 v2 v3 v4 v5 v6) (v : Value) : BgW p w0 (w.setCell ⟨w0.heap.size + 2, 12, none⟩ v) v1 v2 v3 v4 v v6 :=
  ⟨h.b1.far (p := ⟨w0.heap.size + 2, 12, none⟩) (by show w0.heap.size ≠ w0.heap.size + 2; omega) v, h.b2.far (p := ⟨w0.heap.size + 2, 12, none⟩) (by show w0.heap.size + 1 ≠ w0.heap.size + 2; omega) v, h.b3.set 12 v, h.low.setCell (p := ⟨w0.heap.size + 2, 12, none⟩) (by show w0.heap.size ≤ w0.heap.size + 2; omega) v, by have := h.sz; simpa using this⟩
theorem BgW.c6 (h : BgW p w0 w v1 v2 v3 v4 v5 v6) : w.cell? ⟨w0.heap.size + 2, 13, none⟩ = some v6 := h.b3.cell 13
theorem BgW.f6 (h : BgW p w0 w v1 v2 v3 v4 v5 v6) : w.frozen? ⟨w0.heap.size + 2, 13, none⟩ = false := h.b3.frozen 13
theorem BgW.s6 (h : BgW p w0 w v1 v2 v3 v4 v5 v6) (v : Value) : BgW p w0 (w.setCell ⟨w0.heap.size + 2, 13, none⟩ v) v1 v2 v3 v4 v5 v :=
  ⟨h.b1.far (p := ⟨w0.heap.size + 2, 13, none⟩) (by show w0.heap.size ≠ w0.heap.size + 2; omega) v, h.b2.far (p := ⟨w0.heap.size + 2, 13, none⟩) (by show w0.heap.size + 1 ≠ w0.heap.size + 2; omega) v, h.b3.set 13 v, h.low.setCell (p := ⟨w0.heap.size + 2, 13, none⟩) (by show w0.heap.size ≤ w0.heap.size + 2; omega) v, by have := h.sz; simpa using this⟩
theorem BgW.fin (h : BgW p w0 w v1 v2 v3 v4 v5 v6) (l : RL) (cs : Array Value) (hrc : ((beginU p).rc l).toArray = cs) (hru : RU w (beginU p) l) (hge : ∀ b, l.has (beginU p) b → w0.heap.size + 3 ≤ b) : BegR p w0 (.returned (.agg cs)) (w.setRow (w0.heap.size + 1) cs) := by
  have hf := frm_setRow w (w0.heap.size + 1) cs
  refine ⟨⟨l, by rw [hrc], hru.frm hf (fun b hb e => by have := hge b hb; omega), fun b hb => ⟨by have := hge b hb; omega, Nat.lt_of_lt_of_le (hru.lt b hb) hf.size⟩⟩, h.low.trans (hf.to_below h.low.size (fun b hb => by omega))⟩
theorem own_s {j : Nat} {u : Value} {n : Nat} {e : TypeId} {size : Nat} {v : Value} {xs : List Value} (h : w.ownsRow (w0.heap.size + 3) e size v n xs) : (w.setCell ⟨w0.heap.size + 2, j, none⟩ u).ownsRow (w0.heap.size + 3) e size v n xs :=
  ((Frm.refl (fun b => b = w0.heap.size + 2) w).setCell (p := ⟨w0.heap.size + 2, j, none⟩) (fun _ => rfl) u).own h (fun b hb e => by have := own_ge h b hb; omega)
theorem row_of_own {base n : Nat} {X : List Int} {v : Value} (h : w.ownsRow base 3 1 v n (ints X)) (hn : 0 < n) : ∃ g c, v = .slice (some ⟨g, 0, none⟩) n c ∧ n ≤ c ∧ base ≤ g ∧ X.length = n ∧ Row w g 3 (ints X) := by
  have hl := h.1
  rw [ints_length, Nat.mul_one] at hl
  rcases h.2 with ⟨_, h0⟩ | ⟨g, cap, cur, hv, hb, hg, hc, _, _, hpre⟩
  · omega
  · refine ⟨g, cap, hv, hc, hb, hl, cur.toList.drop (n * 1), ?_⟩
    rw [← hpre, List.take_append_drop]
    exact hg
theorem ints_rng (f : Nat → Int) (k : Nat) : ints ((List.range (k + 1)).map f) = ints ((List.range k).map f) ++ [.int .i64 (f k)] := by
  rw [List.range_succ, List.map_append, ints_append]
  rfl
theorem rng_const (x : Int) (n : Nat) : (List.range n).map (fun _ => x) = List.replicate n x := by rw [List.map_const', List.length_range]
end
theorem sV_pos {g n c : Nat} (h : 0 < n) : sV g n c = .slice (some ⟨g, 0, none⟩) n c := if_neg (by omega)
set_option maxRecDepth 100000 in
set_option maxHeartbeats 4000000 in
theorem begR_1 (S N : Nat) (a b c r l : Int) (hs2 : S ≤ 16) (hN : 2 ^ S = N) (w : World) :
    Calls Try.prog 34 #[Pt.agg ⟨1, S, a, b, c, r, l⟩] w (BegR ⟨1, S, a, b, c, r, l⟩ w) := by
  unfold Pt.agg
  have hNb : N ≤ 65536 := by rw [← hN]; exact Nat.pow_le_pow_right (show 0 < 2 by omega) hs2
  have hN1 : 1 ≤ N := by rw [← hN]; exact Nat.two_pow_pos S
  have HN := Lib.hid hN
  have HPW := Lib.hid (show ∀ W, Calls Try.prog 52 #[.int .i64 (S : Int)] W (Sam (.int .i64 (N : Int)) W) from fun W => hN ▸ powerR S W (by omega))
  have SI := Lib.hid (bg_info ⟨1, S, a, b, c, r, l⟩ (.slice none 0 0) (.slice none 0 0) (.slice none 0 0) (.slice none 0 0) (.slice none 0 0) (.slice none 0 0))
  have ONE := Lib.hid (bg_one ⟨1, S, a, b, c, r, l⟩ (.slice none 0 0) (.slice none 0 0) (.slice none 0 0) (.slice none 0 0) (.slice none 0 0) (.slice none 0 0) rfl rfl rfl rfl rfl rfl)
  unfold bgC at SI ONE
  clear hN
  go_enter Try.func34, Try.ntmps34
  go_upto_region 2 with (refine wpList_store_row rfl 74 (.tmp 3) (.tmp 12) rfl _ #[.int .u8 1, .int .i64 (S : Int), .int .i64 a, .int .i64 b, .int .i64 c, .int .i64 r, .int .i64 l, .int .u32 0, .slice none 0 0, .slice none 0 0, .slice none 0 0, .slice none 0 0, .slice none 0 0, .slice none 0 0, .int .i64 0, .int .i64 0] rfl rfl 74 _ (heap_alloc_new _ _) SI.out rfl ONE.out ?_; rw [World.setRow_alloc_new]; simp only [Act.put, zzA, zzB, zzC])
  obtain ⟨w1, hw1⟩ : ∃ x, ((w.alloc (.cells #[.int .u8 1, .int .i64 (S : Int), .int .i64 a, .int .i64 b, .int .i64 c, .int .i64 r, .int .i64 l] 25)).alloc (.cells #[.int .u8 0, .int .i64 0, .int .i64 0, .int .i64 0, .int .i64 0, .int .i64 0, .int .i64 0, .int .u32 0, .slice none 0 0, .slice none 0 0, .slice none 0 0, .slice none 0 0, .slice none 0 0, .slice none 0 0, .int .i64 0, .int .i64 0] 74)).alloc (.cells #[.int .u8 1, .int .i64 (S : Int), .int .i64 a, .int .i64 b, .int .i64 c, .int .i64 r, .int .i64 l, .int .u32 0, .slice none 0 0, .slice none 0 0, .slice none 0 0, .slice none 0 0, .slice none 0 0, .slice none 0 0, .int .i64 0, .int .i64 0] 74) = x := ⟨_, rfl⟩
  have hbw : BgW ⟨1, S, a, b, c, r, l⟩ w w1 (.slice none 0 0) (.slice none 0 0) (.slice none 0 0) (.slice none 0 0) (.slice none 0 0) (.slice none 0 0) := by
    rw [← hw1]
    exact BgW.start ⟨1, S, a, b, c, r, l⟩ w
  try rw [hw1]
  have HBW := Lib.hid hbw
  have d0 : w1.cell? ⟨w.heap.size, 0, none⟩ = some (.int .u8 1) := hbw.b1.cell 0
  have d1 : w1.cell? ⟨w.heap.size, 1, none⟩ = some (.int .i64 (S : Int)) := hbw.b1.cell 1
  have d3 : w1.cell? ⟨w.heap.size, 3, none⟩ = some (.int .i64 b) := hbw.b1.cell 3
  clear hw1 hbw SI ONE
  go_wp2_with fail
  refine (HPW.out _).mono ?_
  rintro e w2 ⟨rfl, hs1⟩
  rw [hs1]
  clear hs1 w2
  go_upto_region 38 with fail
  obtain ⟨cs, hcs⟩ : ∃ x, bgC ⟨1, S, a, b, c, r, l⟩ (.slice none 0 0) (.slice none 0 0) (.slice none 0 0) (.slice none 0 0) (.slice none 0 0) (.slice none 0 0) = x := ⟨_, rfl⟩
  have HB3 := Lib.hid (show Blk w1 (w.heap.size + 2) 74 cs from hcs ▸ HBW.out.b3)
  have HB2 := Lib.hid HBW.out.b2
  have HSI := Lib.hid (show (Try.prog.info? 74).map (·.size) = some cs.size from hcs ▸ bg_info ⟨1, S, a, b, c, r, l⟩ (.slice none 0 0) (.slice none 0 0) (.slice none 0 0) (.slice none 0 0) (.slice none 0 0) (.slice none 0 0))
  have HON := Lib.hid (show cs.all (·.oneCell') = true from hcs ▸ bg_one ⟨1, S, a, b, c, r, l⟩ (.slice none 0 0) (.slice none 0 0) (.slice none 0 0) (.slice none 0 0) (.slice none 0 0) (.slice none 0 0) rfl rfl rfl rfl rfl rfl)
  have HSZ := Lib.hid (show (#[.int .u8 0, .int .i64 0, .int .i64 0, .int .i64 0, .int .i64 0, .int .i64 0, .int .i64 0, .int .u32 0, .slice none 0 0, .slice none 0 0, .slice none 0 0, .slice none 0 0, .slice none 0 0, .slice none 0 0, .int .i64 0, .int .i64 0] : Array Value).size = cs.size from hcs ▸ rfl)
  have HFIN := Lib.hid (HBW.out.fin ⟨0, 0, 0, 0, 0, 0, 0, 0, 0⟩ cs ((rfl).trans hcs) (RU.mk15 (.inl rfl)) (fun b hb => by rcases hb with ⟨k, _⟩ | ⟨k, _⟩ | ⟨k, _⟩ | ⟨k, _⟩ | ⟨k, _⟩ | ⟨k, _⟩ <;> exact absurd rfl k))
  clear hcs
  go_wp2_with (first
    | (refine wpList_load_row rfl 74 (.tmp 3) rfl (w.heap.size + 2) rfl 74 cs _ _ HB3.out Try.underlying74 rfl HSI.out ?_)
    | (refine wpList_store_row rfl 74 (.tmp 2) (.tmp 128) rfl (w.heap.size + 1) cs rfl rfl 74 _ HB2.out HSI.out HSZ.out HON.out ?_))
  exact bodyPost_ret (v := .agg cs) (results_cell_row rfl _ _ (w.heap.size + 1) 74 cs _ _ rfl (blk_setRow HB2.out cs) Try.underlying74 rfl HSI.out) rfl HFIN.out
set_option maxRecDepth 100000 in
set_option maxHeartbeats 4000000 in
theorem begR_5 (S N : Nat) (a b c r l : Int) (hs2 : S ≤ 16) (hN : 2 ^ S = N) (w : World) :
    Calls Try.prog 34 #[Pt.agg ⟨5, S, a, b, c, r, l⟩] w (BegR ⟨5, S, a, b, c, r, l⟩ w) := by
  unfold Pt.agg
  have hNb : N ≤ 65536 := by rw [← hN]; exact Nat.pow_le_pow_right (show 0 < 2 by omega) hs2
  have hN1 : 1 ≤ N := by rw [← hN]; exact Nat.two_pow_pos S
  have HN := Lib.hid hN
  have HPW := Lib.hid (show ∀ W, Calls Try.prog 52 #[.int .i64 (S : Int)] W (Sam (.int .i64 (N : Int)) W) from fun W => hN ▸ powerR S W (by omega))
  have SI := Lib.hid (bg_info ⟨5, S, a, b, c, r, l⟩ (.slice none 0 0) (.slice none 0 0) (.slice none 0 0) (.slice none 0 0) (.slice none 0 0) (.slice none 0 0))
  have ONE := Lib.hid (bg_one ⟨5, S, a, b, c, r, l⟩ (.slice none 0 0) (.slice none 0 0) (.slice none 0 0) (.slice none 0 0) (.slice none 0 0) (.slice none 0 0) rfl rfl rfl rfl rfl rfl)
  unfold bgC at SI ONE
  clear hN
  go_enter Try.func34, Try.ntmps34
  go_upto_region 2 with (refine wpList_store_row rfl 74 (.tmp 3) (.tmp 12) rfl _ #[.int .u8 5, .int .i64 (S : Int), .int .i64 a, .int .i64 b, .int .i64 c, .int .i64 r, .int .i64 l, .int .u32 0, .slice none 0 0, .slice none 0 0, .slice none 0 0, .slice none 0 0, .slice none 0 0, .slice none 0 0, .int .i64 0, .int .i64 0] rfl rfl 74 _ (heap_alloc_new _ _) SI.out rfl ONE.out ?_; rw [World.setRow_alloc_new]; simp only [Act.put, zzA, zzB, zzC])
  obtain ⟨w1, hw1⟩ : ∃ x, ((w.alloc (.cells #[.int .u8 5, .int .i64 (S : Int), .int .i64 a, .int .i64 b, .int .i64 c, .int .i64 r, .int .i64 l] 25)).alloc (.cells #[.int .u8 0, .int .i64 0, .int .i64 0, .int .i64 0, .int .i64 0, .int .i64 0, .int .i64 0, .int .u32 0, .slice none 0 0, .slice none 0 0, .slice none 0 0, .slice none 0 0, .slice none 0 0, .slice none 0 0, .int .i64 0, .int .i64 0] 74)).alloc (.cells #[.int .u8 5, .int .i64 (S : Int), .int .i64 a, .int .i64 b, .int .i64 c, .int .i64 r, .int .i64 l, .int .u32 0, .slice none 0 0, .slice none 0 0, .slice none 0 0, .slice none 0 0, .slice none 0 0, .slice none 0 0, .int .i64 0, .int .i64 0] 74) = x := ⟨_, rfl⟩
  have hbw : BgW ⟨5, S, a, b, c, r, l⟩ w w1 (.slice none 0 0) (.slice none 0 0) (.slice none 0 0) (.slice none 0 0) (.slice none 0 0) (.slice none 0 0) := by
    rw [← hw1]
    exact BgW.start ⟨5, S, a, b, c, r, l⟩ w
  try rw [hw1]
  have HBW := Lib.hid hbw
  have d0 : w1.cell? ⟨w.heap.size, 0, none⟩ = some (.int .u8 5) := hbw.b1.cell 0
  have d1 : w1.cell? ⟨w.heap.size, 1, none⟩ = some (.int .i64 (S : Int)) := hbw.b1.cell 1
  have d3 : w1.cell? ⟨w.heap.size, 3, none⟩ = some (.int .i64 b) := hbw.b1.cell 3
  clear hw1 hbw SI ONE
  go_wp2_with fail
  refine (HPW.out _).mono ?_
  rintro e w2 ⟨rfl, hs1⟩
  rw [hs1]
  clear hs1 w2
  go_upto_region 38 with fail
  obtain ⟨cs, hcs⟩ : ∃ x, bgC ⟨5, S, a, b, c, r, l⟩ (.slice none 0 0) (.slice none 0 0) (.slice none 0 0) (.slice none 0 0) (.slice none 0 0) (.slice none 0 0) = x := ⟨_, rfl⟩
  have HB3 := Lib.hid (show Blk w1 (w.heap.size + 2) 74 cs from hcs ▸ HBW.out.b3)
  have HB2 := Lib.hid HBW.out.b2
  have HSI := Lib.hid (show (Try.prog.info? 74).map (·.size) = some cs.size from hcs ▸ bg_info ⟨5, S, a, b, c, r, l⟩ (.slice none 0 0) (.slice none 0 0) (.slice none 0 0) (.slice none 0 0) (.slice none 0 0) (.slice none 0 0))
  have HON := Lib.hid (show cs.all (·.oneCell') = true from hcs ▸ bg_one ⟨5, S, a, b, c, r, l⟩ (.slice none 0 0) (.slice none 0 0) (.slice none 0 0) (.slice none 0 0) (.slice none 0 0) (.slice none 0 0) rfl rfl rfl rfl rfl rfl)
  have HSZ := Lib.hid (show (#[.int .u8 0, .int .i64 0, .int .i64 0, .int .i64 0, .int .i64 0, .int .i64 0, .int .i64 0, .int .u32 0, .slice none 0 0, .slice none 0 0, .slice none 0 0, .slice none 0 0, .slice none 0 0, .slice none 0 0, .int .i64 0, .int .i64 0] : Array Value).size = cs.size from hcs ▸ rfl)
  have HFIN := Lib.hid (HBW.out.fin ⟨0, 0, 0, 0, 0, 0, 0, 0, 0⟩ cs ((rfl).trans hcs) (RU.mk15 (.inr rfl)) (fun b hb => by rcases hb with ⟨k, _⟩ | ⟨k, _⟩ | ⟨k, _⟩ | ⟨k, _⟩ | ⟨k, _⟩ | ⟨k, _⟩ <;> exact absurd rfl k))
  clear hcs
  go_wp2_with (first
    | (refine wpList_load_row rfl 74 (.tmp 3) rfl (w.heap.size + 2) rfl 74 cs _ _ HB3.out Try.underlying74 rfl HSI.out ?_)
    | (refine wpList_store_row rfl 74 (.tmp 2) (.tmp 128) rfl (w.heap.size + 1) cs rfl rfl 74 _ HB2.out HSI.out HSZ.out HON.out ?_))
  exact bodyPost_ret (v := .agg cs) (results_cell_row rfl _ _ (w.heap.size + 1) 74 cs _ _ rfl (blk_setRow HB2.out cs) Try.underlying74 rfl HSI.out) rfl HFIN.out
end Go.Proofs.Ytnohfeaamfjimaa
