/- The index: a law's piece, awake. -/
import Derived.Test.YtjcaahilgobfhaaIxCu
namespace Go.Proofs.Ytjcaahilgobfhaa
open Go.RowKit Go.WideShapes Go.Maps
set_option linter.unusedVariables false
set_option linter.unusedSimpArgs false
def pieceP (n : Nat) : Pc := ⟨[(n : Int) % 256, (n : Int) / 256, 0, 0, 0, 0, 0, 0, 0, 0, 0, 0, 0, 0, 0, 0, 0, 0, 0, 0], 64, 1 + (n : Int) % 9, (n : Int) % 100⟩
theorem pieceP_ok (n : Nat) (hn : n < 65536) : (pieceP n).ok := ⟨⟨rfl, fun x hx => by
  simp [pieceP] at hx
  rcases hx with rfl | rfl | rfl <;> omega⟩⟩
theorem pieceP_right (n : Nat) : rightP (pieceP n).s (pieceP n).b (pieceP n).a = true := by
  have h1 : decide ((1 : Int) ≤ 1 + (n : Int) % 9) = true := by simp; omega
  have h2 : decide ((1 : Int) + (n : Int) % 9 ≤ 1048576) = true := by simp; omega
  have h3 : decide ((0 : Int) ≤ (n : Int) % 100) = true := by simp; omega
  have h4 : decide ((n : Int) % 100 ≤ 65536 - 64) = true := by simp; omega
  unfold rightP pieceP
  simp only
  rw [h1, h2, h3, h4]
  rfl
theorem pieceP_inj {a b : Nat} (ha : a < 65536) (hb : b < 65536) (h : (pieceP a).h = (pieceP b).h) : a = b := by
  simp [pieceP] at h
  omega
set_option maxHeartbeats 1000000 in
theorem piece_any (n : Nat) (w : World) (hn : n < 65536) : Calls Try.prog 21 #[.int .i64 (n : Int)] w (Quiet (pieceP n).agg w) := by
  have hs : (Try.prog.info? 39).map (·.size) = some (pieceP n).cells.toArray.size := by rw [List.size_toArray, Pc.cells_length (pieceP_ok n hn)]; exact size39
  have hzz : (23 : Nat) = (pieceP n).cells.toArray.size := by rw [List.size_toArray]; exact (Pc.cells_length (pieceP_ok n hn)).symm
  have hone : (pieceP n).cells.toArray.all (·.oneCell') = true := by
    rw [Array.all_eq_true]
    intro i hi'
    exact Pc.cells_one (pieceP n) _ (show (pieceP n).cells.toArray[i] ∈ (pieceP n).cells by simp)
  have k2 := Blk.new w 39 (pieceP n).cells.toArray
  have hb := (Below.refl w.heap.size w).alloc (Nat.le_refl _) (.cells (pieceP n).cells.toArray 39)
  have HS := Lib.hid hs
  have HZ := Lib.hid hzz
  have HO := Lib.hid hone
  have K2 := Lib.hid k2
  have HB := Lib.hid hb
  clear hs hzz hone k2 hb
  go_enter Try.func21, Try.ntmps21
  go_wp2_with (refine wpList_store_row rfl 39 (.tmp 2) (.tmp 14) rfl w.heap.size (pieceP n).cells.toArray rfl rfl 39 _ (heap_alloc_new _ _) HS.out HZ.out HO.out ?_; rw [World.setRow_alloc_new])
  exact bodyPost_ret (v := (pieceP n).agg) (results_cell_row rfl _ _ w.heap.size 39 _ _ _ rfl K2.out Try.underlying39 rfl HS.out) rfl ⟨rfl, HB.out⟩
def zeroP : Pc := ⟨List.replicate 20 0, 0, 0, 0⟩
theorem zeroP_ok : zeroP.ok := ⟨⟨rfl, fun x hx => by simp [zeroP] at hx; omega⟩⟩
theorem zeroP_agg : zeroP.agg = .agg #[.int .u8 0, .int .u8 0, .int .u8 0, .int .u8 0, .int .u8 0, .int .u8 0, .int .u8 0, .int .u8 0, .int .u8 0, .int .u8 0, .int .u8 0, .int .u8 0, .int .u8 0, .int .u8 0, .int .u8 0, .int .u8 0, .int .u8 0, .int .u8 0, .int .u8 0, .int .u8 0, .int .i64 0, .int .i64 0, .int .i64 0] := rfl
theorem zeroP_right : rightP zeroP.s zeroP.b zeroP.a = false := rfl
theorem add_zero {B g mb n : Nat} {l : List Pc} {v : Value} (w : World) (hi : Idx B w g mb n l v) :
    Calls Try.prog 20 #[.pointer (some ⟨g, 0, none⟩), .agg #[.int .u8 0, .int .u8 0, .int .u8 0, .int .u8 0, .int .u8 0, .int .u8 0, .int .u8 0, .int .u8 0, .int .u8 0, .int .u8 0, .int .u8 0, .int .u8 0, .int .u8 0, .int .u8 0, .int .u8 0, .int .u8 0, .int .u8 0, .int .u8 0, .int .u8 0, .int .u8 0, .int .i64 0, .int .i64 0, .int .i64 0]] w (Quiet (.tuple #[.int .i64 0, .bool false, .int .i64 2]) w) := by
  rw [← zeroP_agg]
  exact add_wrong zeroP w hi zeroP_ok zeroP_right
theorem field_hash (p : Pc) (hp : p.ok) (W : World) : (Instr.field 39 p.agg 0).run Try.prog W = .ok (.agg (hashV p.h).toArray) W := by
  have he : p.cells.take 20 = hashV p.h := by
    have hl : (hashV p.h).length = 20 := by rw [hashV_length, hp.h.len]
    unfold Pc.cells
    rw [List.take_left' hl]
  have hag : (isAgg 37).run Try.prog W = .ok true W := by
    unfold isAgg
    rw [Sem.run_bind, run_underlying Try.underlying37 W]
    rfl
  unfold Pc.agg
  cases hq : Try.prog.info? 37 with
  | none => have := size37; simp [hq] at this
  | some i =>
    have hs : i.size = 20 := by have := size37; simpa [hq] using this
    simp [Instr.field, run_underlying Try.underlying39, part, hag, sizeOf, typeInfo, hq, hs, he, asAgg]
structure AddB (B g mb n : Nat) (l : List Pc) (r : Value) (w0 : World) (e : Ending) (w : World) : Prop where
  ret : e = .returned r
  ex : ∃ v', Idx B w g mb n l v'
  low : Below B w0 w
theorem add_newB {B g mb n : Nat} {l : List Pc} {v : Value} (p : Pc) (w : World) (hi : Idx B w g mb n l v) (hp : p.ok) (hr : rightP p.s p.b p.a = true) (hf : findP l p.h = none) (hlen : l.length < 8192) (hn : n < 99999) :
    Calls Try.prog 20 #[.pointer (some ⟨g, 0, none⟩), p.agg] w (AddB B g mb (n + 1) (l ++ [p]) (.tuple #[.int .i64 ((l.length : Int) + 1), .bool true, .int .i64 0]) w) :=
  (add_new p w hi hp hr hf hlen hn hi.blk.lt).mono fun e w' ⟨h1, ⟨v', h2, _⟩, h3⟩ => ⟨h1, ⟨v', h2⟩, h3.to_below (by have := hi.ge; have := hi.blk.lt; omega) fun k hk => by
    rcases hk with rfl | rfl | hk
    · exact hi.ge
    · exact hi.gm
    · exact (hi.own.lt k hk).1⟩
theorem cut_anyB {B g mb n : Nat} {l : List Pc} {v : Value} (k : Nat) (w : World) (hi : Idx B w g mb n l v) (nd : (l.map Pc.h).Nodup) (hk : k ≤ l.length) (hm : l.length ≤ 8192) :
    Calls Try.prog 22 #[.pointer (some ⟨g, 0, none⟩), .int .i64 (k : Int)] w (AddB B g mb n (l.take k) (.int .i64 0) w) :=
  (cut_any k w hi nd hk hm).mono fun e w' ⟨h1, ⟨v', h2, _⟩, h3⟩ => ⟨h1, ⟨v', h2⟩, h3.to_below (by have := hi.ge; have := hi.blk.lt; omega) fun k hk => by
    rcases hk with rfl | rfl
    · exact hi.ge
    · exact hi.gm⟩
theorem len_any {B g mb n : Nat} {l : List Pc} {v : Value} (w : World) (hi : Idx B w g mb n l v) : Calls Try.prog 23 #[.pointer (some ⟨g, 0, none⟩)] w (Same (.int .i64 l.length) w) := by
  obtain ⟨A, c, rfl, _⟩ := hi.own.slice
  exact len_made g mb A l.length c w hi.blk
set_option maxHeartbeats 4000000 in
set_option maxRecDepth 100000 in
theorem awake_any (w : World) : Calls Try.prog 24 #[] w (Quiet (.bool true) w) := by
  have hp1 := fun W => piece_any 1 W (by omega)
  have hp2 := fun W => piece_any 2 W (by omega)
  have o1 := pieceP_ok 1 (by omega)
  have o2 := pieceP_ok 2 (by omega)
  have r1 := pieceP_right 1
  have r2 := pieceP_right 2
  have f1 : findP [] (pieceP 1).h = none := rfl
  have f2 : findP [pieceP 1] (pieceP 2).h = none := by decide
  have f3 : findP [pieceP 1, pieceP 2] (pieceP 1).h = some 1 := by decide
  have nd : ([pieceP 1, pieceP 2].map Pc.h).Nodup := by decide
  have hfd := fun W => field_hash (pieceP 2) o2 W
  generalize pieceP 1 = P1 at *
  generalize pieceP 2 = P2 at *
  have HP1 := Lib.hid hp1
  have HP2 := Lib.hid hp2
  have O1 := Lib.hid o1
  have O2 := Lib.hid o2
  have R1 := Lib.hid r1
  have R2 := Lib.hid r2
  have F1 := Lib.hid f1
  have F2 := Lib.hid f2
  have F3 := Lib.hid f3
  have ND := Lib.hid nd
  clear hp1 hp2 o1 o2 r1 r2 f1 f2 f3 nd
  go_enter Try.func24, Try.ntmps24
  go_wp2_with fail
  refine (newIx_any w).mono ?_
  rintro e w1 ⟨⟨g, mb, rfl, hi, hg⟩, hb1⟩
  have HI1 := Lib.hid hi
  have HB1 := Lib.hid hb1
  clear hi hb1 hg
  go_wp2_with fail
  refine (HP1.out w1).mono ?_
  rintro e wp1 ⟨rfl, hbp⟩
  have HIp1 := Lib.hid (HI1.out.below hbp)
  have HBp1 := Lib.hid (HB1.out.trans (hbp.mono HB1.out.size))
  clear hbp
  go_wp2_with fail
  refine (add_newB P1 wp1 HIp1.out O1.out R1.out F1.out (by simp) (by omega)).mono ?_
  rintro e w2 ⟨rfl, ⟨v2, hi2⟩, hb2⟩
  have HI2 := Lib.hid (show Idx w.heap.size w2 g mb 1 [P1] v2 from hi2)
  have HB2 := Lib.hid (HBp1.out.trans hb2)
  clear hi2 hb2
  go_wp2_with fail
  refine (HP2.out w2).mono ?_
  rintro e wp2 ⟨rfl, hbp⟩
  have HIp2 := Lib.hid (HI2.out.below hbp)
  have HBp2 := Lib.hid (HB2.out.trans (hbp.mono HB2.out.size))
  clear hbp
  go_wp2_with fail
  refine (add_newB P2 wp2 HIp2.out O2.out R2.out F2.out (by simp) (by omega)).mono ?_
  rintro e w3 ⟨rfl, ⟨v3, hi3⟩, hb3⟩
  have HI3 := Lib.hid (show Idx w.heap.size w3 g mb 2 [P1, P2] v3 from hi3)
  have HB3 := Lib.hid (HBp2.out.trans hb3)
  clear hi3 hb3
  go_wp2_with fail
  refine (HP1.out w3).mono ?_
  rintro e wp3 ⟨rfl, hbp⟩
  have HIp3 := Lib.hid (HI3.out.below hbp)
  have HBp3 := Lib.hid (HB3.out.trans (hbp.mono HB3.out.size))
  clear hbp
  go_wp2_with fail
  refine (add_there P1 wp3 HIp3.out O1.out R1.out 1 F3.out).mono ?_
  rintro e w4 ⟨rfl, hb4⟩
  have HI4 := Lib.hid (HIp3.out.below hb4)
  have HB4 := Lib.hid (HBp3.out.trans (hb4.mono HBp3.out.size))
  clear hb4
  go_wp2_with fail
  refine (cut_anyB 1 w4 HI4.out ND.out (by simp) (by simp)).mono ?_
  rintro e w5 ⟨rfl, ⟨v5, hi5⟩, hb5⟩
  have HI5 := Lib.hid (show Idx w.heap.size w5 g mb 2 [P1] v5 from hi5)
  have HB5 := Lib.hid (HB4.out.trans hb5)
  clear hi5 hb5
  go_wp2_with fail
  refine (HP2.out w5).mono ?_
  rintro e wp5 ⟨rfl, hbp⟩
  have HIp5 := Lib.hid (HI5.out.below hbp)
  have HBp5 := Lib.hid (HB5.out.trans (hbp.mono HB5.out.size))
  clear hbp
  go_wp2_with fail
  refine (find_any P2.h wp5 HIp5.out O2.out.h).mono ?_
  rintro e w6 ⟨rfl, hb6⟩
  rw [F2.out]
  have HI6 := Lib.hid (HIp5.out.below hb6)
  have HB6 := Lib.hid (HBp5.out.trans (hb6.mono HBp5.out.size))
  clear hb6
  simp only [Option.getD_none, Option.isSome_none]
  go_wp2_with fail
  refine (HP2.out w6).mono ?_
  rintro e wp6 ⟨rfl, hbp⟩
  have HIp6 := Lib.hid (HI6.out.below hbp)
  have HBp6 := Lib.hid (HB6.out.trans (hbp.mono HB6.out.size))
  clear hbp
  go_wp2_with fail
  refine (add_newB P2 wp6 HIp6.out O2.out R2.out F2.out (by simp) (by omega)).mono ?_
  rintro e w7 ⟨rfl, ⟨v7, hi7⟩, hb7⟩
  have HI7 := Lib.hid (show Idx w.heap.size w7 g mb 3 [P1, P2] v7 from hi7)
  have HB7 := Lib.hid (HBp6.out.trans hb7)
  clear hi7 hb7
  go_wp2_with fail
  refine (add_zero w7 HI7.out).mono ?_
  rintro e w8 ⟨rfl, hb8⟩
  have HI8 := Lib.hid (HI7.out.below hb8)
  have HB8 := Lib.hid (HB7.out.trans (hb8.mono HB7.out.size))
  clear hb8
  go_wp2_with fail
  refine (len_any w8 HI8.out).mono ?_
  rintro e w9 ⟨rfl, rfl⟩
  go_wp2_with fail
  go_ret
  exact ⟨rfl, HB8.out⟩
end Go.Proofs.Ytjcaahilgobfhaa
