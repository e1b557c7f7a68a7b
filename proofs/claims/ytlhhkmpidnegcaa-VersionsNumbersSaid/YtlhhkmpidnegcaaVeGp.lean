/- GetPieces: walks. Condition: none. -/
import Derived.Test.YtlhhkmpidnegcaaVeGa
namespace Go.Proofs.Ytlhhkmpidnegcaa
open Go.RowKit Go.WideShapes
set_option linter.unusedVariables false
set_option linter.unusedSimpArgs false
theorem num2_bd {bs : List Int} (ho : Oct bs) (k : Nat) (h : k + 2 ≤ bs.length) : 0 ≤ numI bs k 2 ∧ numI bs k 2 ≤ 65535 := by
  rw [numI_2 bs k h]
  have := ho.getD k
  have := ho.getD (k + 1)
  omega
theorem num4_bd {bs : List Int} (ho : Oct bs) (k : Nat) (h : k + 4 ≤ bs.length) : 0 ≤ numI bs k 4 ∧ numI bs k 4 ≤ 4294967295 := by
  rw [numI_4 bs k h]
  have := ho.getD k
  have := ho.getD (k + 1)
  have := ho.getD (k + 2)
  have := ho.getD (k + 3)
  omega
def at30 (bs : List Int) (i : Nat) : Pc := pieceAt bs (2 + 30 * i)
structure GetPE (n : Nat) (bs : List Int) (w0 : World) (e : Ending) (w : World) : Prop where
  yes : (∀ i, i < n → rgt (at30 bs i) = true) → ∃ A c, e = .returned (.tuple #[.slice A n c, .int .i64 0]) ∧ n ≤ c ∧ w.ownsRow w0.heap.size 52 23 (.slice A n c) n (flatP ((List.range n).map (at30 bs)))
  no : (∃ i, i < n ∧ rgt (at30 bs i) = false) → e = .returned (.tuple #[.slice none 0 0, .int .i64 13])
  low : Below w0.heap.size w0 w
set_option maxRecDepth 100000 in
theorem getP_no (bs : List Int) (A : Option Addr) (L c : Nat) (w : World) (hL : bs.length = L) (ho : Oct bs) (hr : Rd w A (octs bs)) (hc : L ≤ c) (hm : c ≤ maxLen) (h : L < 2 ∨ (L : Int) ≠ 2 + 30 * numI bs 0 2) :
    Calls Try.prog 28 #[.slice A L c] w (Same (.tuple #[.slice none 0 0, .int .i64 13]) w) := by
  have hm' : L ≤ 9223372036854775807 := by unfold maxLen at hm; omega
  by_cases h2 : L < 2
  · have hu := u16_no A L c 0 w hm' (by omega) (by omega) (by omega)
    have HU := Lib.hid hu
    clear hu h hr ho hL hm hm'
    go_enter Try.func28, Try.ntmps28
    go_wp2_with fail
    refine (HU.out).mono ?_
    rintro e w1 ⟨rfl, rfl⟩
    go_wp2
    go_ret2
    exact ⟨rfl, rfl⟩
  · have hne : (L : Int) ≠ 2 + 30 * numI bs 0 2 := h.resolve_left h2
    have hu := u16_yes bs A L c 0 w hL.symm ho hr (by omega) hc hm
    obtain ⟨x0, x1⟩ := num2_bd ho 0 (by omega)
    obtain ⟨x, hx⟩ : ∃ x, numI bs 0 2 = x := ⟨_, rfl⟩
    rw [hx] at hu hne x0 x1
    have e1 : ((L : Int) != 2 + 30 * x) = true := by simp [hne]
    have HU := Lib.hid (show Calls Try.prog 62 #[.slice A L c, .int .i64 0] w fun e w' => e = .returned (.tuple #[.int .u16 x, .bool true]) ∧ w = w' from hu)
    clear hu h hr ho hL hm hx hne
    go_enter Try.func28, Try.ntmps28
    go_wp2_with fail
    refine (HU.out).mono ?_
    rintro e w1 ⟨rfl, rfl⟩
    go_wp2
    go_ret2
    exact ⟨rfl, rfl⟩
set_option maxRecDepth 100000 in
set_option maxHeartbeats 40000000 in
theorem getP_any (n : Nat) (bs : List Int) (A : Option Addr) (L c : Nat) (w : World) (hL : bs.length = L) (ho : Oct bs) (hr : Rd w A (octs bs)) (hc : L ≤ c) (hm : c ≤ maxLen) (hn : L = 2 + 30 * n) (hv : numI bs 0 2 = (n : Int)) (h6 : L ≤ 65536) :
    Calls Try.prog 28 #[.slice A L c] w (GetPE n bs w) := by
  have hm' : L ≤ 9223372036854775807 := by unfold maxLen at hm; omega
  have hu := u16_yes bs A L c 0 w hL.symm ho hr (by omega) hc hm
  rw [hv] at hu
  have e1 : ((L : Int) != 2 + 30 * (n : Int)) = false := by simp; omega
  have e2 : decide ((65536 : Int) < (L : Int)) = false := decide_eq_false (by omega)
  have HU := Lib.hid (show Calls Try.prog 62 #[.slice A L c, .int .i64 0] w fun e w' => e = .returned (.tuple #[.int .u16 (n : Int), .bool true]) ∧ w = w' from hu)
  have HL := Lib.hid hL
  have HO := Lib.hid ho
  have HR := Lib.hid hr
  have HM := Lib.hid hm
  have hnb : n ≤ 2184 := by omega
  have HN := Lib.hid hn
  clear hu hL ho hr hm hv hn
  go_enter Try.func28, Try.ntmps28
  go_wp2_with fail
  refine (HU.out).mono ?_
  rintro e w1 ⟨rfl, rfl⟩
  go_wp2_with fail
  go_loopw [6, 7] (fun v i wr => ∃ k q : Nat, q = 2 + 30 * k ∧ k ≤ n ∧ i = .int .i64 (q : Int) ∧ (∀ i, i < k → rgt (at30 bs i) = true) ∧ wr.ownsRow w.heap.size 52 23 v k (flatP ((List.range k).map (at30 bs))) ∧ Below w.heap.size w wr) (fun _ i _ => L + 1 - (intOf i).toNat)
  case atStart => exact ⟨0, 2, rfl, by omega, rfl, (fun i hi => by omega), ⟨rfl, .inl ⟨rfl, rfl⟩⟩, Below.refl _ _⟩
  case round =>
    obtain ⟨k, q, hq, hk, rfl, hall, how, hlow⟩ := hrel
    obtain ⟨Ao, co, rfl, hco⟩ := own_slice how
    have HALL := Lib.hid hall
    have HOW := Lib.hid how
    have HLOW := Lib.hid hlow
    clear hall how hlow
    by_cases hlt : k < n
    · have hql : q + 30 ≤ L := by have := HN.out; omega
      have HQ := Lib.hid hq
      clear hq
      have hrw := HR.out.below HLOW.out rfl
      have hu1 := u16_yes bs A L c (q + 20) wr HL.out.symm HO.out hrw (by omega) hc HM.out
      have hu2 := u32_yes bs A L c (q + 22) wr HL.out.symm HO.out hrw (by omega) hc HM.out
      have hu3 := u32_yes bs A L c (q + 26) wr HL.out.symm HO.out hrw (by omega) hc HM.out
      obtain ⟨s0, s1⟩ := num2_bd HO.out (q + 20) (by rw [HL.out]; omega)
      obtain ⟨t0, t1⟩ := num4_bd HO.out (q + 22) (by rw [HL.out]; omega)
      obtain ⟨a0, a1⟩ := num4_bd HO.out (q + 26) (by rw [HL.out]; omega)
      rw [show ((q + 20 : Nat) : Int) = (q : Int) + 20 by omega] at hu1
      rw [show ((q + 22 : Nat) : Int) = (q : Int) + 22 by omega] at hu2
      rw [show ((q + 26 : Nat) : Int) = (q : Int) + 26 by omega] at hu3
      have hok := pieceAt_ok HO.out (q := q) (by rw [HL.out]; omega)
      have hcells : (pieceAt bs q).cells = hashV (pieceAt bs q).h ++ [.int .i64 (numI bs (q + 20) 2), .int .i64 (numI bs (q + 22) 4), .int .i64 (numI bs (q + 26) 4)] := rfl
      have hlen20 : (hashV (pieceAt bs q).h).length = 20 := by rw [hashV_length, hok.h.len]
      obtain ⟨bb, oo, rfl, hbl, hce⟩ := hrw (by rw [octs_length, HL.out]; omega)
      have hrg : wr.rangeAt bb (oo + q) (hashV (pieceAt bs q).h) := fun j y hy => by
        have hj : j < 20 := by have := (List.getElem?_eq_some_iff.1 hy).1; omega
        rw [show oo + q + j = oo + (q + j) by omega]
        refine hce (q + j) y ?_
        rw [← hy]
        unfold octs hashV pieceAt
        simp only
        rw [List.getElem?_map, List.getElem?_map, List.getElem?_take_of_lt hj, List.getElem?_drop]
      have hs52 : (Try.prog.info? 52).map (·.size) = some (pieceAt bs q).cells.length := by rw [Pc.cells_length hok]; exact size39
      have hs50 : (Try.prog.info? 50).map (·.size) = some (hashV (pieceAt bs q).h).length := by rw [hlen20]; exact size37
      have hzz : zeroA.size = (pieceAt bs q).cells.toArray.size := (by rfl : zeroA.size = 23).trans (by rw [List.size_toArray, Pc.cells_length hok])
      have hone : (pieceAt bs q).cells.toArray.all (·.oneCell') = true := by
        rw [Array.all_eq_true]
        intro i hi'
        exact Pc.cells_one _ _ (show (pieceAt bs q).cells.toArray[i] ∈ (pieceAt bs q).cells by simp)
      have hbx := Blk.new wr 52 (pieceAt bs q).cells.toArray
      have hbw := (Below.refl wr.heap.size wr).alloc (Nat.le_refl _) (.cells (pieceAt bs q).cells.toArray 52)
      have hrb : (wr.alloc (.cells (pieceAt bs q).cells.toArray 52)).rangeAt wr.heap.size 0 (pieceAt bs q).cells := fun j y hy => by
        rw [Nat.zero_add, hbx.cell, List.getElem?_toArray]
        exact hy
      have hri := right61 (pieceAt bs q) hok (wr.alloc (.cells (pieceAt bs q).cells.toArray 52))
      have hrv : rgt (at30 bs k) = rightP (pieceAt bs q).s (pieceAt bs q).b (pieceAt bs q).a := by unfold at30; rw [← HQ.out]; rfl
      rw [← hrv] at hri
      have hfl : flatP ((List.range (k + 1)).map (at30 bs)) = flatP ((List.range k).map (at30 bs)) ++ (pieceAt bs q).cells := by
        rw [List.range_succ, List.map_append, List.map_singleton, flatP_snoc]
        congr 1
        unfold at30
        rw [← HQ.out]
      have h1c := Pc.cells_one (pieceAt bs q)
      have hl23 := Pc.cells_length hok
      unfold Pc.agg at hri
      have HAR := Lib.hid (fun w => run_arrayAt (b := bb) (o := oo + q) (n := L - q) (c := c - q) (by omega) w)
      have har := HAR.out
      have HU1 := Lib.hid hu1
      have HU2 := Lib.hid hu2
      have HU3 := Lib.hid hu3
      have HOKP := Lib.hid hok
      have HCE := Lib.hid hcells
      have HRG := Lib.hid hrg
      have HS52 := Lib.hid hs52
      have HSA := Lib.hid (show (Try.prog.info? 52).map (·.size) = some (pieceAt bs q).cells.toArray.size from by rw [List.size_toArray]; exact hs52)
      have HS50 := Lib.hid hs50
      have HZ := Lib.hid hzz
      have HON := Lib.hid hone
      have HRB := Lib.hid hrb
      have HRI := Lib.hid hri
      have HFL := Lib.hid hfl
      have H1C := Lib.hid h1c
      have H23 := Lib.hid hl23
      have HBW := Lib.hid hbw
      have HBX := Lib.hid hbx
      clear hu1 hu2 hu3 hrg hs52 hs50 hzz hone hrb hri hrw hfl hrv hcells hok hce h1c hl23 hbw hbx hlen20
      obtain ⟨n0, n1, n2, n3, n4, n5, n6, n7, n8, n9, n10, n11, n12, n13, n14, n15, n16, n17, n18, n19, hh20⟩ : ∃ n0 n1 n2 n3 n4 n5 n6 n7 n8 n9 n10 n11 n12 n13 n14 n15 n16 n17 n18 n19 : Int, (pieceAt bs q).h = [n0, n1, n2, n3, n4, n5, n6, n7, n8, n9, n10, n11, n12, n13, n14, n15, n16, n17, n18, n19] := by
        have h20 := HOKP.out.h.len
        match (pieceAt bs q).h, h20 with
        | [n0, n1, n2, n3, n4, n5, n6, n7, n8, n9, n10, n11, n12, n13, n14, n15, n16, n17, n18, n19], _ => exact ⟨n0, n1, n2, n3, n4, n5, n6, n7, n8, n9, n10, n11, n12, n13, n14, n15, n16, n17, n18, n19, rfl⟩
      obtain ⟨sv, hsv'⟩ : ∃ x, numI bs (q + 20) 2 = x := ⟨_, rfl⟩
      obtain ⟨tv, htv⟩ : ∃ x, numI bs (q + 22) 4 = x := ⟨_, rfl⟩
      obtain ⟨av, hav⟩ : ∃ x, numI bs (q + 26) 4 = x := ⟨_, rfl⟩
      have hcs : (pieceAt bs q).cells = [.int .u8 n0, .int .u8 n1, .int .u8 n2, .int .u8 n3, .int .u8 n4, .int .u8 n5, .int .u8 n6, .int .u8 n7, .int .u8 n8, .int .u8 n9, .int .u8 n10, .int .u8 n11, .int .u8 n12, .int .u8 n13, .int .u8 n14, .int .u8 n15, .int .u8 n16, .int .u8 n17, .int .u8 n18, .int .u8 n19, .int .i64 sv, .int .i64 tv, .int .i64 av] := by rw [HCE.out, hh20, hsv', htv, hav]; rfl
      have hhs : hashV (pieceAt bs q).h = [.int .u8 n0, .int .u8 n1, .int .u8 n2, .int .u8 n3, .int .u8 n4, .int .u8 n5, .int .u8 n6, .int .u8 n7, .int .u8 n8, .int .u8 n9, .int .u8 n10, .int .u8 n11, .int .u8 n12, .int .u8 n13, .int .u8 n14, .int .u8 n15, .int .u8 n16, .int .u8 n17, .int .u8 n18, .int .u8 n19] := by rw [hh20]; rfl
      rw [hsv'] at HU1 s0 s1
      rw [htv] at HU2 t0 t1
      rw [hav] at HU3 a0 a1
      rw [hcs] at HS52 HSA HZ HON HRB HRI HFL H1C H23 HBW HBX
      rw [hhs] at HRG HS50
      clear hh20 hsv' htv hav hcs hhs
      have g1 : (q : Int) < L := by omega
      have g2 : ¬ c = q := by omega
      have g3 : (q : Int) ≤ L := by omega
      have g4 : (L : Int) ≤ c := by omega
      have g5 : q ≤ L := by omega
      go_wp2_with fail
      refine (HU1.out).mono ?_
      rintro e w2 ⟨rfl, rfl⟩
      go_wp2_with fail
      refine (HU2.out).mono ?_
      rintro e w2 ⟨rfl, rfl⟩
      go_wp2_with fail
      refine (HU3.out).mono ?_
      rintro e w2 ⟨rfl, rfl⟩
      go_wp2_with (first
        | (refine wpList_load_mid rfl 50 (.tmp 66) rfl bb (oo + q) rfl [.int .u8 n0, .int .u8 n1, .int .u8 n2, .int .u8 n3, .int .u8 n4, .int .u8 n5, .int .u8 n6, .int .u8 n7, .int .u8 n8, .int .u8 n9, .int .u8 n10, .int .u8 n11, .int .u8 n12, .int .u8 n13, .int .u8 n14, .int .u8 n15, .int .u8 n16, .int .u8 n17, .int .u8 n18, .int .u8 n19] _ HRG.out Try.underlying50 rfl HS50.out ?_)
        | (refine wpList_store_row rfl 52 (.tmp 14) (.tmp 74) rfl wr.heap.size ([.int .u8 n0, .int .u8 n1, .int .u8 n2, .int .u8 n3, .int .u8 n4, .int .u8 n5, .int .u8 n6, .int .u8 n7, .int .u8 n8, .int .u8 n9, .int .u8 n10, .int .u8 n11, .int .u8 n12, .int .u8 n13, .int .u8 n14, .int .u8 n15, .int .u8 n16, .int .u8 n17, .int .u8 n18, .int .u8 n19, .int .i64 sv, .int .i64 tv, .int .i64 av] : List Value).toArray rfl rfl 52 zeroA (heap_alloc_new _ _) HSA.out HZ.out HON.out ?_; rw [World.setRow_alloc_new])
        | (refine wpList_load_mid rfl 52 (.tmp 14) rfl wr.heap.size 0 rfl [.int .u8 n0, .int .u8 n1, .int .u8 n2, .int .u8 n3, .int .u8 n4, .int .u8 n5, .int .u8 n6, .int .u8 n7, .int .u8 n8, .int .u8 n9, .int .u8 n10, .int .u8 n11, .int .u8 n12, .int .u8 n13, .int .u8 n14, .int .u8 n15, .int .u8 n16, .int .u8 n17, .int .u8 n18, .int .u8 n19, .int .i64 sv, .int .i64 tv, .int .i64 av] _ HRB.out Try.underlying52 rfl HS52.out ?_))
      cases hrb : rgt (at30 bs k) with
      | false =>
        rw [hrb] at HRI
        have HRB2 := Lib.hid hrb
        clear hrb
        refine (HRI.out).mono ?_
        rintro e w5 ⟨rfl, hb5⟩
        have HB5 := Lib.hid (HLOW.out.trans ((HBW.out.trans (hb5.mono (by simp))).mono HLOW.out.size))
        clear hb5
        go_wp2
        go_ret2
        exact ⟨fun h => absurd (h k hlt) (by rw [HRB2.out]; decide), fun _ => rfl, HB5.out⟩
      | true =>
        rw [hrb] at HRI
        have HRB2 := Lib.hid hrb
        clear hrb
        refine (HRI.out).mono ?_
        rintro e w5 ⟨rfl, hb5⟩
        have hb5' := HBW.out.trans (hb5.mono (by simp))
        have HB5 := Lib.hid (HLOW.out.trans (hb5'.mono HLOW.out.size))
        have HRB5 := Lib.hid (show w5.rangeAt wr.heap.size 0 [.int .u8 n0, .int .u8 n1, .int .u8 n2, .int .u8 n3, .int .u8 n4, .int .u8 n5, .int .u8 n6, .int .u8 n7, .int .u8 n8, .int .u8 n9, .int .u8 n10, .int .u8 n11, .int .u8 n12, .int .u8 n13, .int .u8 n14, .int .u8 n15, .int .u8 n16, .int .u8 n17, .int .u8 n18, .int .u8 n19, .int .i64 sv, .int .i64 tv, .int .i64 av] from fun j y hy => by
          have h1 := (HBX.out.below hb5).cell j
          rw [Nat.zero_add, h1, List.getElem?_toArray]
          exact hy)
        have HO5 := Lib.hid ((own_below HOW.out hb5').alloc (.cells ([.int .u8 n0, .int .u8 n1, .int .u8 n2, .int .u8 n3, .int .u8 n4, .int .u8 n5, .int .u8 n6, .int .u8 n7, .int .u8 n8, .int .u8 n9, .int .u8 n10, .int .u8 n11, .int .u8 n12, .int .u8 n13, .int .u8 n14, .int .u8 n15, .int .u8 n16, .int .u8 n17, .int .u8 n18, .int .u8 n19, .int .i64 sv, .int .i64 tv, .int .i64 av] : List Value).toArray 52))
        have HK5 := Lib.hid (Blk.new w5 52 ([.int .u8 n0, .int .u8 n1, .int .u8 n2, .int .u8 n3, .int .u8 n4, .int .u8 n5, .int .u8 n6, .int .u8 n7, .int .u8 n8, .int .u8 n9, .int .u8 n10, .int .u8 n11, .int .u8 n12, .int .u8 n13, .int .u8 n14, .int .u8 n15, .int .u8 n16, .int .u8 n17, .int .u8 n18, .int .u8 n19, .int .i64 sv, .int .i64 tv, .int .i64 av] : List Value).toArray)
        have HZ5 := Lib.hid (show w.heap.size ≤ (w5.alloc (.cells ([.int .u8 n0, .int .u8 n1, .int .u8 n2, .int .u8 n3, .int .u8 n4, .int .u8 n5, .int .u8 n6, .int .u8 n7, .int .u8 n8, .int .u8 n9, .int .u8 n10, .int .u8 n11, .int .u8 n12, .int .u8 n13, .int .u8 n14, .int .u8 n15, .int .u8 n16, .int .u8 n17, .int .u8 n18, .int .u8 n19, .int .i64 sv, .int .i64 tv, .int .i64 av] : List Value).toArray 52)).heap.size by have := HB5.out.size; simp; omega)
        clear hb5 hb5'
        go_wp2_with (first
          | (refine wpList_load_mid rfl 52 (.tmp 14) rfl wr.heap.size 0 rfl [.int .u8 n0, .int .u8 n1, .int .u8 n2, .int .u8 n3, .int .u8 n4, .int .u8 n5, .int .u8 n6, .int .u8 n7, .int .u8 n8, .int .u8 n9, .int .u8 n10, .int .u8 n11, .int .u8 n12, .int .u8 n13, .int .u8 n14, .int .u8 n15, .int .u8 n16, .int .u8 n17, .int .u8 n18, .int .u8 n19, .int .i64 sv, .int .i64 tv, .int .i64 av] _ HRB5.out Try.underlying52 rfl HS52.out ?_)
          | (at_builtin; refine wpList_appN tPcs rfl (.tmp 78) (.tmp 80) rfl w.heap.size (.slice Ao k co) k _ rfl HO5.out (some ⟨w5.heap.size, 0, none⟩) 1 1 [.int .u8 n0, .int .u8 n1, .int .u8 n2, .int .u8 n3, .int .u8 n4, .int .u8 n5, .int .u8 n6, .int .u8 n7, .int .u8 n8, .int .u8 n9, .int .u8 n10, .int .u8 n11, .int .u8 n12, .int .u8 n13, .int .u8 n14, .int .u8 n15, .int .u8 n16, .int .u8 n17, .int .u8 n18, .int .u8 n19, .int .i64 sv, .int .i64 tv, .int .i64 av] rfl rfl (.inr ⟨_, rfl, fun j y hy => by rw [addr_add, Nat.zero_add, HK5.out.cell, List.getElem?_toArray]; exact hy⟩) H1C.out (by omega) (by unfold maxLen; omega) HZ5.out ?_; intro v6 w6 o6 hg6 _; have HB6 := Lib.hid ((HB5.out.alloc HB5.out.size (.cells ([.int .u8 n0, .int .u8 n1, .int .u8 n2, .int .u8 n3, .int .u8 n4, .int .u8 n5, .int .u8 n6, .int .u8 n7, .int .u8 n8, .int .u8 n9, .int .u8 n10, .int .u8 n11, .int .u8 n12, .int .u8 n13, .int .u8 n14, .int .u8 n15, .int .u8 n16, .int .u8 n17, .int .u8 n18, .int .u8 n19, .int .i64 sv, .int .i64 tv, .int .i64 av] : List Value).toArray 52)).grown hg6 HZ5.out (own_ge HO5.out)); have O6 := Lib.hid o6; clear hg6 o6))
        go_roundw
        case rel =>
          refine ⟨k + 1, q + 30, by have := HQ.out; omega, by omega, by go_num, (fun i hi => ?_), ?_, HB6.out⟩
          · rcases Nat.lt_or_ge i k with h | h
            · exact HALL.out i h
            · obtain rfl : i = k := by omega
              exact HRB2.out
          · rw [HFL.out]
            exact O6.out
        case measure => simp [intOf]; omega
    · have hkn : k = n := by omega
      have hqe : q = L := by have := HN.out; omega
      have HKN := Lib.hid hkn
      have g1 : ¬ (q : Int) < L := by omega
      clear hkn hqe hq
      go_wp2_with fail
      go_ret2
      refine ⟨fun _ => ?_, fun ⟨i, hi, hf⟩ => ?_, HLOW.out⟩
      · rw [← HKN.out]
        exact ⟨Ao, co, rfl, hco, HOW.out⟩
      · have := HALL.out i (by have := HKN.out; omega)
        rw [this] at hf
        cases hf
end Go.Proofs.Ytlhhkmpidnegcaa
