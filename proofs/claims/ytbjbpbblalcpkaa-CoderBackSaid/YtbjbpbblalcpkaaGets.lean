/- CoderGets's walk: any bytes, any chances: true; nothing that was there is written. No condition. -/
import Derived.Test.YtbjbpbblalcpkaaRefGet
import Derived.Test.YtbjbpbblalcpkaaOpen
namespace Go.Proofs.Ytbjbpbblalcpkaa
open Go.RowKit Go.WideShapes
set_option linter.unusedVariables false
theorem nexts_add (bs : List Int) (b : Nat) (s : Nat × Int) : ∀ a, nexts bs a (nexts bs b s) = nexts bs (b + a) s
  | 0 => rfl
  | a + 1 => congrArg (dnext bs) (nexts_add bs b s a)
theorem own_none {w : World} {base n : Nat} {e : TypeId} {size c : Nat} {A : Option Addr} {xs : List Value} (h : w.ownsRow base e size (.slice A n c) n xs) : A = none → n = 0 ∧ c = 0 := fun hA => by
  subst hA
  rcases h.2 with ⟨h0, hx⟩ | ⟨g', cap, cur, hv, _⟩
  · injection h0 with _ h1 h2
    exact ⟨h1, h2⟩
  · injection hv with h0
    cases h0
theorem Dec.less {B B' : Nat} {w : World} {g : Nat} {x y : Int} {bs : List Int} {s : Nat × Int} {v : Value} (h : Dec B w g x y bs s v) (hb : B' ≤ B) : Dec B' w g x y bs s v := ⟨h.blk, own_less h.own hb, Nat.le_trans hb h.ge, h.oct, h.z0, h.z1, h.len⟩
theorem DecR.less {B B' : Nat} {w : World} {g n : Nat} {x y z : Int} {bs : List Int} {v : Value} (h : DecR B w g x y bs n z v) (hb : B' ≤ B) : DecR B' w g x y bs n z v := ⟨h.blk, own_less h.own hb, Nat.le_trans hb h.ge, h.oct⟩
theorem Dec.below' {B : Nat} {w w' : World} {g : Nat} {x y : Int} {bs : List Int} {s : Nat × Int} {v : Value} (h : Dec B w g x y bs s v) (hb : Below w.heap.size w w') : Dec B w' g x y bs s v := h.frm (S := fun _ => False) (Frm.of_below hb) fun _ _ hh => hh
theorem Dec.low' {B : Nat} {w : World} {g : Nat} {x y : Int} {bs : List Int} {s : Nat × Int} {v : Value} (h : Dec B w g x y bs s v) : ∀ k, own1 g v k → B ≤ k := by
  rintro k (rfl | e)
  · exact h.ge
  · exact own_ge h.own k e
theorem DecR.low' {B : Nat} {w : World} {g n : Nat} {x y z : Int} {bs : List Int} {v : Value} (h : DecR B w g x y bs n z v) : ∀ k, own1 g v k → B ≤ k := by
  rintro k (rfl | e)
  · exact h.ge
  · exact own_ge h.own k e
theorem decR_other {B gd gr n : Nat} {x y x' y' z : Int} {bs : List Int} {s : Nat × Int} {v v' : Value} {w w' : World} (hD : Dec B w gd x y bs s v) (hR : DecR B w gr x' y' bs n z v') (f : Frm (fun k => k = gd) w w') : DecR B w' gr x' y' bs n z v' := by
  refine hR.frm f ?_
  rintro k (rfl | e) e'
  · exact hD.blk.ne hR.blk (by decide) e'.symm
  · exact hD.blk.apart hR.own (by decide) k e e'
theorem dec_other {B gd gr n : Nat} {x y x' y' z : Int} {bs : List Int} {s : Nat × Int} {v v' : Value} {w w' : World} (hD : Dec B w gd x y bs s v) (hR : DecR B w gr x' y' bs n z v') (f : Frm (fun k => k = gr) w w') : Dec B w' gd x y bs s v := by
  refine hD.frm f ?_
  rintro k (rfl | e) e'
  · exact hR.blk.ne hD.blk (by decide) e'.symm
  · exact hR.blk.apart hD.own (by decide) k e e'
theorem below_drewN {B : Nat} {a w : World} (h : Below B a w) (n : Nat) : Below B a (w.drewN n) := ⟨h.os, h.tape, h.output, h.size, h.block⟩
/-- The row handed in: it may be written. -/
structure InRel (A : Option Addr) (n : Nat) (wa wr : World) : Prop where
  ex : n = 0 ∨ ∃ g cur, A = some ⟨g, 0, none⟩ ∧ Blk wr g 5 cur ∧ ∀ i, i < n → ∃ z, 0 ≤ z ∧ z ≤ 255 ∧ cur[i]? = some (.int .u8 z)
  frm : Frm (fun j => ∃ o, A = some o ∧ o.block = j) wa wr
theorem inRel_of {A : Option Addr} {base n c : Nat} {w : World} {xs : List Int} (h : w.ownsRow base 5 1 (.slice A n c) n (octs xs)) (ho : Oct xs) : InRel A n w w := by
  refine ⟨?_, Frm.refl _ _⟩
  rcases h.2 with ⟨h0, hx⟩ | ⟨g, cap, cur, hv, hb, hg, hnc, _, hs, ht⟩
  · exact .inl hx
  · injection hv with h0
    refine .inr ⟨g, cur, h0, hg, fun i hi => ?_⟩
    have hl := h.1
    rw [octs_length] at hl
    have h1 : (cur.toList.take (n * 1))[i]? = some (.int .u8 (xs.getD i 0)) := by rw [ht]; exact octs_at (by omega)
    rw [List.getElem?_take_of_lt (by omega)] at h1
    exact ⟨_, (ho.getD i).1, (ho.getD i).2, by simpa using h1⟩
theorem inRel_set {g n k : Nat} {wa wr : World} {u : Int} (h : InRel (some ⟨g, 0, none⟩) n wa wr) (h0 : 0 ≤ u) (h1 : u ≤ 255) : InRel (some ⟨g, 0, none⟩) n wa (wr.setCell ⟨g, k, none⟩ (.int .u8 u)) := by
  refine ⟨?_, h.frm.setCell (p := ⟨g, k, none⟩) (fun _ => ⟨_, rfl, rfl⟩) _⟩
  rcases h.ex with h | ⟨g', cur, e, hb, hc⟩
  · exact .inl h
  · injection e with e
    injection e with e
    subst e
    refine .inr ⟨_, _, rfl, hb.set k _, fun i hi => ?_⟩
    obtain ⟨z, z0, z1, hz⟩ := hc i hi
    by_cases hik : k = i
    · subst hik
      refine ⟨u, h0, h1, ?_⟩
      rw [Array.getElem?_setIfInBounds_self_of_lt]
      rcases Nat.lt_or_ge k cur.size with h | h
      · exact h
      · rw [Array.getElem?_eq_none h] at hz; cases hz
    · exact ⟨z, z0, z1, by rw [Array.getElem?_setIfInBounds_ne hik]; exact hz⟩
structure GetsRel (B gd gr : Nat) (bs : List Int) (w0 : World) (k : Nat) (w : World) : Prop where
  ex : ∃ x y n vD vR, n ≤ 4 + 4 * k ∧ Nrm x y ∧ Dec B w gd x y bs (nexts bs n (0, 0)) vD ∧ DecR B w gr x y bs n (zN bs n) vR
  low : Below w0.heap.size w0 w
set_option maxRecDepth 100000 in
set_option maxHeartbeats 8000000 in
theorem gets_any (bs ps : List Int) (A P : Option Addr) (n c m d : Nat) (w : World) (hn : n = bs.length) (ho : Oct bs) (hr : Rd w A (octs bs)) (hm : m = ps.length) (hp : Rd w P (ps.map (.int .i64))) (hml : m ≤ 9223372036854775807) (hnl : n ≤ 9223372036854775807) :
    Calls Try.prog 6 #[.slice A n c, .slice P m d] w fun e w' => e = .returned (.bool true) ∧ Below w.heap.size w w' := by
  have HN := Lib.hid hn
  have HO := Lib.hid ho
  have HR := Lib.hid hr
  have HM := Lib.hid hm
  have HP := Lib.hid hp
  clear hn ho hr hm hp
  by_cases hbig : 20000 < n
  · go_enter Try.func6, Try.ntmps6
    go_wp2_with (go_at_call 16; refine (awake_any _).mono ?_; rintro e w10 ⟨rfl, hb10⟩)
    go_ret
    exact ⟨rfl, hb10⟩
  · have hsm : n ≤ 20000 := by omega
    clear hbig
    go_enter Try.func6, Try.ntmps6
    go_wp2_with fail
    refine (copyB bs A n c w HN.out HR.out (by omega)).mono ?_
    rintro e w1 ⟨⟨A1, c1, rfl, hc1, o1⟩, hb1⟩
    have O1 := Lib.hid o1
    have B1 := Lib.hid hb1
    clear o1 hb1
    go_wp2_with fail
    refine (newDec_any bs A1 n c1 w1 HN.out HO.out (rd_own O1.out) (own_none O1.out) (by omega)).mono ?_
    rintro e w2 ⟨⟨gd, vD, rfl, dD, gd1⟩, hb2⟩
    have DD := Lib.hid dD
    have B2 := Lib.hid (ch0 B1.out hb2)
    have HB2 := Lib.hid hb2
    clear dD hb2
    go_wp2_with fail
    refine (newDecR_any bs A n c w2 HN.out HO.out (HR.out.below B2.out rfl) (by omega)).mono ?_
    rintro e w3 ⟨⟨gr, vR, rfl, dR, gr1⟩, hb3⟩
    have DR := Lib.hid (dR.less HB2.out.size)
    have D3 := Lib.hid (DD.out.below' hb3)
    have B3 := Lib.hid (ch0 B2.out hb3)
    have O3 := Lib.hid (own_below (own_below O1.out HB2.out) hb3)
    clear dR hb3 DD HB2 gd1 gr1
    go_wp2_with fail
    go_loopw [26] (fun i wr => ∃ k : Nat, k ≤ n ∧ i = .int .i64 k ∧ InRel A1 n w3 wr) (fun i _ => n - (intOf i).toNat)
    case atStart => exact ⟨0, by omega, rfl, inRel_of O3.out HO.out⟩
    case round =>
      obtain ⟨k, hk, rfl, hi⟩ := hrel
      by_cases hkn : k < n
      · rcases hi.ex with h0 | ⟨g, cur, rfl, hb, hc⟩
        · omega
        · obtain ⟨z, z0, z1, hz⟩ := hc k hkn
          have c0 := (hb.cell k).trans hz
          have f0 := hb.frozen k
          have HI := Lib.hid hi
          clear hi hb hc hz
          go_wp2
          go_roundw
          case rel => exact ⟨k + 1, by omega, by go_num, inRel_set HI.out (by omega) (by omega)⟩
          case measure => simp [intOf]; omega
      · have hke : k = n := by omega
        subst hke
        have hok : ∀ q, (Value.slice A1 k c1).ownBlock = some q → q < w1.heap.size := own_lt O1.out
        have hap : ∀ j, w1.heap.size ≤ j → ¬ ∃ o : Addr, A1 = some o ∧ o.block = j := by
          rintro j hj ⟨o, e, e'⟩
          subst e
          have := hok o.block rfl
          omega
        have D4 := Lib.hid (D3.out.frm hi.frm fun j hj => hap j (D3.out.low' j hj))
        have R4 := Lib.hid (DR.out.frm hi.frm fun j hj => hap j (DR.out.low' j hj))
        have B4 := Lib.hid (B3.out.trans (hi.frm.to_below B3.out.size fun j ⟨o, e, e'⟩ => by subst e; rw [← e']; exact own_ge O1.out o.block rfl))
        have hw1 := B1.out.size
        clear hok hap hi O3 D3 DR B3 B2 B1 O1
        go_wp2_with fail
        go_loopw [9] (fun i wz => ∃ j : Nat, j ≤ m ∧ j ≤ 5000 ∧ i = .int .i64 j ∧ GetsRel w1.heap.size gd gr bs w j wz) (fun i _ => m - (intOf i).toNat)
        case atStart => exact ⟨0, by omega, by omega, rfl, ⟨⟨0, 4294967295, 4, vD, vR, by omega, nrm0, D4.out, R4.out⟩, B4.out⟩⟩
        case round =>
          obtain ⟨j, hjm, hj5, rfl, ⟨⟨x, y, nn, vD, vR, hnn, hnr, hD, hR⟩, hB⟩⟩ := hrel
          have HD := Lib.hid hD
          have HRR := Lib.hid hR
          have HB := Lib.hid hB
          have HNR := Lib.hid hnr
          have hbl : bs.length ≤ 20000 := by have := HN.out; omega
          clear hD hR hB hnr
          by_cases hlt : j < m ∧ j < 5000
          · obtain ⟨hlm, hl5⟩ := hlt
            have gj : decide ((j : Int) < 5000) = true := by simp; omega
            obtain ⟨u, hu⟩ : ∃ u, (ps.map (Value.int .i64))[j]? = some u := ⟨_, List.getElem?_eq_getElem (by rw [List.length_map, ← HM.out]; exact hlm)⟩
            obtain ⟨b1, o1, hP, hPl, hPc⟩ := HP.out.at hu
            subst hP
            obtain ⟨p, rfl⟩ : ∃ p, u = .int .i64 p := by
              rw [List.getElem?_map] at hu
              obtain ⟨p, _, hp⟩ := Option.map_eq_some_iff.1 hu
              exact ⟨p, hp.symm⟩
            clear hu
            have hc0 := (HB.out.cell (p := ⟨b1, o1 + j, none⟩) hPl).trans hPc
            have HPC := Lib.hid hPc
            clear hPc
            by_cases hpp : 1 ≤ p ∧ p ≤ 65535
            · obtain ⟨p0, p1⟩ := hpp
              have hgd := get_ok _ gd x y p bs _ vD _ HD.out HNR.out (by omega) p0 p1
              have hgr := fun w6 (h6 : DecR w1.heap.size w6 gr x y bs nn (zN bs nn) vR) => getR_ok _ gr x y p bs nn vR w6 h6 HNR.out (by omega) (by omega) p0 p1
              rw [show (nexts bs nn (0, 0)).2 = zN bs nn from rfl] at hgd
              have hstn := step_nrm (b := bitOf x y p (zN bs nn)) HNR.out p0 p1
              have hstl : (step (bitOf x y p (zN bs nn)) p x y).1.length ≤ 4 := by
                rw [show step (bitOf x y p (zN bs nn)) p x y = norm (cutX (bitOf x y p (zN bs nn)) p x y) (cutY (bitOf x y p (zN bs nn)) p x y) from rfl, norm_len _ _ _ rfl (cut_ivl HNR.out p0 p1)]
                exact need_le _ _
              obtain ⟨bb, hbb⟩ : ∃ b, bitOf x y p (zN bs nn) = b := ⟨_, rfl⟩
              rw [hbb] at hgd hstn hstl
              simp only [hbb] at hgr
              clear hbb
              obtain ⟨st, hst⟩ : ∃ r, step bb p x y = r := ⟨_, rfl⟩
              rw [hst, nexts_add] at hgd
              rw [hst] at hstn hstl
              simp only [hst] at hgr
              clear hst
              obtain ⟨N, hN⟩ : ∃ N, nn + st.1.length = N := ⟨_, rfl⟩
              have hN1 : N ≤ 4 + 4 * (j + 1) := by omega
              rw [hN] at hgd
              simp only [hN] at hgr
              clear hN
              have HGD := Lib.hid hgd
              have HGR := Lib.hid hgr
              have HST := Lib.hid hstn
              clear hgd hgr hstn
              go_wp2_with fail
              refine HGD.out.mono ?_
              rintro e w6 ⟨rfl, hd6, hf6⟩
              have R6 := Lib.hid (decR_other HD.out HRR.out hf6)
              have B6 := Lib.hid (HB.out.trans (hf6.to_below HB.out.size fun k e => by have := HD.out.ge; omega))
              have hc6 := (B6.out.cell (p := ⟨b1, o1 + j, none⟩) hPl).trans HPC.out
              have D6 := Lib.hid hd6
              clear hd6 hf6
              go_wp2_with fail
              refine (HGR.out _ R6.out).mono ?_
              rintro e w7 ⟨rfl, hd7, hf7⟩
              have D7 := Lib.hid (dec_other D6.out R6.out hf7)
              have B7 := Lib.hid (B6.out.trans (hf7.to_below B6.out.size fun k e => by have := R6.out.ge; omega))
              have R7 := Lib.hid hd7
              clear hd7 hf7
              have hrd := read_of gd _ _ _ _ _ _ _ D7.out.blk
              rw [nexts_fst] at hrd
              have HRD := Lib.hid hrd
              clear hrd
              go_wp2_with fail
              refine HRD.out.mono ?_
              rintro e w8 ⟨rfl, rfl⟩
              go_wp2_with fail
              refine (readR_of _ gr _ _ bs _ _ vR _ R7.out (by omega)).mono ?_
              rintro e w8 ⟨rfl, q, rfl⟩
              go_wp2
              go_roundw
              case rel => exact ⟨j + 1, by omega, by omega, by go_num, ⟨⟨st.2.1, st.2.2, N, vD, vR, hN1, HST.out, D7.out.drewN q, R7.out.drewN q⟩, below_drewN B7.out q⟩⟩
              case measure => simp [intOf]; omega
            · have hpn : p < 1 ∨ 65535 < p := by omega
              have HPN := Lib.hid hpn
              clear hpn hpp
              go_wp2_with fail
              refine (get_arg _ gd x y p bs _ vD _ HD.out HPN.out).mono ?_
              rintro e w6 ⟨rfl, hb6⟩
              have R6 := Lib.hid (HRR.out.below hb6)
              have B6 := Lib.hid (ch0 HB.out hb6)
              have hc6 := (B6.out.cell (p := ⟨b1, o1 + j, none⟩) hPl).trans HPC.out
              have D6 := Lib.hid (HD.out.below' hb6)
              clear hb6
              go_wp2_with fail
              refine (getR_arg gr p _ HPN.out).mono ?_
              rintro e w7 ⟨rfl, rfl⟩
              have hrd := read_of gd _ _ _ _ _ _ _ D6.out.blk
              rw [nexts_fst] at hrd
              have HRD := Lib.hid hrd
              clear hrd
              go_wp2_with fail
              refine HRD.out.mono ?_
              rintro e w8 ⟨rfl, rfl⟩
              go_wp2_with fail
              refine (readR_of _ gr _ _ bs _ _ vR _ R6.out (by omega)).mono ?_
              rintro e w8 ⟨rfl, q, rfl⟩
              go_wp2
              go_roundw
              case rel => exact ⟨j + 1, by omega, by omega, by go_num, ⟨⟨x, y, nn, vD, vR, by omega, HNR.out, D6.out.drewN q, R6.out.drewN q⟩, below_drewN B6.out q⟩⟩
              case measure => simp [intOf]; omega
          · rcases Nat.lt_or_ge j m with hlm | hlm
            · have gj : decide ((j : Int) < 5000) = false := by simp; omega
              clear hlt
              have hrd := read_of gd _ _ _ _ _ _ _ HD.out.blk
              rw [nexts_fst] at hrd
              have HRD := Lib.hid hrd
              clear hrd
              go_wp2_with fail
              refine HRD.out.mono ?_
              rintro e w8 ⟨rfl, rfl⟩
              go_wp2_with fail
              refine (readR_of _ gr _ _ bs _ _ vR _ HRR.out (by omega)).mono ?_
              rintro e w8 ⟨rfl, q, rfl⟩
              have B8 := Lib.hid (below_drewN HB.out q)
              go_wp2_with (go_at_call 16; refine (awake_any _).mono ?_; rintro e w10 ⟨rfl, hb10⟩)
              go_ret
              exact ⟨rfl, ch0 B8.out hb10⟩
            · have hjm2 : j = m := by omega
              clear hlt
              subst hjm2
              have hrd := read_of gd _ _ _ _ _ _ _ HD.out.blk
              rw [nexts_fst] at hrd
              have HRD := Lib.hid hrd
              clear hrd
              go_wp2_with fail
              refine HRD.out.mono ?_
              rintro e w8 ⟨rfl, rfl⟩
              go_wp2_with fail
              refine (readR_of _ gr _ _ bs _ _ vR _ HRR.out (by omega)).mono ?_
              rintro e w8 ⟨rfl, q, rfl⟩
              have B8 := Lib.hid (below_drewN HB.out q)
              go_wp2_with (go_at_call 16; refine (awake_any _).mono ?_; rintro e w10 ⟨rfl, hb10⟩)
              go_ret
              exact ⟨rfl, ch0 B8.out hb10⟩
theorem gets_law {H : Type} {enc : TypeId × Value → H} {base base' : Nat} {db dp : DataW H} {pb pp : List MemPlace} (vb vp : Value) (w : World) (hb : Value.okWide Try.prog w .any base 30 vb) (kb : DataW.Trod enc Try.prog w 0 (fun _ => true) true 30 vb db pb)
    (hv : Value.okWide Try.prog w .any base' 49 vp) (kp : DataW.Trod enc Try.prog w 0 (fun _ => true) true 49 vp dp pp) :
    Calls Try.prog 6 #[vb, vp] w fun e w' => e = .returned (.bool true) ∧ Below w.heap.size w w' := by
  obtain ⟨bs, A, c, rfl, ho, hr, hc, hm⟩ := open_bytes hb kb
  obtain ⟨ps, P, d, rfl, hp, hd, hdm⟩ := open_nums hv kp
  exact gets_any bs ps A P _ _ _ d w rfl ho hr rfl hp (by unfold maxLen at *; omega) (by unfold maxLen at *; omega)
end Go.Proofs.Ytbjbpbblalcpkaa
