/- CodeBack's walk: any instruction, any place, any bytes: true; nothing that was there is written. No condition. -/
import Derived.Test.YtaiekpdoljleeaaCoAwake
import Derived.Test.YtaiekpdoljleeaaCoBk3
import Derived.OpenShut
import Derived.ChangeSlices
import Derived.Lib.SmallJoins
namespace Go.Proofs.Ytaiekpdoljleeaa
open Go.RowKit Go.WideShapes Go.ChangeShapes
set_option linter.unusedVariables false
set_option maxRecDepth 100000 in
theorem open_bytes {H : Type} {enc : TypeId × Value → H} {base : Nat} {d : DataW H} {ps : List MemPlace} {v : Value} {w : World} (hv : Value.okWide Try.prog w .any base 37 v) (hk : DataW.Trod enc Try.prog w 0 (fun _ => true) true 37 v d ps) :
    ∃ bs A c, v = .slice A bs.length c ∧ Oct bs ∧ Rd w A (octs bs) ∧ bs.length ≤ c ∧ c ≤ maxLen := by
  obtain ⟨a, len, cap, rfl⟩ := okWide_slice Try.underlying37 hv
  obtain ⟨fuel, hf⟩ := hk
  rcases open_ints Try.underlying37 Try.underlying5 (by kernel_rfl) hf with ⟨hcs, _⟩ | ⟨x, l, c, zs, hcs, _, hl, hm, hz, _, hcell, hwz⟩
  · simp [Value.cells] at hcs
    obtain ⟨rfl, rfl, rfl⟩ := hcs
    exact ⟨[], none, 0, rfl, (by intro x hx; cases hx), Rd.nil _ _, Nat.le_refl _, by simp [maxLen]⟩
  · simp [Value.cells] at hcs
    obtain ⟨rfl, rfl, rfl⟩ := hcs
    simp at hz
    refine ⟨zs.take len, some x, cap, by rw [List.length_take]; congr 1; omega, (Oct.of_wf hwz).take len, fun hn => ?_, by rw [List.length_take]; omega, hm⟩
    rw [octs_length, List.length_take] at hn
    obtain ⟨b, off, spot⟩ := x
    have h0 := hcell 0 (by omega)
    have hspot : spot = none := by simpa [Addr.add] using World.cell?_spot h0
    subst hspot
    refine ⟨b, off, rfl, block_lt_of_cell h0, fun i u hu => ?_⟩
    unfold octs at hu
    rw [List.getElem?_map, List.getElem?_take] at hu
    have hi : i < zs.length := by
      rcases Nat.lt_or_ge i zs.length with h | h
      · exact h
      · rw [List.getElem?_eq_none h] at hu; split at hu <;> cases hu
    have := hcell i hi
    rw [addr_add] at this
    rw [this]
    split at hu
    · rw [List.getElem?_eq_getElem hi] at hu
      rw [List.getD_eq_getElem?_getD, List.getElem?_eq_getElem hi]
      simpa using hu
    · cases hu
theorem open_in {H : Type} {enc : TypeId × Value → H} {base : Nat} {d : DataW H} {ps : List MemPlace} {v : Value} {w : World} (hv : Value.okWide Try.prog w .any base 36 v) (hk : DataW.Trod enc Try.prog w 0 (fun _ => true) true 36 v d ps) : ∃ t : In, v = t.agg ∧ t.ok := by
  obtain ⟨v0, v1, v2, v3, y0, y1, y2, y3, n, rfl, _, _, t0, t1, t2, t3⟩ := Go.Joins.open_agg4 Try.underlying36 (by kernel_rfl) (by kernel_rfl) hv hk
  obtain ⟨n0, e0, _, wf0⟩ := DataW.trod_int Try.underlying34 t0
  obtain ⟨n1, e1, _, wf1⟩ := DataW.trod_int Try.underlying3 t1
  obtain ⟨n2, e2, _, wf2⟩ := DataW.trod_int Try.underlying3 t2
  obtain ⟨n3, e3, _, wf3⟩ := DataW.trod_int Try.underlying3 t3
  simp at e0 e1 e2 e3
  subst e0 e1 e2 e3
  exact ⟨⟨n0, n1, n2, n3⟩, rfl, ⟨(wf_u8 wf0).1, (wf_u8 wf0).2, (wf_i64 wf1).1, (wf_i64 wf1).2, (wf_i64 wf2).1, (wf_i64 wf2).2, (wf_i64 wf3).1, (wf_i64 wf3).2⟩⟩
theorem zeros_octs (a : Nat) : List.replicate a (Value.int .u8 0) = octs (List.replicate a 0) := by simp [octs]
theorem zeros_oct (a : Nat) : Oct (List.replicate a 0) := fun x hx => by rw [List.eq_of_mem_replicate hx]; omega
theorem put_len (t : In) (a : Nat) (h0 : 0 ≤ t.o) (hr : rightI t = true) : ((putI t a).length : Int) = lenI t ∧ (putI t a).length ≤ 3 := by
  obtain ⟨o, d, s, n⟩ := t
  rw [lenI_of hr]
  rcases sh_cases o with ⟨_, h⟩ | ⟨_, h⟩ | ⟨_, h⟩ | ⟨_, h⟩ | ⟨_, h⟩ | ⟨_, h⟩ | ⟨_, h⟩ | ⟨_, h⟩ | ⟨_, h⟩ | ⟨_, h⟩
  all_goals first
    | (simp [putI, restI, moreI, h]; done)
    | (by_cases hs : s = 7 <;> simp [putI, restI, moreI, h, hs])
set_option maxRecDepth 100000 in
set_option maxHeartbeats 8000000 in
theorem codeBack_any (t : In) (x : Int) (bs : List Int) (A : Option Addr) (n c : Nat) (w : World) (ht : t.ok) (h0 : -9223372036854775808 ≤ x) (h1 : x ≤ 9223372036854775807) (hn : n = bs.length) (ho : Oct bs) (hr : Rd w A (octs bs)) (hnc : n ≤ c) (hcm : c ≤ 9223372036854775807) :
    Calls Try.prog 5 #[t.agg, .int .i64 x, .slice A n c] w fun e w' => e = .returned (.bool true) ∧ Below w.heap.size w w' := by
  have HN := Lib.hid hn
  have HO := Lib.hid ho
  have HR := Lib.hid hr
  have ho0 := ht.o0
  have hpl := pickI_lt x 1001 (by omega)
  have hpk := fun W => pick_any x 1001 1001 W rfl (by omega) (by omega) h0 h1
  obtain ⟨a, ha⟩ : ∃ a, pickI x 1001 = a := ⟨_, rfl⟩
  rw [ha] at hpl
  simp only [ha] at hpk
  have HPK := Lib.hid hpk
  clear hn ho hr hpk ha h0 h1
  obtain ⟨o, d, s, q⟩ := t
  simp only at ho0
  unfold In.agg
  simp only
  have hbox : Below w.heap.size w (w.alloc (.cells #[.int .u8 o, .int .i64 d, .int .i64 s, .int .i64 q] 36)) := (Below.refl _ _).alloc (Nat.le_refl _) _
  have hbx := Blk.new w 36 #[.int .u8 o, .int .i64 d, .int .i64 s, .int .i64 q]
  have HBOX := Lib.hid hbox
  have HBX := Lib.hid hbx
  clear hbox hbx
  by_cases hr : rightI ⟨o, d, s, q⟩ = true
  · by_cases hf : farI ⟨o, d, s, q⟩ a = true
    · have hput := fun W => put_jump ⟨o, d, s, q⟩ a W ho0 hr hf (by omega) (by omega)
      unfold In.agg at hput
      simp only at hput
      have HP := Lib.hid hput
      clear hput hr hf
      go_enter Try.func5, Try.ntmps5
      go_wp2_with fail
      refine (HPK.out _).mono ?_
      rintro e w1 ⟨rfl, rfl⟩
      go_wp2_with fail
      refine (HP.out _).mono ?_
      rintro e w2 ⟨rfl, hb2⟩
      have B2 := Lib.hid (HBOX.out.trans (hb2.mono HBOX.out.size))
      go_wp2_with fail
      have BSTART := B2
      go_loopw [12] (fun i wr => ∃ k : Nat, k ≤ n ∧ i = .int .i64 k ∧ Below w.heap.size w wr) (fun i _ => n - (intOf i).toNat)
      case atStart => exact ⟨0, by omega, rfl, BSTART.out⟩
      case round =>
        obtain ⟨k, hk, rfl, hb⟩ := hrel
        have HB := Lib.hid hb
        have hrd := HR.out.below hb rfl
        by_cases hlt : k < n ∧ n ≤ 2000
        · obtain ⟨hlt, hle⟩ := hlt
          have gle : decide ((n : Int) ≤ 2000) = true := by simp; omega
          have hget := get_any bs A n c k wr HN.out HO.out hrd (by omega)
          have hgi : getI bs k = getN bs k := by unfold getI; rw [if_neg (by rw [← HN.out]; omega)]; rfl
          rw [hgi] at hget
          rcases get_cases bs k HO.out (by rw [← HN.out]; exact hlt) with (hc | hc) | ⟨p, e, hc, hgot⟩
          · rw [hc] at hget
            unfold zI at hget
            have HG := Lib.hid hget
            clear hget hc hgi hb hrd
            go_wp2_with fail
            refine HG.out.mono ?_
            rintro e w3 ⟨rfl, hb3⟩
            unfold In.agg
            simp only
            have B3 := Lib.hid (ch0 HB.out hb3)
            clear hb3
            go_wp2_with fail
            go_roundw
            case rel => exact ⟨k + 1, by omega, by go_num, B3.out.alloc B3.out.size _⟩
            case measure => simp [intOf]; omega
          · rw [hc] at hget
            unfold zI at hget
            have HG := Lib.hid hget
            clear hget hc hgi hb hrd
            go_wp2_with fail
            refine HG.out.mono ?_
            rintro e w3 ⟨rfl, hb3⟩
            unfold In.agg
            simp only
            have B3 := Lib.hid (ch0 HB.out hb3)
            clear hb3
            go_wp2_with fail
            go_roundw
            case rel => exact ⟨k + 1, by omega, by go_num, B3.out.alloc B3.out.size _⟩
            case measure => simp [intOf]; omega
          · rw [hc] at hget
            have hput := fun W => put_yes p k W hgot.o0 hgot.right hgot.near (by omega) (by omega)
            have hrt := fun W => rightI_any p W hgot.o0
            unfold codeI at hrt
            rw [hgot.right] at hrt
            simp only [if_true] at hrt
            have hpp := hgot.put
            have hlo := hgot.lo
            have hhi : e ≤ n := by have := hgot.hi; have := HN.out; omega
            obtain ⟨P, hP⟩ : ∃ P, putI p k = P := ⟨_, rfl⟩
            simp only [hP] at hput hpp
            have hplen : P.length = e - k := by rw [hpp, List.length_take, List.length_drop]; have := HN.out; omega
            have hsl : ∀ W, Below wr.heap.size wr W → Rd W (A.map fun x => x.add k) (octs P) := fun W hW => by
              have := ((hrd.below hW rfl).drop k).take (e - k)
              rwa [show ((octs bs).drop k).take (e - k) = octs P by rw [hpp]; simp [octs]] at this
            obtain ⟨p0, p1, p2, p3⟩ := p
            unfold In.agg at hput hrt
            simp only at hput hrt
            have HG := Lib.hid hget
            have HPU := Lib.hid hput
            have HRT := Lib.hid hrt
            have HPL := Lib.hid hplen
            have HSL := Lib.hid hsl
            clear hget hput hrt hpp hP hc hgi hb hrd hgot hplen hsl
            go_wp2_with fail
            refine HG.out.mono ?_
            rintro e w3 ⟨rfl, hb3⟩
            unfold In.agg
            simp only
            have B3 := Lib.hid hb3
            have hbx := Blk.new w3 36 #[.int .u8 p0, .int .i64 p1, .int .i64 p2, .int .i64 p3]
            have HBK := Lib.hid hbx
            clear hb3 hbx
            go_wp2_with fail
            refine (HPU.out _).mono ?_
            rintro e w4 ⟨⟨A4, c4, rfl, hc4, o4⟩, hb4⟩
            have hbk := HBK.out.below hb4
            have q0 := hbk.cell 0
            have q1 := hbk.cell 1
            have q2 := hbk.cell 2
            have q3 := hbk.cell 3
            simp at q0 q1 q2 q3
            have B4 := Lib.hid (ch1 B3.out hb4)
            have O4 := Lib.hid o4
            clear hb4 hbk o4
            go_wp2_with fail
            refine (HRT.out _).mono ?_
            rintro e w5 ⟨rfl, hb5⟩
            have B5 := Lib.hid (ch0 B4.out hb5)
            have R5 := Lib.hid ((Rd.of_own O4.out).below hb5 rfl)
            clear hb5
            go_wp2_with fail
            refine (sameB1 P A4 _ P.length (e - k) c4 (c - k) w5 rfl HPL.out.symm R5.out (HSL.out _ B5.out) (by have := HPL.out; omega)).mono ?_
            rintro e w6 ⟨rfl, hb6⟩
            have B6 := Lib.hid (ch0 HB.out (ch0 B5.out hb6))
            clear hb6
            go_wp2_with fail
            go_roundw
            case rel => exact ⟨k + 1, by omega, by go_num, B6.out⟩
            case measure => simp [intOf]; omega
        · rcases Nat.lt_or_ge k n with hkn | hkn
          · have gle : decide ((n : Int) ≤ 2000) = false := by simp; omega
            clear hlt hb hrd
            go_wp2_with (go_at_call 25; refine (awakeC_any _).mono ?_; rintro e w10 ⟨rfl, hb10⟩)
            go_ret
            exact ⟨rfl, ch0 HB.out hb10⟩
          · obtain rfl : k = n := by omega
            clear hlt hb hrd
            go_wp2_with (go_at_call 25; refine (awakeC_any _).mono ?_; rintro e w10 ⟨rfl, hb10⟩)
            go_ret
            exact ⟨rfl, ch0 HB.out hb10⟩
    · have hf' : farI ⟨o, d, s, q⟩ a = false := by simpa using hf
      have hput := fun W => put_yes ⟨o, d, s, q⟩ a W ho0 hr hf' (by omega) (by omega)
      have hpo := put_oct ⟨o, d, s, q⟩ a ho0 hr
      have hbk := back_any ⟨o, d, s, q⟩ a (List.replicate a 0) (by simp) ho0 hr hf' ((zeros_oct a).append hpo)
      have hln := fun W => length_any ⟨o, d, s, q⟩ W ho0
      have hll := put_len ⟨o, d, s, q⟩ a ho0 hr
      have hl4 : 1 ≤ (putI ⟨o, d, s, q⟩ a).length := by simp [putI]
      obtain ⟨P, hP⟩ : ∃ P, putI ⟨o, d, s, q⟩ a = P := ⟨_, rfl⟩
      rw [hP] at hl4
      rw [hP] at hbk hpo hll
      simp only [hP] at hput
      rw [← hll.1] at hln
      have hl3 := hll.2
      unfold In.agg at hput hln
      simp only at hput hln
      have hq := fun W => eqIn o d s q o d s q W
      rw [inEq_same] at hq
      have HP := Lib.hid hput
      have HPO := Lib.hid hpo
      have HBK := Lib.hid hbk
      have HLN := Lib.hid hln
      clear hput hpo hbk hln hll hr hf hf' hP
      go_enter Try.func5, Try.ntmps5
      go_wp2_with fail
      refine (HPK.out _).mono ?_
      rintro e w1 ⟨rfl, rfl⟩
      go_wp2_with fail
      refine (HP.out _).mono ?_
      rintro e w2 ⟨⟨A2, c2, rfl, hc2, o2⟩, hb2⟩
      have B2 := Lib.hid (HBOX.out.trans (hb2.mono HBOX.out.size))
      have R2 := Lib.hid (Rd.of_own o2)
      have X2 := Lib.hid (HBX.out.below hb2)
      clear o2 hb2
      go_wp2_with (first | (at_make; refine wpList_mk tBytes rfl rfl _ _ rfl w2.heap.size .i64 .i64 a a a rfl rfl rfl rfl (by omega) (by unfold maxLen; omega) (Nat.le_refl _) ?_; intro w3 o3 hlt3 hb3) | (at_builtin; refine wpList_app tBytes rfl (.tmp 30) (.tmp 31) rfl w2.heap.size _ a _ rfl o3 A2 P.length c2 (octs P) rfl (by rw [octs_length]) (R2.out.below hb3 rfl) (octs_one _) (by omega) (by unfold maxLen; omega) (Nat.le_of_lt hlt3) ?_; intro v4 w4 o4 _ hb4))
      obtain ⟨A4, c4, rfl, hc4⟩ := own_slice o4
      have r4 := Rd.of_own o4
      rw [zeros_octs, show octs (List.replicate a 0) ++ octs P = octs (List.replicate a 0 ++ P) by simp [octs]] at r4
      have hgi : getI (List.replicate a 0 ++ P) a = (⟨o, d, s, q⟩, (a : Int) + P.length, 0) := by
        unfold getI
        rw [if_neg (by simp; omega)]
        exact HBK.out
      have hget := get_any (List.replicate a 0 ++ P) A4 (a + P.length) c4 a w4 (by simp) ((zeros_oct a).append HPO.out) r4 (by omega)
      rw [hgi] at hget
      have HG := Lib.hid hget
      have X4 := Lib.hid (X2.out.below (hb3.trans (hb4.mono (Nat.le_refl _))))
      have B4 := Lib.hid (B2.out.trans ((hb3.trans (hb4.mono (Nat.le_refl _))).mono B2.out.size))
      clear hget hgi r4 o4 hb4 o3 hlt3 hb3 R2
      refine HG.out.mono ?_
      rintro e w5 ⟨rfl, hb5⟩
      unfold In.agg
      simp only
      have hx := (X4.out.below hb5).alloc (.cells #[.int .u8 o, .int .i64 d, .int .i64 s, .int .i64 q] 36)
      have x0 := hx.cell 0
      have x1 := hx.cell 1
      have x2 := hx.cell 2
      have x3 := hx.cell 3
      simp at x0 x1 x2 x3
      have B5 := Lib.hid (ch0 B4.out hb5)
      clear hb5 hx
      go_wp2_with fail
      refine (HLN.out _).mono ?_
      rintro e w6 ⟨rfl, hb6⟩
      have BSTART := Lib.hid (ch1 B5.out hb6)
      clear hb6 x0 x1 x2 x3
      go_wp2_with fail
      go_loopw [12] (fun i wr => ∃ k : Nat, k ≤ n ∧ i = .int .i64 k ∧ Below w.heap.size w wr) (fun i _ => n - (intOf i).toNat)
      case atStart => exact ⟨0, by omega, rfl, BSTART.out⟩
      case round =>
        obtain ⟨k, hk, rfl, hb⟩ := hrel
        have HB := Lib.hid hb
        have hrd := HR.out.below hb rfl
        by_cases hlt : k < n ∧ n ≤ 2000
        · obtain ⟨hlt, hle⟩ := hlt
          have gle : decide ((n : Int) ≤ 2000) = true := by simp; omega
          have hget := get_any bs A n c k wr HN.out HO.out hrd (by omega)
          have hgi : getI bs k = getN bs k := by unfold getI; rw [if_neg (by rw [← HN.out]; omega)]; rfl
          rw [hgi] at hget
          rcases get_cases bs k HO.out (by rw [← HN.out]; exact hlt) with (hc | hc) | ⟨p, e, hc, hgot⟩
          · rw [hc] at hget
            unfold zI at hget
            have HG := Lib.hid hget
            clear hget hc hgi hb hrd
            go_wp2_with fail
            refine HG.out.mono ?_
            rintro e w3 ⟨rfl, hb3⟩
            unfold In.agg
            simp only
            have B3 := Lib.hid (ch0 HB.out hb3)
            clear hb3
            go_wp2_with fail
            go_roundw
            case rel => exact ⟨k + 1, by omega, by go_num, B3.out.alloc B3.out.size _⟩
            case measure => simp [intOf]; omega
          · rw [hc] at hget
            unfold zI at hget
            have HG := Lib.hid hget
            clear hget hc hgi hb hrd
            go_wp2_with fail
            refine HG.out.mono ?_
            rintro e w3 ⟨rfl, hb3⟩
            unfold In.agg
            simp only
            have B3 := Lib.hid (ch0 HB.out hb3)
            clear hb3
            go_wp2_with fail
            go_roundw
            case rel => exact ⟨k + 1, by omega, by go_num, B3.out.alloc B3.out.size _⟩
            case measure => simp [intOf]; omega
          · rw [hc] at hget
            have hput := fun W => put_yes p k W hgot.o0 hgot.right hgot.near (by omega) (by omega)
            have hrt := fun W => rightI_any p W hgot.o0
            unfold codeI at hrt
            rw [hgot.right] at hrt
            simp only [if_true] at hrt
            have hpp := hgot.put
            have hlo := hgot.lo
            have hhi : e ≤ n := by have := hgot.hi; have := HN.out; omega
            obtain ⟨P, hP⟩ : ∃ P, putI p k = P := ⟨_, rfl⟩
            simp only [hP] at hput hpp
            have hplen : P.length = e - k := by rw [hpp, List.length_take, List.length_drop]; have := HN.out; omega
            have hsl : ∀ W, Below wr.heap.size wr W → Rd W (A.map fun x => x.add k) (octs P) := fun W hW => by
              have := ((hrd.below hW rfl).drop k).take (e - k)
              rwa [show ((octs bs).drop k).take (e - k) = octs P by rw [hpp]; simp [octs]] at this
            obtain ⟨p0, p1, p2, p3⟩ := p
            unfold In.agg at hput hrt
            simp only at hput hrt
            have HG := Lib.hid hget
            have HPU := Lib.hid hput
            have HRT := Lib.hid hrt
            have HPL := Lib.hid hplen
            have HSL := Lib.hid hsl
            clear hget hput hrt hpp hP hc hgi hb hrd hgot hplen hsl
            go_wp2_with fail
            refine HG.out.mono ?_
            rintro e w3 ⟨rfl, hb3⟩
            unfold In.agg
            simp only
            have B3 := Lib.hid hb3
            have hbx := Blk.new w3 36 #[.int .u8 p0, .int .i64 p1, .int .i64 p2, .int .i64 p3]
            have HBK := Lib.hid hbx
            clear hb3 hbx
            go_wp2_with fail
            refine (HPU.out _).mono ?_
            rintro e w4 ⟨⟨A4, c4, rfl, hc4, o4⟩, hb4⟩
            have hbk := HBK.out.below hb4
            have q0 := hbk.cell 0
            have q1 := hbk.cell 1
            have q2 := hbk.cell 2
            have q3 := hbk.cell 3
            simp at q0 q1 q2 q3
            have B4 := Lib.hid (ch1 B3.out hb4)
            have O4 := Lib.hid o4
            clear hb4 hbk o4
            go_wp2_with fail
            refine (HRT.out _).mono ?_
            rintro e w5 ⟨rfl, hb5⟩
            have B5 := Lib.hid (ch0 B4.out hb5)
            have R5 := Lib.hid ((Rd.of_own O4.out).below hb5 rfl)
            clear hb5
            go_wp2_with fail
            refine (sameB1 P A4 _ P.length (e - k) c4 (c - k) w5 rfl HPL.out.symm R5.out (HSL.out _ B5.out) (by have := HPL.out; omega)).mono ?_
            rintro e w6 ⟨rfl, hb6⟩
            have B6 := Lib.hid (ch0 HB.out (ch0 B5.out hb6))
            clear hb6
            go_wp2_with fail
            go_roundw
            case rel => exact ⟨k + 1, by omega, by go_num, B6.out⟩
            case measure => simp [intOf]; omega
        · rcases Nat.lt_or_ge k n with hkn | hkn
          · have gle : decide ((n : Int) ≤ 2000) = false := by simp; omega
            clear hlt hb hrd
            go_wp2_with (go_at_call 25; refine (awakeC_any _).mono ?_; rintro e w10 ⟨rfl, hb10⟩)
            go_ret
            exact ⟨rfl, ch0 HB.out hb10⟩
          · obtain rfl : k = n := by omega
            clear hlt hb hrd
            go_wp2_with (go_at_call 25; refine (awakeC_any _).mono ?_; rintro e w10 ⟨rfl, hb10⟩)
            go_ret
            exact ⟨rfl, ch0 HB.out hb10⟩
  · have hput := fun W => put_no ⟨o, d, s, q⟩ a W ho0 (by simpa using hr)
    unfold In.agg at hput
    simp only at hput
    have HP := Lib.hid hput
    clear hput hr
    go_enter Try.func5, Try.ntmps5
    go_wp2_with fail
    refine (HPK.out _).mono ?_
    rintro e w1 ⟨rfl, rfl⟩
    go_wp2_with fail
    refine (HP.out _).mono ?_
    rintro e w2 ⟨rfl, hb2⟩
    have B2 := Lib.hid (HBOX.out.trans (hb2.mono HBOX.out.size))
    go_wp2_with fail
    have BSTART := B2
    go_loopw [12] (fun i wr => ∃ k : Nat, k ≤ n ∧ i = .int .i64 k ∧ Below w.heap.size w wr) (fun i _ => n - (intOf i).toNat)
    case atStart => exact ⟨0, by omega, rfl, BSTART.out⟩
    case round =>
      obtain ⟨k, hk, rfl, hb⟩ := hrel
      have HB := Lib.hid hb
      have hrd := HR.out.below hb rfl
      by_cases hlt : k < n ∧ n ≤ 2000
      · obtain ⟨hlt, hle⟩ := hlt
        have gle : decide ((n : Int) ≤ 2000) = true := by simp; omega
        have hget := get_any bs A n c k wr HN.out HO.out hrd (by omega)
        have hgi : getI bs k = getN bs k := by unfold getI; rw [if_neg (by rw [← HN.out]; omega)]; rfl
        rw [hgi] at hget
        rcases get_cases bs k HO.out (by rw [← HN.out]; exact hlt) with (hc | hc) | ⟨p, e, hc, hgot⟩
        · rw [hc] at hget
          unfold zI at hget
          have HG := Lib.hid hget
          clear hget hc hgi hb hrd
          go_wp2_with fail
          refine HG.out.mono ?_
          rintro e w3 ⟨rfl, hb3⟩
          unfold In.agg
          simp only
          have B3 := Lib.hid (ch0 HB.out hb3)
          clear hb3
          go_wp2_with fail
          go_roundw
          case rel => exact ⟨k + 1, by omega, by go_num, B3.out.alloc B3.out.size _⟩
          case measure => simp [intOf]; omega
        · rw [hc] at hget
          unfold zI at hget
          have HG := Lib.hid hget
          clear hget hc hgi hb hrd
          go_wp2_with fail
          refine HG.out.mono ?_
          rintro e w3 ⟨rfl, hb3⟩
          unfold In.agg
          simp only
          have B3 := Lib.hid (ch0 HB.out hb3)
          clear hb3
          go_wp2_with fail
          go_roundw
          case rel => exact ⟨k + 1, by omega, by go_num, B3.out.alloc B3.out.size _⟩
          case measure => simp [intOf]; omega
        · rw [hc] at hget
          have hput := fun W => put_yes p k W hgot.o0 hgot.right hgot.near (by omega) (by omega)
          have hrt := fun W => rightI_any p W hgot.o0
          unfold codeI at hrt
          rw [hgot.right] at hrt
          simp only [if_true] at hrt
          have hpp := hgot.put
          have hlo := hgot.lo
          have hhi : e ≤ n := by have := hgot.hi; have := HN.out; omega
          obtain ⟨P, hP⟩ : ∃ P, putI p k = P := ⟨_, rfl⟩
          simp only [hP] at hput hpp
          have hplen : P.length = e - k := by rw [hpp, List.length_take, List.length_drop]; have := HN.out; omega
          have hsl : ∀ W, Below wr.heap.size wr W → Rd W (A.map fun x => x.add k) (octs P) := fun W hW => by
            have := ((hrd.below hW rfl).drop k).take (e - k)
            rwa [show ((octs bs).drop k).take (e - k) = octs P by rw [hpp]; simp [octs]] at this
          obtain ⟨p0, p1, p2, p3⟩ := p
          unfold In.agg at hput hrt
          simp only at hput hrt
          have HG := Lib.hid hget
          have HPU := Lib.hid hput
          have HRT := Lib.hid hrt
          have HPL := Lib.hid hplen
          have HSL := Lib.hid hsl
          clear hget hput hrt hpp hP hc hgi hb hrd hgot hplen hsl
          go_wp2_with fail
          refine HG.out.mono ?_
          rintro e w3 ⟨rfl, hb3⟩
          unfold In.agg
          simp only
          have B3 := Lib.hid hb3
          have hbx := Blk.new w3 36 #[.int .u8 p0, .int .i64 p1, .int .i64 p2, .int .i64 p3]
          have HBK := Lib.hid hbx
          clear hb3 hbx
          go_wp2_with fail
          refine (HPU.out _).mono ?_
          rintro e w4 ⟨⟨A4, c4, rfl, hc4, o4⟩, hb4⟩
          have hbk := HBK.out.below hb4
          have q0 := hbk.cell 0
          have q1 := hbk.cell 1
          have q2 := hbk.cell 2
          have q3 := hbk.cell 3
          simp at q0 q1 q2 q3
          have B4 := Lib.hid (ch1 B3.out hb4)
          have O4 := Lib.hid o4
          clear hb4 hbk o4
          go_wp2_with fail
          refine (HRT.out _).mono ?_
          rintro e w5 ⟨rfl, hb5⟩
          have B5 := Lib.hid (ch0 B4.out hb5)
          have R5 := Lib.hid ((Rd.of_own O4.out).below hb5 rfl)
          clear hb5
          go_wp2_with fail
          refine (sameB1 P A4 _ P.length (e - k) c4 (c - k) w5 rfl HPL.out.symm R5.out (HSL.out _ B5.out) (by have := HPL.out; omega)).mono ?_
          rintro e w6 ⟨rfl, hb6⟩
          have B6 := Lib.hid (ch0 HB.out (ch0 B5.out hb6))
          clear hb6
          go_wp2_with fail
          go_roundw
          case rel => exact ⟨k + 1, by omega, by go_num, B6.out⟩
          case measure => simp [intOf]; omega
      · rcases Nat.lt_or_ge k n with hkn | hkn
        · have gle : decide ((n : Int) ≤ 2000) = false := by simp; omega
          clear hlt hb hrd
          go_wp2_with (go_at_call 25; refine (awakeC_any _).mono ?_; rintro e w10 ⟨rfl, hb10⟩)
          go_ret
          exact ⟨rfl, ch0 HB.out hb10⟩
        · obtain rfl : k = n := by omega
          clear hlt hb hrd
          go_wp2_with (go_at_call 25; refine (awakeC_any _).mono ?_; rintro e w10 ⟨rfl, hb10⟩)
          go_ret
          exact ⟨rfl, ch0 HB.out hb10⟩
theorem codeBack_law {H : Type} {enc : TypeId × Value → H} {base base' : Nat} {di db : DataW H} {pi pb : List MemPlace} (vi : Value) (x : Int) (vb : Value) (w : World) (hx : (Lit.int .i64 x).wf = true) (hi : Value.okWide Try.prog w .any base 36 vi) (ki : DataW.Trod enc Try.prog w 0 (fun _ => true) true 36 vi di pi)
    (hb : Value.okWide Try.prog w .any base' 37 vb) (kb : DataW.Trod enc Try.prog w 0 (fun _ => true) true 37 vb db pb) :
    Calls Try.prog 5 #[vi, .int .i64 x, vb] w fun e w' => e = .returned (.bool true) ∧ Below w.heap.size w w' := by
  obtain ⟨t, rfl, hok⟩ := open_in hi ki
  obtain ⟨bs, A, c, rfl, ho, hr, hc, hm⟩ := open_bytes hb kb
  exact codeBack_any t x bs A _ c w hok (wf_i64 hx).1 (wf_i64 hx).2 rfl ho hr hc (by unfold maxLen at *; omega)
end Go.Proofs.Ytaiekpdoljleeaa
