/- The model that bytes say: the program's walk. -/
import Derived.Test.YtaiekpdoljleeaaMoGe
import Derived.Deep.CutBlock
import Derived.Deep.DeepCutAuto
namespace Go.Proofs.Ytaiekpdoljleeaa
open Go.RowKit Go.WideShapes
set_option linter.unusedVariables false
set_option linter.unusedSimpArgs false
set_option maxRecDepth 100000 in
set_option maxHeartbeats 16000000 in
theorem get37 (bs : List Int) (A : Option Addr) (n c : Nat) (w : World) (hn : n = bs.length) (hnc : n ≤ c) (hr : Rd w A (octs bs)) (ho : Oct bs) (hm : n ≤ 1000000000) (hcm : c ≤ 9223372036854775807) :
    Calls Try.prog 37 #[.slice A n c] w (IsModel (getM bs) w) := by
  have hA : 0 < n → ∀ q, A = some q → q.block < w.heap.size := fun h0 q hq => by
    obtain ⟨b, off, e, hlt, _⟩ := hr (by rw [octs_length, ← hn]; exact h0)
    rw [hq] at e
    obtain rfl := Option.some.inj e
    exact hlt
  have hnext := fun (k : Nat) (L' : Left) (W : World) (hW : Rs w.heap.size bs A n c L' W) (hk : k ≤ 65535) => next_any w.heap.size bs A n c k L' W hn hnc hA hm hcm hW hk
  have hcode := fun (L' : Left) (W : World) (hW : Rs w.heap.size bs A n c L' W) (hk : ∀ r, L' = some r → Oct r) => code60 w.heap.size bs A n c L' W hn hnc hA hm hcm hW hk
  have HNEXT := Lib.hid hnext
  have HCODE := Lib.hid hcode
  have HAA := Lib.hid (fun h => hA (by rw [hn]; exact h))
  have HN := Lib.hid hn
  have HR := Lib.hid hr
  have HO := Lib.hid ho
  have hdef : getM bs = match partsG ((headG bs).2.getD 4 0).toNat (headG bs).1 [] with
    | none => (Md.zero, 0, 131)
    | some q => endG bs (headG bs).2 q := rfl
  have HDEF := Lib.hid hdef
  obtain ⟨R, hR⟩ : ∃ R, getM bs = R := ⟨_, rfl⟩
  rw [hR] at HDEF ⊢
  clear hnext hcode hA hn hr ho hdef hR
  have hst := store_new
  go_enter Try.func37, Try.ntmps37
  go_wp2_with fail
  obtain ⟨hrs0, hres0⟩ := rs_init bs A n c w (mdC 0 0 0 0 (.slice none 0 0) (.slice none 0 0) (.slice none 0 0)) HR.out
  unfold clo at hrs0 hres0
  unfold mdC at hrs0 hres0
  have HRES0 := Lib.hid hres0
  have HB0 := Lib.hid (((((((Below.refl w.heap.size w).alloc (Nat.le_refl _) (.cells #[.slice A n c] 37)).alloc (by simp) (.cells #[.int .i64 0, .int .i64 0, .int .i64 0, .int .i64 0, .slice none 0 0, .slice none 0 0, .slice none 0 0] 58)).alloc (by simp; omega) (.cells #[.int .i64 0] 3)).alloc (by simp; omega) (.cells #[.bool false] 4)).alloc (by simp; omega) (.cells #[clo w.heap.size] 95)))
  have hl5 := nx_len 5 (some bs)
  have ho5 := nx_oct (k := 5) (L := some bs) (fun r hr => by obtain rfl := Option.some.inj hr; exact HO.out)
  have hoL := nx_octL (k := 5) (L := some bs) (fun r hr => by obtain rfl := Option.some.inj hr; exact HO.out)
  have hhd : headG bs = nx 5 (some bs) := rfl
  rw [hhd] at HDEF
  have hcall := HNEXT.out 5 (some bs) _ hrs0 (by omega)
  refine hcall.mono ?_
  clear hrs0 hres0 hst hcall hhd
  rintro e w1 ⟨⟨gh, rfl, hgh, hbh⟩, hst1, hf1⟩
  have HF1 := Lib.hid hf1
  obtain ⟨o, hoo⟩ : ∃ o, (nx 5 (some bs)).2 = o := ⟨_, rfl⟩
  obtain ⟨L0, hL0⟩ : ∃ x, (nx 5 (some bs)).1 = x := ⟨_, rfl⟩
  rw [hoo, hL0] at HDEF
  rw [hoo] at hl5 ho5 hbh
  rw [hL0] at hst1 hoL
  clear hoo hL0 hf1
  rcases o with _ | ⟨x0, _ | ⟨x1, _ | ⟨x2, _ | ⟨x3, _ | ⟨x4, _ | ⟨x5, o⟩⟩⟩⟩⟩⟩
  · simp at hl5
  · simp at hl5
  · simp at hl5
  · simp at hl5
  · simp at hl5
  · clear hl5
    have b0 := ho5 x0 (by simp)
    have b1 := ho5 x1 (by simp)
    have b2 := ho5 x2 (by simp)
    have b3 := ho5 x3 (by simp)
    have b4 := ho5 x4 (by simp)
    have e0 := hbh.cell 0
    have e1 := hbh.cell 1
    have e2 := hbh.cell 2
    have e3 := hbh.cell 3
    have e4 := hbh.cell 4
    have el := hbh.lt
    simp [octs] at e0 e1 e2 e3 e4
    have HST1 := Lib.hid hst1
    have HOL := Lib.hid hoL
    clear hbh hst1 hoL ho5
    have v0 : IntKind.i64.wrap x0 = x0 := IntWalk.i64_in _ (by omega)
    have v1 : IntKind.i64.wrap x1 = x1 := IntWalk.i64_in _ (by omega)
    have v2 : IntKind.i64.wrap x2 = x2 := IntWalk.i64_in _ (by omega)
    have v3 : IntKind.i64.wrap x3 = x3 := IntWalk.i64_in _ (by omega)
    go_wp2_with fail
    go_region_held3 (fun w' => w'.cell? ⟨gh, 0, none⟩ = some (.int .u8 x0) ∧ w'.cell? ⟨gh, 1, none⟩ = some (.int .u8 x1) ∧ w'.cell? ⟨gh, 2, none⟩ = some (.int .u8 x2) ∧ w'.cell? ⟨gh, 3, none⟩ = some (.int .u8 x3)) (go_keep) (fail)
    clear v0 v1 v2 v3
    obtain ⟨X4, rfl⟩ : ∃ X4 : Nat, x4 = X4 := ⟨x4.toNat, by omega⟩
    simp only [List.getD_cons_zero, List.getD_cons_succ, Int.toNat_natCast] at HDEF
    obtain ⟨PR, hPR⟩ : ∃ x, partsG X4 L0 [] = x := ⟨_, rfl⟩
    rw [hPR] at HDEF
    have HPR := Lib.hid hPR
    have hwb := HF1.out.size
    have hgm : w.heap.size + 4 < w1.heap.size := HST1.out.nxt.lt
    have hgs0 : GS w.heap.size w1.heap.size bs A n c x0 x1 x2 x3 w (.slice none 0 0) L0 [] (w1.alloc (.cells (mdC x0 x1 x2 x3 (.slice none 0 0) (.slice none 0 0) (.slice none 0 0)) 58)).drew := by
      refine ⟨(HST1.out.below ((Below.refl _ _).alloc (Nat.le_refl _) _)).below (Below.drew' (Below.refl _ _)), Blk.new _ _ _, ⟨rfl, .inl ⟨rfl, rfl⟩⟩, ?_, HOL.out, ?_⟩
      · exact Below.drew' ((HB0.out.trans (HF1.out.to_below (by simp; omega) (fun k hk => by unfold SR at hk; omega))).alloc (by omega) _)
      · exact ((HRES0.out.frm HF1.out (by unfold SR; omega)).alloc _).drew
    unfold mdC at hgs0
    have HGS0 := Lib.hid hgs0
    rename_i hHeld
    clear hgs0 hPR hwb hHeld e0 e1 e2 e3
    go_upto_block 0 with fail
    clear el e4
    go_cut [40] from 10 to 90 (fun s wx => ∃ v L acc, GS w.heap.size w1.heap.size bs A n c x0 x1 x2 x3 w v L acc wx ∧ PR = some (L, acc))
    case first =>
      go_wp2_with fail
      go_loopw [40] (fun i wr => ∃ (q : Nat) (v : Value) (L : Left) (acc : List Pt), q ≤ X4 ∧ i = .int .u8 q ∧ GS w.heap.size w1.heap.size bs A n c x0 x1 x2 x3 w v L acc wr ∧ partsG (X4 - q) L acc = PR ∧ acc.length = q) (fun i _ => X4 - (intOf i).toNat)
      case atStart => exact ⟨0, _, L0, [], by omega, rfl, HGS0.out, HPR.out, rfl⟩
      case round =>
        obtain ⟨q, v, L, acc, hq, rfl, hgs, hpt, hal⟩ := hrel
        have HGS := Lib.hid hgs
        have HPT := Lib.hid hpt
        have HAL := Lib.hid hal
        clear hpt hal
        by_cases hlt : q < X4
        · have qlt : decide ((q : Int) < (X4 : Int)) = true := by simp; omega
          have c4 : wr.cell? ⟨w.heap.size + 1 + 1 + 1 + 1, 0, none⟩ = some (.func (.func 59) #[] #[.pointer (some ⟨w.heap.size + 3, 0, none⟩), .pointer (some ⟨w.heap.size, 0, none⟩), .pointer (some ⟨w.heap.size + 2, 0, none⟩)]) := hgs.rs.nxt.cell 0
          clear hgs
          obtain ⟨m, hm⟩ : ∃ m, X4 - q = m + 1 := ⟨X4 - q - 1, by omega⟩
          have hpt := HPT.out
          rw [hm, partsG] at hpt
          have hl1 := nx_len 1 L
          have ho1 := nx_oct (k := 1) HGS.out.oct
          have hoL := nx_octL (k := 1) HGS.out.oct
          obtain ⟨o, hoo⟩ : ∃ o, (nx 1 L).2 = o := ⟨_, rfl⟩
          obtain ⟨L2, hL2⟩ : ∃ x, (nx 1 L).1 = x := ⟨_, rfl⟩
          have hcall := HNEXT.out 1 L wr HGS.out.rs (by omega)
          rw [hoo] at hl1 ho1 hpt
          rw [hL2] at hoL hpt
          obtain ⟨k, rfl⟩ := List.length_eq_one_iff.1 hl1
          have hk := ho1 k (by simp)
          simp only [List.headD_cons] at hpt
          have HM := Lib.hid hm
          have HPT2 := Lib.hid hpt
          have HOO := Lib.hid hoo
          have HLL := Lib.hid hL2
          have HOL2 := Lib.hid hoL
          have HCALL := Lib.hid hcall
          clear hm hpt hoo hL2 hoL hcall hl1 ho1 HPT
          go_wp2_with fail
          refine HCALL.out.mono ?_
          rintro e w2 ⟨⟨gb2, rfl, hgb2, hb2⟩, hst2, hf2⟩
          rw [HOO.out] at hb2
          rw [HLL.out] at hst2
          have hgs2 := HGS.out.step hgm hst2 hf2 HOL2.out
          have e0 := hb2.cell 0
          have el := hb2.lt
          simp [octs] at e0
          have hgm2 := hgs2.mb.lt
          have hg3 : w.heap.size + 1 + 1 + 1 < w2.heap.size := by omega
          have hvb : ∀ b, v.ownBlock = some b → b < w2.heap.size := fun b hb => by
            rcases hgs2.own.2 with ⟨rfl, _⟩ | ⟨g', cap, cur, rfl, _, hg', _⟩
            · simp [Value.ownBlock] at hb
            · simp [Value.ownBlock] at hb; subst hb; exact (Array.getElem?_eq_some_iff.1 hg').1
          have HVB := Lib.hid hvb
          have HGS2 := Lib.hid (hgs2.alloc (.cells (ptZ k).cells.toArray 32))
          have HPB := Lib.hid (Blk.new w2 32 (ptZ k).cells.toArray)
          clear hb2 hf2 hvb
          rcases L2 with _ | r1
          · have s3 : w2.cell? ⟨w.heap.size + 1 + 1 + 1, 0, none⟩ = some (.bool true) := hst2.short
            simp only at HPT2
            clear hst2 hgs2
            go_wp2_with fail
            go_meet
            exact ⟨v, none, acc, HGS2.out, HPT2.out.symm⟩
          · have s3 : w2.cell? ⟨w.heap.size + 1 + 1 + 1, 0, none⟩ = some (.bool false) := hst2.long
            simp only at HPT2
            clear hst2 hgs2
            have hfd := fields56 k w2.heap.size (w2.alloc (.cells (ptZ k).cells.toArray 32)) (by rw [HPB.out.cell 0]; rfl) (by simp)
            have HFD := Lib.hid hfd
            clear hfd
            cases hkk : okK k with
            | false =>
              have HE : Hid (R = (Md.zero, 0, 131)) := Lib.hid (by
                have h1 := HPT2.out
                rw [hkk] at h1
                have h2 := HDEF.out
                rw [← h1] at h2
                exact h2)
              have hres := HGS2.out.res
              have HKK := Lib.hid hkk
              clear hkk
              go_wp2_with fail
              refine HFD.out.mono ?_
              rintro e w4 ⟨⟨F, rfl, hF⟩, hb4⟩
              rw [HKK.out]
              have HR4 := hres.below hb4
              unfold mdC at HR4
              have z0 := HR4.cell 0
              have z1 := HR4.cell 1
              have z2 := HR4.cell 2
              have z3 := HR4.cell 3
              have z4 := HR4.cell 4
              have z5 := HR4.cell 5
              have z6 := HR4.cell 6
              have y0 := HR4.frozen 0
              have y1 := HR4.frozen 1
              have y2 := HR4.frozen 2
              have y3 := HR4.frozen 3
              have y4 := HR4.frozen 4
              have y5 := HR4.frozen 5
              have y6 := HR4.frozen 6
              simp at z0 z1 z2 z3 z4 z5 z6
              have HLOW := Lib.hid ((HGS2.out.below hb4).low)
              clear hF hb4 hres HR4
              go_wp2_with fail
              rw [HE.out]
              exact bodyPost_ret (v := .tuple #[mdV 0 0 0 0 (.slice none 0 0) (.slice none 0 0) (.slice none 0 0), .int .i64 0, .int .i64 131]) (by simp [results, Try.results37, go_sem, mdV, z0, z1, z2, z3, z4, z5, z6]) rfl (zero_model _ _ _ (below_zero HLOW.out (by omega) _ _ _ _ _ _ _))
            | true =>
              rw [hkk] at HPT2
              have HKK := Lib.hid hkk
              clear hkk
              go_wp2_with fail
              refine HFD.out.mono ?_
              rintro e w4 ⟨⟨F, rfl, hF⟩, hb4⟩
              obtain ⟨gb, rfl, hfb4⟩ := hF HKK.out
              rw [HKK.out]
              obtain ⟨l, hl⟩ : ∃ l, fdsK k = l := ⟨_, rfl⟩
              have hfin := fun j (hj : j ∈ fdsK k) => fds_in hj
              have hlen6 := fdsK_length k
              have hgdef : ptG r1 k = l.foldl fdG (some r1, ptZ k) := by unfold ptG; rw [hl]
              rw [hl] at hfin hfb4 hlen6 ⊢
              have HFIN := Lib.hid hfin
              have HPT3 : Hid ((if true then partsG m (l.foldl fdG (some r1, ptZ k)).1 (acc ++ [(l.foldl fdG (some r1, ptZ k)).2]) else none) = PR) := Lib.hid (by rw [← hgdef]; exact HPT2.out)
              have HGS4 := Lib.hid (HGS2.out.below hb4)
              have HP4 := Lib.hid (HPB.out.below hb4)
              have HF4 := Lib.hid hfb4
              have hgp : w.heap.size + 4 < w2.heap.size := by omega
              have hgpm : w2.heap.size ≠ w1.heap.size := by omega
              clear hF hb4 hfb4 hfin hgdef hl
              go_wp2_with fail
              go_loopw [57] (fun i wr2 => ∃ (j : Nat) (L3 : Left) (t3 : Pt), j ≤ l.length ∧ i = .int .i64 j ∧ (l.take j).foldl fdG (some r1, ptZ k) = (L3, t3) ∧ GS w.heap.size w1.heap.size bs A n c x0 x1 x2 x3 w v L3 acc wr2 ∧ Blk wr2 w2.heap.size 32 t3.cells.toArray ∧ Blk wr2 gb 89 (flatF w2.heap.size l).toArray) (fun i _ => l.length - (intOf i).toNat)
              case atStart => exact ⟨0, some r1, ptZ k, by omega, rfl, rfl, HGS4.out, HP4.out, HF4.out⟩
              case round =>
                obtain ⟨j, L3, t3, hj, rfl, hfo, hgs3, hp3, hf3⟩ := hrel
                have HFO := Lib.hid hfo
                have HGS3 := Lib.hid hgs3
                have HP3 := Lib.hid hp3
                have HF3 := Lib.hid hf3
                clear hfo
                by_cases hlt2 : j < l.length
                · obtain ⟨jj, hjj, f0, f1, f2⟩ := fdb_at hf3 hlt2
                  obtain ⟨i1, i6⟩ := HFIN.out jj (List.mem_of_getElem? hjj)
                  have hsn := fold_snoc hjj HFO.out
                  have c4 : wr.cell? ⟨w.heap.size + 1 + 1 + 1 + 1, 0, none⟩ = some (.func (.func 59) #[] #[.pointer (some ⟨w.heap.size + 3, 0, none⟩), .pointer (some ⟨w.heap.size, 0, none⟩), .pointer (some ⟨w.heap.size + 2, 0, none⟩)]) := hgs3.rs.nxt.cell 0
                  have hg4 : w.heap.size + 1 + 1 + 1 + 1 < wr.heap.size := hgs3.rs.nxt.lt
                  have HSN := Lib.hid hsn
                  have HJJ := Lib.hid hjj
                  obtain ⟨M, hM⟩ : ∃ x, moreF jj = x := ⟨_, rfl⟩
                  obtain ⟨W, hW⟩ : ∃ x, wide jj = x := ⟨_, rfl⟩
                  rw [hM] at f2
                  rw [hW] at f1
                  have hmb : 0 ≤ M ∧ M ≤ 2048 := by rw [← hM]; unfold moreF; split <;> omega
                  have HMM := Lib.hid hM
                  have HWW := Lib.hid hW
                  have hcall := fun (L' : Left) (W : World) (hW : Rs w.heap.size bs A n c L' W) => HNEXT.out 1 L' W hW (by omega)
                  have HC1 := Lib.hid hcall
                  have hBX := Blk.new wr 89 #[.pointer (some ⟨w2.heap.size, jj, none⟩), .bool W, .int .i64 M]
                  have HBX := Lib.hid hBX
                  have hplt := hp3.lt
                  have hflt := hf3.lt
                  clear hsn hjj hM hW hcall hBX hgs3 hp3 hf3
                  have hl5 := nx_len 1 L3
                  have ho5 := nx_oct (k := 1) HGS3.out.oct
                  have hoL5 := nx_octL (k := 1) HGS3.out.oct
                  obtain ⟨o5, hoo5⟩ : ∃ o, (nx 1 L3).2 = o := ⟨_, rfl⟩
                  obtain ⟨L5, hL5⟩ : ∃ x, (nx 1 L3).1 = x := ⟨_, rfl⟩
                  rw [hoo5] at hl5 ho5
                  rw [hL5] at hoL5
                  obtain ⟨y, rfl⟩ := List.length_eq_one_iff.1 hl5
                  have hy := ho5 y (by simp)
                  have HOO5 := Lib.hid hoo5
                  have HLL5 := Lib.hid hL5
                  have HOL5 := Lib.hid hoL5
                  clear hl5 ho5 hoL5 hoo5 hL5
                  go_wp2_with fail
                  refine (HC1.out L3 _ (HGS3.out.alloc _).rs).mono ?_
                  rintro e w5 ⟨⟨gb5, rfl, hgb5, hb5⟩, hst5, hf5⟩
                  rw [HOO5.out] at hb5
                  rw [HLL5.out] at hst5
                  have hgs5 := (HGS3.out.alloc (.cells #[.pointer (some ⟨w2.heap.size, jj, none⟩), .bool W, .int .i64 M] 89)).step hgm hst5 hf5 HOL5.out
                  have hbx5 := HBX.out.frm hf5 (by unfold SR; omega)
                  have HP5 := Lib.hid ((HP3.out.alloc (.cells #[.pointer (some ⟨w2.heap.size, jj, none⟩), .bool W, .int .i64 M] 89)).frm hf5 (by unfold SR; omega))
                  have HF5 := Lib.hid ((HF3.out.alloc (.cells #[.pointer (some ⟨w2.heap.size, jj, none⟩), .bool W, .int .i64 M] 89)).frm hf5 ((HGS3.out.alloc (.cells #[.pointer (some ⟨w2.heap.size, jj, none⟩), .bool W, .int .i64 M] 89)).rs.not_sr (HF3.out.alloc _) (by decide) (by decide)))
                  have e5 := hb5.cell 0
                  have u0 := hbx5.cell 0
                  have u1 := hbx5.cell 1
                  have u2 := hbx5.cell 2
                  simp [octs] at e5 u0 u1 u2
                  have d4 : w5.cell? ⟨w.heap.size + 1 + 1 + 1 + 1, 0, none⟩ = some (.func (.func 59) #[] #[.pointer (some ⟨w.heap.size + 3, 0, none⟩), .pointer (some ⟨w.heap.size, 0, none⟩), .pointer (some ⟨w.heap.size + 2, 0, none⟩)]) := hgs5.rs.nxt.cell 0
                  have HGS5 := Lib.hid hgs5
                  have HBX5 := Lib.hid hbx5
                  clear hb5 hf5 hst5 hgs5 hbx5
                  cases W
                  · have t0 := box_at HP5.out i1 i6
                    have t1 := HP5.out.frozen jj
                    go_wp2_with fail
                    go_roundw
                    case rel =>
                      have hset : Frm (fun k => k = w2.heap.size) w5 (w5.setCell ⟨w2.heap.size, jj, none⟩ (.int .i64 (y - M))) := Frm.setCell (S := fun k => k = w2.heap.size) (p := ⟨w2.heap.size, jj, none⟩) (Frm.refl _ _) (fun _ => rfl) _
                      refine ⟨j + 1, _, t3.set jj (y - M), by omega, by go_num, (HSN.out.trans (by rw [fdG_narrow HWW.out HOO5.out HLL5.out, HMM.out])), HGS5.out.far HAA.out hgp hgpm (fun e => by have := HVB.out _ e; omega) hset, ?_, HF5.out.frm hset (fun e => Blk.ne HF5.out HP5.out (by decide) e)⟩
                      rw [set_cells t3 jj i1 i6]
                      exact HP5.out.set jj _
                    case measure => simp [intOf]; omega
                  · have hl6 := nx_len 1 L5
                    have ho6 := nx_oct (k := 1) HGS5.out.oct
                    have hoL6 := nx_octL (k := 1) HGS5.out.oct
                    obtain ⟨o6, hoo6⟩ : ∃ o, (nx 1 L5).2 = o := ⟨_, rfl⟩
                    obtain ⟨L6, hL6⟩ : ∃ x, (nx 1 L5).1 = x := ⟨_, rfl⟩
                    rw [hoo6] at hl6 ho6
                    rw [hL6] at hoL6
                    obtain ⟨z, rfl⟩ := List.length_eq_one_iff.1 hl6
                    have hz := ho6 z (by simp)
                    have HOO6 := Lib.hid hoo6
                    have HLL6 := Lib.hid hL6
                    have HOL6 := Lib.hid hoL6
                    have hor := or_long y z hy.1 hy.2 hz.1 hz.2
                    clear hl6 ho6 hoL6 hoo6 hL6
                    go_wp2_with fail
                    refine (HC1.out L5 _ HGS5.out.rs).mono ?_
                    rintro e w6 ⟨⟨gb6, rfl, hgb6, hb6⟩, hst6, hf6⟩
                    rw [HOO6.out] at hb6
                    rw [HLL6.out] at hst6
                    have hgs6 := HGS5.out.step hgm hst6 hf6 HOL6.out
                    have HP6 := Lib.hid (HP5.out.frm hf6 (by unfold SR; omega))
                    have HF6 := Lib.hid (HF5.out.frm hf6 (HGS5.out.rs.not_sr HF5.out (by decide) (by decide)))
                    have hbx6 := HBX5.out.frm hf6 (HGS5.out.rs.not_sr HBX5.out (by decide) (by decide))
                    have e6 := hb6.cell 0
                    have a0 := hbx6.cell 0
                    have a2 := hbx6.cell 2
                    simp [octs] at e6 a0 a2
                    have t0 := box_at HP6.out i1 i6
                    have t1 := HP6.out.frozen jj
                    have HGS6 := Lib.hid hgs6
                    clear hb6 hf6 hst6 hgs6 hbx6 u0 u1 u2 d4 e5
                    go_wp2_with fail
                    go_roundw
                    case rel =>
                      have hset : Frm (fun k => k = w2.heap.size) w6 (w6.setCell ⟨w2.heap.size, jj, none⟩ (.int .i64 (y * 256 + z - M))) := Frm.setCell (S := fun k => k = w2.heap.size) (p := ⟨w2.heap.size, jj, none⟩) (Frm.refl _ _) (fun _ => rfl) _
                      refine ⟨j + 1, _, t3.set jj (y * 256 + z - M), by omega, by go_num, (HSN.out.trans (by rw [fdG_wide HWW.out HOO5.out HLL5.out HOO6.out HLL6.out, HMM.out])), HGS6.out.far HAA.out hgp hgpm (fun e => by have := HVB.out _ e; omega) hset, ?_, HF6.out.frm hset (fun e => Blk.ne HF6.out HP6.out (by decide) e)⟩
                      rw [set_cells t3 jj i1 i6]
                      exact HP6.out.set jj _
                    case measure => simp [intOf]; omega
                · obtain rfl : j = l.length := by omega
                  have hfo := HFO.out
                  rw [List.take_of_length_le (Nat.le_refl _)] at hfo
                  have hpt := HPT3.out
                  rw [hfo] at hpt
                  simp only [if_true] at hpt
                  have HPT4 := Lib.hid hpt
                  have hvb := HVB.out
                  obtain ⟨Av, cv, rfl, hcv⟩ := own_slice hgs3.own
                  have m4 := hgs3.mb.cell 4
                  have mlt := hgs3.mb.lt
                  have hal := HAL.out
                  have p0 : wr.cell? ⟨w2.heap.size, 0, none⟩ = some (.int .u8 t3.k) := hp3.cell 0
                  have p1 : wr.cell? ⟨w2.heap.size, 1, none⟩ = some (.int .i64 t3.s) := hp3.cell 1
                  have p2 : wr.cell? ⟨w2.heap.size, 2, none⟩ = some (.int .i64 t3.a) := hp3.cell 2
                  have p3 : wr.cell? ⟨w2.heap.size, 3, none⟩ = some (.int .i64 t3.b) := hp3.cell 3
                  have p4 : wr.cell? ⟨w2.heap.size, 4, none⟩ = some (.int .i64 t3.c) := hp3.cell 4
                  have p5 : wr.cell? ⟨w2.heap.size, 5, none⟩ = some (.int .i64 t3.r) := hp3.cell 5
                  have p6 : wr.cell? ⟨w2.heap.size, 6, none⟩ = some (.int .i64 t3.l) := hp3.cell 6
                  simp [mdC] at m4
                  have hg4 := hgs3.rs.nxt.lt
                  have hal255 : acc.length ≤ 255 := by omega
                  have HT1 := Lib.hid t3.cells_one
                  clear hfo hpt hf3 hgs3 hp3 hcv hvb hal
                  go_wp2_with (at_builtin; refine wpList_appS2 tPts rfl (.tmp 85) (.tmp 87) rfl w.heap.size _ acc.length _ rfl HGS3.out.own #[.int .u8 t3.k, .int .i64 t3.s, .int .i64 t3.a, .int .i64 t3.b, .int .i64 t3.c, .int .i64 t3.r, .int .i64 t3.l] rfl HT1.out _ rfl rfl (by omega) (by unfold maxLen; omega) (by omega) ?_; intro v7 w7 o7 hg7 hb7; have hm7 := HGS3.out.mb.grown HGS3.out.own (by decide) hg7; have k4 := hm7.cell 4; have fz4 := hm7.frozen 4; simp [mdC] at k4; have HG7 := Lib.hid hg7; have HO7 := Lib.hid o7; have HB7 := Lib.hid hb7; obtain ⟨A7, c7, rfl, hc7⟩ := own_slice o7; clear hg7 o7 hb7 hm7 hc7)
                  go_roundw
                  case rel =>
                    refine ⟨q + 1, _, L3, acc ++ [t3], by omega, by go_num, HGS3.out.grow hgm HAA.out HG7.out HO7.out HB7.out, ?_, ?_⟩
                    · have hm := HM.out
                      rw [show X4 - (q + 1) = m by omega]
                      exact HPT4.out
                    · have := HAL.out; simp; omega
                  case measure => simp [intOf]; omega
        · obtain rfl : q = X4 := by omega
          have hpt := HPT.out
          rw [Nat.sub_self, partsG] at hpt
          have HPT2 := Lib.hid hpt
          have qlt : decide ((q : Int) < (q : Int)) = false := by simp
          clear hgs hpt
          go_wp2_with fail
          go_meet
          exact ⟨v, L, acc, HGS.out, HPT2.out.symm⟩
    case rest =>
      obtain ⟨v, L, acc, hgs, hpr⟩ := hcut
      have hdef := HDEF.out
      rw [hpr] at hdef
      simp only at hdef
      obtain ⟨hok, hlen⟩ := parts_ok _ _ _ _ _ HOL.out (by intro t ht; cases ht) (HPR.out.trans hpr)
      simp at hlen
      obtain ⟨Av, cv, rfl, hcv⟩ := own_slice hgs.own
      have HGS := Lib.hid hgs
      have HOK := Lib.hid hok
      have ho1 := codeG_octL hgs.oct
      have hle1 := codeG_le hgs.oct
      have ho2 := codeG_octL ho1
      have hle2 := codeG_le ho1
      have hoc1 := codeG_oct hgs.oct
      have hc1 := HCODE.out L wc hgs.rs hgs.oct
      unfold endG at hdef
      simp only [List.getD_cons_zero, List.getD_cons_succ] at hdef
      have HDF := Lib.hid hdef
      have HO1 := Lib.hid ho1
      have HO2 := Lib.hid ho2
      have HC1 := Lib.hid hc1
      have hmb := hgs.mb.lt
      clear hok hgs hpr hdef ho1 ho2 hc1 hoc1 HDEF HPR HGS0 HST1 HOL
      go_wp2_with fail
      refine HC1.out.mono ?_
      rintro e w5 ⟨⟨ga, rfl, hga, hba⟩, hst5, hf5⟩
      have hgs5 := HGS.out.step hgm hst5 hf5 HO1.out
      obtain ⟨C, hC⟩ : ∃ x, (codeG L).2 = x := ⟨_, rfl⟩
      obtain ⟨L1, hL1⟩ : ∃ x, (codeG L).1 = x := ⟨_, rfl⟩
      rw [hC, hL1] at HDF
      rw [hC] at hba hle1 ⊢
      rw [hL1] at hst5 hgs5 HO2 HO1 hle2
      clear hC hL1
      have m5 := hgs5.mb.cell 5
      have f5 := hgs5.mb.frozen 5
      simp [mdC] at m5
      have hg6 := hgs5.put hgm HAA.out 5 (.slice (some ⟨ga, 0, none⟩) C.length C.length) (.slice (some ⟨ga, 0, none⟩) C.length C.length) (.slice none 0 0) rfl
      have hba6 := hba.far (p := ⟨w1.heap.size, 5, none⟩) (Blk.ne hba hgs5.mb (by decide)) (.slice (some ⟨ga, 0, none⟩) C.length C.length)
      have hc2 := HCODE.out L1 _ hg6.rs hg6.oct
      have HC2 := Lib.hid hc2
      have HG6 := Lib.hid hg6
      have HBA6 := Lib.hid hba6
      clear hgs5 hst5 hf5 hba hg6 hba6 hc2
      go_wp2_with fail
      refine HC2.out.mono ?_
      rintro e w7 ⟨⟨gd, rfl, hgd, hbd⟩, hst7, hf7⟩
      have hgs7 := HG6.out.step hgm hst7 hf7 HO2.out
      obtain ⟨D, hD⟩ : ∃ x, (codeG L1).2 = x := ⟨_, rfl⟩
      obtain ⟨L2, hL2⟩ : ∃ x, (codeG L1).1 = x := ⟨_, rfl⟩
      rw [hD, hL2] at HDF
      rw [hD] at hbd hle2 ⊢
      rw [hL2] at hst7 hgs7 HO2
      clear hD hL2
      have m6 := hgs7.mb.cell 6
      have f6 := hgs7.mb.frozen 6
      simp [mdC] at m6
      have hg8 := hgs7.put hgm HAA.out 6 (.slice (some ⟨gd, 0, none⟩) D.length D.length) (.slice (some ⟨ga, 0, none⟩) C.length C.length) (.slice (some ⟨gd, 0, none⟩) D.length D.length) rfl
      have hba7 := HBA6.out.frm hf7 (HG6.out.rs.not_sr HBA6.out (by decide) (by decide))
      have hba8 := hba7.far (p := ⟨w1.heap.size, 6, none⟩) (Blk.ne hba7 hgs7.mb (by decide)) (.slice (some ⟨gd, 0, none⟩) D.length D.length)
      have hbd8 := hbd.far (p := ⟨w1.heap.size, 6, none⟩) (Blk.ne hbd hgs7.mb (by decide)) (.slice (some ⟨gd, 0, none⟩) D.length D.length)
      have HG8 := Lib.hid hg8
      have hga0 : w.heap.size ≤ ga := by have := HGS.out.rs.nxt.lt; omega
      have hgd0 : w.heap.size ≤ gd := by have := HG6.out.rs.nxt.lt; omega
      have HBA8 := Lib.hid hba8
      have HBD8 := Lib.hid hbd8
      have hb3 : ¬ (w.heap.size + 1 + 1 + 1 = w1.heap.size) := by omega
      have hb3' : ¬ (w1.heap.size = w.heap.size + 1 + 1 + 1) := by omega
      have hb1 : ¬ (w.heap.size + 1 = w1.heap.size) := by omega
      have hb1' : ¬ (w1.heap.size = w.heap.size + 1) := by omega
      have hg14 : w.heap.size ≤ w.heap.size + 1 := by omega
      rcases L2 with _ | rest
      · have s3 : w7.cell? ⟨w.heap.size + 1 + 1 + 1, 0, none⟩ = some (.bool true) := hst7.short
        simp only at HDF
        have z0 := hgs7.res.cell 0
        have y0 := hgs7.res.frozen 0
        have z1 := hgs7.res.cell 1
        have y1 := hgs7.res.frozen 1
        have z2 := hgs7.res.cell 2
        have y2 := hgs7.res.frozen 2
        have z3 := hgs7.res.cell 3
        have y3 := hgs7.res.frozen 3
        have z4 := hgs7.res.cell 4
        have y4 := hgs7.res.frozen 4
        have z5 := hgs7.res.cell 5
        have y5 := hgs7.res.frozen 5
        have z6 := hgs7.res.cell 6
        have y6 := hgs7.res.frozen 6
        simp [mdC] at z0 z1 z2 z3 z4 z5 z6
        have hlow8 := hg8.low
        have HLOW8 := Lib.hid hlow8
        clear hgs7 hst7 hf7 hbd hba7 hba8 hbd8 hg8 hlow8
        go_wp2_with fail
        rw [HDF.out]
        exact bodyPost_ret (v := .tuple #[mdV 0 0 0 0 (.slice none 0 0) (.slice none 0 0) (.slice none 0 0), .int .i64 0, .int .i64 12]) (by simp [results, Try.results37, go_sem, mdV, z0, z1, z2, z3, z4, z5, z6, hb1, hb1']) rfl (zero_model _ _ _ (below_zero HLOW8.out hg14 _ _ _ _ _ _ _))
      · have s3 : w7.cell? ⟨w.heap.size + 1 + 1 + 1, 0, none⟩ = some (.bool false) := hst7.long
        simp only at HDF
        have m0 := hgs7.mb.cell 0
        have m1 := hgs7.mb.cell 1
        have m2 := hgs7.mb.cell 2
        have m3 := hgs7.mb.cell 3
        have m4 := hgs7.mb.cell 4
        have m5 := hgs7.mb.cell 5
        simp [mdC] at m0 m1 m2 m3 m4 m5
        have hrd := rd_own hg8.own
        have hrt := right39 ⟨x0, x1, x2, x3, acc, C, D⟩ Av (some ⟨ga, 0, none⟩) (some ⟨gd, 0, none⟩) acc.length cv C.length C.length D.length D.length _ rfl rfl rfl HOK.out hrd (by omega) (by omega) (by omega)
        obtain ⟨T, hT⟩ : ∃ T, rightM ⟨x0, x1, x2, x3, acc, C, D⟩ = T := ⟨_, rfl⟩
        rw [hT] at hrt HDF
        have HRT := Lib.hid hrt
        clear hgs7 hst7 hf7 hbd hba7 hba8 hbd8 hg8 hrd hrt hT
        go_wp2_with fail
        refine HRT.out.mono ?_
        rintro e w9 ⟨rfl, hb9⟩
        have hg9 := HG8.out.below hb9
        have HBA9 := Lib.hid (HBA8.out.below hb9)
        have HBD9 := Lib.hid (HBD8.out.below hb9)
        have HG9 := Lib.hid hg9
        have z0 := hg9.res.cell 0
        have y0 := hg9.res.frozen 0
        have z1 := hg9.res.cell 1
        have y1 := hg9.res.frozen 1
        have z2 := hg9.res.cell 2
        have y2 := hg9.res.frozen 2
        have z3 := hg9.res.cell 3
        have y3 := hg9.res.frozen 3
        have z4 := hg9.res.cell 4
        have y4 := hg9.res.frozen 4
        have z5 := hg9.res.cell 5
        have y5 := hg9.res.frozen 5
        have z6 := hg9.res.cell 6
        have y6 := hg9.res.frozen 6
        simp [mdC] at z0 z1 z2 z3 z4 z5 z6
        clear hb9 HG8 HBA8 HBD8 HRT m0 m1 m2 m3 m4 m5 m6 f6 s3
        by_cases hT0 : T = 0
        · subst hT0
          obtain ⟨a, han, ha2, hL | hL⟩ := hg9.rs.pos
          · obtain rfl := Option.some.inj hL.1
            have hlr : (bs.length : Int) - ((bs.drop a).length : Int) = (a : Int) := by have := HN.out; rw [List.length_drop]; omega
            have HDF2 : Hid (R = (⟨x0, x1, x2, x3, acc, C, D⟩, (a : Int), 0)) := Lib.hid (by have := HDF.out; rwa [if_pos rfl, hlr] at this)
            have n0 := hg9.mb.cell 0
            have n1 := hg9.mb.cell 1
            have n2 := hg9.mb.cell 2
            have n3 := hg9.mb.cell 3
            have n4 := hg9.mb.cell 4
            have n5 := hg9.mb.cell 5
            have n6 := hg9.mb.cell 6
            have na : w9.cell? ⟨w.heap.size + 1 + 1, 0, none⟩ = some (.int .i64 (a : Int)) := ha2.cell 0
            simp [mdC] at n0 n1 n2 n3 n4 n5 n6
            have hlow9 := hg9.low
            have HLOW9 := Lib.hid hlow9
            have hrd9 := rd_own hg9.own
            have HRD9 := Lib.hid hrd9
            have hq1 : w.heap.size + 1 ≠ w1.heap.size := by omega
            have hq2 : w.heap.size + 1 ≠ w.heap.size + 1 + 1 := by omega
            clear hg9 hlow9 hrd9 ha2 hL hlr HDF
            go_wp2_with fail
            go_region_held3 (fun w' => w'.cell? ⟨w1.heap.size, 0, none⟩ = some (.int .i64 x0) ∧ w'.cell? ⟨w1.heap.size, 1, none⟩ = some (.int .i64 x1) ∧ w'.cell? ⟨w1.heap.size, 2, none⟩ = some (.int .i64 x2) ∧ w'.cell? ⟨w1.heap.size, 3, none⟩ = some (.int .i64 x3) ∧ w'.cell? ⟨w1.heap.size, 4, none⟩ = some (.slice Av acc.length cv) ∧ w'.cell? ⟨w1.heap.size, 5, none⟩ = some (.slice (some ⟨ga, 0, none⟩) C.length C.length) ∧ w'.cell? ⟨w1.heap.size, 6, none⟩ = some (.slice (some ⟨gd, 0, none⟩) D.length D.length) ∧ w'.cell? ⟨w.heap.size + 1 + 1, 0, none⟩ = some (.int .i64 (a : Int))) (go_keep) (fail)
            go_wp2_with fail
            rw [HDF2.out]
            have hfr := frm_seven (g := w.heap.size + 1) w9 (.int .i64 x0) (.int .i64 x1) (.int .i64 x2) (.int .i64 x3) (.slice Av acc.length cv) (.slice (some ⟨ga, 0, none⟩) C.length C.length) (.slice (some ⟨gd, 0, none⟩) D.length D.length)
            have hown := hfr.own HG9.out.own (fun k hk e => HG9.out.res.apart HG9.out.own (by decide) _ hk e)
            have hba := HBA9.out.frm hfr (Blk.ne HBA9.out HG9.out.res (by decide))
            have hbd := HBD9.out.frm hfr (Blk.ne HBD9.out HG9.out.res (by decide))
            have hlow10 := below_zero HLOW9.out hg14 (.int .i64 x0) (.int .i64 x1) (.int .i64 x2) (.int .i64 x3) (.slice Av acc.length cv) (.slice (some ⟨ga, 0, none⟩) C.length C.length) (.slice (some ⟨gd, 0, none⟩) D.length D.length)
            have hM : IsModel (⟨x0, x1, x2, x3, acc, C, D⟩, (a : Int), 0) w (.returned (.tuple #[mdV x0 x1 x2 x3 (.slice Av acc.length cv) (.slice (some ⟨ga, 0, none⟩) C.length C.length) (.slice (some ⟨gd, 0, none⟩) D.length D.length), .int .i64 (a : Int), .int .i64 0])) _ := ⟨⟨Av, some ⟨ga, 0, none⟩, some ⟨gd, 0, none⟩, cv, C.length, D.length, rfl, hcv, rd_own hown, own_of_blk hba hga0 hle1, own_of_blk hbd hgd0 hle2⟩, hlow10⟩
            have hblk := (blk_seven HG9.out.res (.int .i64 x0) (.int .i64 x1) (.int .i64 x2) (.int .i64 x3) (.slice Av acc.length cv) (.slice (some ⟨ga, 0, none⟩) C.length C.length) (.slice (some ⟨gd, 0, none⟩) D.length D.length)).drew
            have hM2 := hM.drew
            clear hfr hown hba hbd hlow10 hM z0 z1 z2 z3 z4 z5 z6 y0 y1 y2 y3 y4 y5 y6 n0 n1 n2 n3 n4 n5 n6 na
            obtain ⟨W11, hW11⟩ : ∃ x, (((((((w9.setCell ⟨w.heap.size + 1, 0, none⟩ (.int .i64 x0)).setCell ⟨w.heap.size + 1, 1, none⟩ (.int .i64 x1)).setCell ⟨w.heap.size + 1, 2, none⟩ (.int .i64 x2)).setCell ⟨w.heap.size + 1, 3, none⟩ (.int .i64 x3)).setCell ⟨w.heap.size + 1, 4, none⟩ (.slice Av acc.length cv)).setCell ⟨w.heap.size + 1, 5, none⟩ (.slice (some ⟨ga, 0, none⟩) C.length C.length)).setCell ⟨w.heap.size + 1, 6, none⟩ (.slice (some ⟨gd, 0, none⟩) D.length D.length)).drew = x := ⟨_, rfl⟩
            rw [hW11] at hblk hM2 ⊢
            have r0 := hblk.cell 0
            have r1 := hblk.cell 1
            have r2 := hblk.cell 2
            have r3 := hblk.cell 3
            have r4 := hblk.cell 4
            have r5 := hblk.cell 5
            have r6 := hblk.cell 6
            simp at r0 r1 r2 r3 r4 r5 r6
            exact bodyPost_ret (v := .tuple #[mdV x0 x1 x2 x3 (.slice Av acc.length cv) (.slice (some ⟨ga, 0, none⟩) C.length C.length) (.slice (some ⟨gd, 0, none⟩) D.length D.length), .int .i64 (a : Int), .int .i64 0]) (by simp [results, Try.results37, go_sem, mdV, r0, r1, r2, r3, r4, r5, r6]) rfl hM2
          · cases hL.1
        · have q0 : (T != 0) = true := by simpa using hT0
          have HDF2 : Hid (R = (Md.zero, 0, 131)) := Lib.hid (by have := HDF.out; rwa [if_neg hT0] at this)
          have hlow9 := hg9.low
          have HLOW9 := Lib.hid hlow9
          clear hg9 hlow9 hT0
          go_wp2_with fail
          rw [HDF2.out]
          exact bodyPost_ret (v := .tuple #[mdV 0 0 0 0 (.slice none 0 0) (.slice none 0 0) (.slice none 0 0), .int .i64 0, .int .i64 131]) (by simp [results, Try.results37, go_sem, mdV, z0, z1, z2, z3, z4, z5, z6]) rfl (zero_model _ _ _ (below_zero HLOW9.out hg14 _ _ _ _ _ _ _))
  · simp at hl5
end Go.Proofs.Ytaiekpdoljleeaa
