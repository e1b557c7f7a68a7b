/- PutEntry: the walks of an entry that rolls, and of one with files. Condition: none. -/
import Derived.Test.YtlhhkmpidnegcaaVePe
namespace Go.Proofs.Ytlhhkmpidnegcaa
open Go.RowKit Go.WideShapes
set_option linter.unusedVariables false
set_option linter.unusedSimpArgs false
theorem fragB_snoc {fr : List Int} {j : Nat} {x : Int} (h : fr[j]? = some x) (h0 : 1 ≤ x) (h1 : x ≤ 1048576) : fragB (fr.take (j + 1)) = fragB (fr.take j) ++ [x / 16777216, x / 65536, x / 256 % 256, x % 256] := by
  unfold fragB
  rw [List.take_add_one, h, List.flatMap_append]
  congr 1
  show beI x 4 ++ [] = _
  rw [List.append_nil, be4 x (by omega) (by omega), show x / 65536 % 256 = x / 65536 by omega]
theorem fragB_length (fr : List Int) : (fragB fr).length = 4 * fr.length := by
  unfold fragB
  induction fr with
  | nil => rfl
  | cons x r ih => rw [List.flatMap_cons, List.length_append, ih, beI_length, List.length_cons]; omega
theorem fileB_length (d : ByteArray × List Int) : (fileB d).length = 2 + d.1.size + 4 + 4 * d.2.length := by
  unfold fileB
  rw [List.length_append, List.length_append, List.length_append, beI_length, beI_length, strI_length, fragB_length]
set_option maxRecDepth 100000 in
set_option maxHeartbeats 8000000 in
theorem putE_roll (roll : Int) (Af : Option Addr) (cf : Nat) (w : World) (h0 : 0 < roll) (h1 : roll ≤ 1048576) (hrd : RdF w Af []) : Calls Try.prog 22 #[.agg #[.int .i64 roll, .slice Af 0 cf]] w (PutE (putE roll []) w) := by
  have hp : putE roll [] = (0, 114 :: beI roll 4) := by
    unfold putE
    rw [if_neg (by rintro (h | h | h | h); omega; omega; exact absurd h.2 (by simp); exact absurd h (by decide)), if_neg (by decide), if_neg (by decide), if_pos h0]
  rw [hp]
  have hbx := (Below.refl w.heap.size w).alloc (Nat.le_refl _) (.cells #[.int .i64 roll, .slice Af 0 cf] 29)
  have hlb := hrd.below hbx
  have h39 := has39o [] Af 0 cf _ rfl hlb (by omega)
  have hkx : ∀ W, Below (w.alloc (.cells #[.int .i64 roll, .slice Af 0 cf] 29)).heap.size (w.alloc (.cells #[.int .i64 roll, .slice Af 0 cf] 29)) W → W.cell? ⟨w.heap.size, 0, none⟩ = some (.int .i64 roll) ∧ W.cell? ⟨w.heap.size, 1, none⟩ = some (.slice Af 0 cf) ∧ Below w.heap.size w W ∧ Calls Try.prog 38 #[.slice Af 0 cf] W (Quiet (.bool true) W) := fun W hW => by
    have k := (Blk.new w 29 #[.int .i64 roll, .slice Af 0 cf]).below hW
    exact ⟨k.cell 0, k.cell 1, hbx.trans (hW.mono (by simp)), named_any [] Af 0 cf W rfl (hlb.below hW).row (by omega) (fun f hf => by cases hf)⟩
  have HBX := Lib.hid hbx
  have H39 := Lib.hid (show Calls Try.prog 39 #[.slice Af 0 cf, .func (.func 52) #[] #[]] _ (Quiet (.bool false) _) from h39)
  have HKX := Lib.hid hkx
  clear hbx hlb h39 hkx hrd hp
  have d1 : decide (roll < 0) = false := decide_eq_false (by omega)
  have d2 : decide (1048576 < roll) = false := decide_eq_false (by omega)
  have d3 : decide (0 < roll) = true := decide_eq_true h0
  go_enter Try.func22, Try.ntmps22
  go_wp2_with fail
  refine (H39.out).mono ?_
  rintro e w5 ⟨rfl, hb5⟩
  obtain ⟨q0, q1, q2, q3⟩ := HKX.out w5 hb5
  have HQ3 := Lib.hid q3
  have HQ2 := Lib.hid q2
  have HB5 := Lib.hid hb5
  clear hb5 q2 q3
  go_wp2_with fail
  refine (HQ3.out).mono ?_
  rintro e w6 ⟨rfl, hb6⟩
  have HB6 := Lib.hid (HB5.out.trans (hb6.mono HB5.out.size))
  obtain ⟨p0, p1, p2, _⟩ := HKX.out w6 HB6.out
  have HP2 := Lib.hid p2
  have hbz := HB6.out.alloc HB6.out.size (.cells #[.int .u8 114] 5)
  obtain ⟨z0, z1, z2, _⟩ := HKX.out _ hbz
  have HZ2 := Lib.hid z2
  have hk := Blk.new w6 5 #[.int .u8 114]
  have HAD := Lib.hid (add32 [114] roll (some ⟨w6.heap.size, 0, none⟩) 1 1 (w6.alloc (.cells #[.int .u8 114] 5)) rfl (by have := rd_blk hk; exact this) (by omega) (by omega) (by omega) (by omega))
  clear hb6 p2 z2 hbz hk
  go_wp2_with fail
  refine (HAD.out).mono ?_
  rintro e w7 ⟨⟨A, c, rfl, hc, hl, ho⟩, hb7⟩
  have HO := Lib.hid ho
  have HB7 := Lib.hid (HZ2.out.trans (hb7.mono HZ2.out.size))
  have HZS := Lib.hid HZ2.out.size
  clear ho hb7 hl
  go_wp2
  go_ret2
  exact ⟨.inr ⟨rfl, A, c, rfl, hc, own_mono HO.out HZS.out⟩, HB7.out⟩
set_option maxRecDepth 100000 in
set_option maxHeartbeats 80000000 in
theorem putE_list (fs : List Fl) (Af : Option Addr) (nf cf : Nat) (w : World) (hrd : RdF w Af fs) (hn : fs.length = nf) (hnf : nf ≤ 200) (hnm : ∀ f ∈ fs, f.nm.size ≤ 65535) (hout : outD (fs.map Fl.dat) = false) (hnd : namedB (fs.map Fl.nm) = true) :
    Calls Try.prog 22 #[.agg #[.int .i64 0, .slice Af nf cf]] w (PutE (putE 0 (fs.map Fl.dat)) w) := by
  have hp : putE 0 (fs.map Fl.dat) = match putFs (115 :: beI (nf : Int) 2) (fs.map Fl.dat) with | none => (3, []) | some b => (0, b) := by
    unfold putE
    rw [List.length_map, hn, dat_names, if_neg (by rintro (h | h | h | h); omega; omega; omega; rw [hout] at h; cases h), if_neg (by rw [hnd]; decide), if_neg (by omega), if_neg (by omega)]
    rfl
  have hbx := (Below.refl w.heap.size w).alloc (Nat.le_refl _) (.cells #[.int .i64 0, .slice Af nf cf] 29)
  have hlb := hrd.below hbx
  have h39 := has39o fs Af nf cf _ hn hlb (by omega)
  rw [← out_dat, hout] at h39
  have hkx : ∀ W, Below (w.alloc (.cells #[.int .i64 0, .slice Af nf cf] 29)).heap.size (w.alloc (.cells #[.int .i64 0, .slice Af nf cf] 29)) W → W.cell? ⟨w.heap.size, 0, none⟩ = some (.int .i64 0) ∧ W.cell? ⟨w.heap.size, 1, none⟩ = some (.slice Af nf cf) ∧ Below w.heap.size w W ∧ Calls Try.prog 38 #[.slice Af nf cf] W (Quiet (.bool true) W) := fun W hW => by
    have k := (Blk.new w 29 #[.int .i64 0, .slice Af nf cf]).below hW
    refine ⟨k.cell 0, k.cell 1, hbx.trans (hW.mono (by simp)), ?_⟩
    rw [← hnd]
    exact named_any fs Af nf cf W hn (hlb.below hW).row (by omega) (fun f hf => by have := hnm f hf; unfold maxLen; omega)
  obtain ⟨R, hR⟩ : ∃ R, putE 0 (fs.map Fl.dat) = R := ⟨_, rfl⟩
  rw [hR] at hp ⊢
  have HPU := Lib.hid hp
  have HBX := Lib.hid hbx
  have H39 := Lib.hid h39
  have HKX := Lib.hid hkx
  have HRD := Lib.hid hrd
  have HN := Lib.hid hn
  have HNM := Lib.hid hnm
  have hov : ∀ f ∈ fs, ∀ x ∈ f.fr, 1 ≤ x ∧ x ≤ 1048576 := fun f hf x hx => by
    rw [out_dat] at hout
    have h1 := List.any_eq_false.1 hout f hf
    rw [Bool.not_eq_true] at h1
    have h2 := List.any_eq_false.1 h1 x hx
    simp only [outB, Bool.not_eq_true, Bool.or_eq_false_iff, decide_eq_false_iff_not] at h2
    omega
  have HOV := Lib.hid hov
  clear hbx hlb h39 hkx hrd hp hn hnm hout hnd hR hov
  have d5 : decide ((200 : Int) < (nf : Int)) = false := decide_eq_false (by omega)
  go_enter Try.func22, Try.ntmps22
  go_wp2_with fail
  refine (H39.out).mono ?_
  rintro e w5 ⟨rfl, hb5⟩
  obtain ⟨q0, q1, q2, q3⟩ := HKX.out w5 hb5
  have HQ3 := Lib.hid q3
  have HQ2 := Lib.hid q2
  have HB5 := Lib.hid hb5
  clear hb5 q2 q3
  go_wp2_with fail
  refine (HQ3.out).mono ?_
  rintro e w6 ⟨rfl, hb6⟩
  have HB6 := Lib.hid (HB5.out.trans (hb6.mono HB5.out.size))
  obtain ⟨p0, p1, p2, _⟩ := HKX.out w6 HB6.out
  have HP2 := Lib.hid p2
  have hbz := HB6.out.alloc HB6.out.size (.cells #[.int .u8 115] 5)
  obtain ⟨z0, z1, z2, _⟩ := HKX.out _ hbz
  have HZ2 := Lib.hid z2
  have HBZ := Lib.hid hbz
  have hk := Blk.new w6 5 #[.int .u8 115]
  have HAD := Lib.hid (add16 [115] (nf : Int) (some ⟨w6.heap.size, 0, none⟩) 1 1 (w6.alloc (.cells #[.int .u8 115] 5)) rfl (by have := rd_blk hk; exact this) (by omega) (by omega) (by omega) (by omega))
  clear hb6 p2 z2 hbz hk
  go_wp2_with fail
  refine (HAD.out).mono ?_
  rintro e w7 ⟨⟨A, c, rfl, hc, hl, ho⟩, hb7⟩
  have hb7' := HBZ.out.trans (hb7.mono HBZ.out.size)
  obtain ⟨y0, y1, y2, _⟩ := HKX.out w7 hb7'
  have HY2 := Lib.hid y2
  have HO := Lib.hid (own_mono ho HZ2.out.size)
  clear hb7 hb7' y2 ho hl
  go_wp2_with fail
  go_loopw [5, 64] (fun v i wr => ∃ (k : Nat) (b : List Int), k ≤ nf ∧ i = .int .i64 k ∧ putFs (115 :: beI (nf : Int) 2) (fs.map Fl.dat) = putFs b ((fs.map Fl.dat).drop k) ∧ wr.ownsRow w.heap.size 5 1 v b.length (octs b) ∧ b.length ≤ 65536 ∧ Below w.heap.size w wr) (fun _ i _ => nf - (intOf i).toNat)
  case atStart => exact ⟨0, _, by omega, rfl, rfl, HO.out, by rw [List.length_cons, beI_length]; omega, HY2.out⟩
  case round =>
    obtain ⟨k, b, hk, rfl, hpf, how, hbl, hlow⟩ := hrel
    obtain ⟨wo, rfl⟩ : ∃ x : World, x = wr := ⟨_, rfl⟩
    obtain ⟨Ab, cb, rfl, hcb⟩ := own_slice how
    have HPF := Lib.hid hpf
    have HOW := Lib.hid how
    have HLOW := Lib.hid hlow
    clear hpf how hlow
    by_cases hlt : k < nf
    · obtain ⟨f, hf⟩ : ∃ f, fs[k]? = some f := ⟨_, List.getElem?_eq_getElem (by rw [HN.out]; exact hlt)⟩
      obtain ⟨b1, o1, rfl, hat⟩ := (HRD.out.below HLOW.out).row.fl hf
      have k0 := hat.c0
      have k1 := hat.c1
      have hgw := hat.lt
      have hfr := (HRD.out.below HLOW.out).each f (List.mem_of_getElem? hf)
      have hns := HNM.out f (List.mem_of_getElem? hf)
      have HOX := Lib.hid (HOV.out f (List.mem_of_getElem? hf))
      have hgo : putFs b ((fs.map Fl.dat).drop k) = if 16384 < f.fr.length then none else if 65536 < (b ++ fileB f.dat).length then none else putFs (b ++ fileB f.dat) ((fs.map Fl.dat).drop (k + 1)) := by
        have hkk : k < (fs.map Fl.dat).length := by rw [List.length_map, HN.out]; exact hlt
        rw [List.drop_eq_getElem_cons hkk]
        have he : (fs.map Fl.dat)[k] = f.dat := by
          have := List.getElem?_eq_getElem hkk
          rw [List.getElem?_map, hf] at this
          injection this with this
          exact this.symm
        rw [he]
        rfl
      have hboxb := (Below.refl wo.heap.size wo).alloc (Nat.le_refl _) (.cells #[.string f.nm, .slice f.A f.n f.c] 41)
      have hbk := Blk.new wo 41 #[.string f.nm, .slice f.A f.n f.c]
      have htx := addText_yes b f.nm Ab b.length cb (wo.alloc (.cells #[.string f.nm, .slice f.A f.n f.c] 41)) rfl ((Rd.of_own HOW.out).below hboxb rfl) hcb (by omega) hns
      have HGO := Lib.hid hgo
      have HFR := Lib.hid hfr
      have HBX2 := Lib.hid hboxb
      have HBK := Lib.hid hbk
      have HTX := Lib.hid htx
      have hkn : (k : Int) < nf := by omega
      clear hf hat hfr hgo hboxb hbk htx
      obtain ⟨nm, fr, fA, fn, fc⟩ := f
      simp only at k0 k1 HGO HBX2 HBK HTX hns HOX
      go_wp2_with fail
      refine (HTX.out).mono ?_
      rintro e w8 ⟨⟨A8, c8, rfl, hc8, hl8, ho8⟩, hb8⟩
      have bx0 := (HBK.out.below hb8).cell 0
      have bx1 := (HBK.out.below hb8).cell 1
      simp at bx0 bx1
      have HO8 := Lib.hid ho8
      have HL8 := Lib.hid hl8
      have HB8 := Lib.hid (HBX2.out.trans (hb8.mono (by simp)))
      have HLW8 := Lib.hid (HLOW.out.trans (HB8.out.mono HLOW.out.size))
      clear hb8 ho8 hl8 k0 k1
      have hfl : fr.length = fn := HFR.out.len
      by_cases hbig : 16384 < fn
      · have e1 : decide ((16384 : Int) < (fn : Int)) = true := decide_eq_true (by omega)
        have HNONE := Lib.hid (show R = (3, []) by rw [HPU.out, HPF.out, HGO.out, if_pos (by rw [hfl]; exact hbig)])
        clear hfl hbig
        go_wp2_with fail
        go_ret2
        exact PutE.no (x := 3) HNONE.out (by decide) HLW8.out
      · have e1 : decide ((16384 : Int) < (fn : Int)) = false := decide_eq_false (by omega)
        have hrd8 := HFR.out.below HB8.out
        have had := add32 (b ++ (beI (nm.size : Int) 2 ++ strI nm)) (fn : Int) A8 (b.length + 2 + nm.size) c8 w8 HL8.out.symm (Rd.of_own HO8.out) hc8 (by omega) (by omega) (by omega)
        have HAD8 := Lib.hid had
        have HRD8 := Lib.hid hrd8
        have HFL := Lib.hid hfl
        clear had hrd8 hfl
        go_wp2_with fail
        refine (HAD8.out).mono ?_
        rintro e w9 ⟨⟨A9, c9, rfl, hc9, hl9, ho9⟩, hb9⟩
        have HO9 := Lib.hid ho9
        have HB9 := Lib.hid hb9
        have HL9 := Lib.hid hl9
        have bx9 := (hb9.cell (p := ⟨wo.heap.size, 1, none⟩) (block_lt_of_cell bx1)).trans bx1
        clear ho9 hb9 hl9
        go_wp2_with fail
        go_loopw [5, 88] (fun v i wr => ∃ (j : Nat), j ≤ fn ∧ i = .int .i64 j ∧ wr.ownsRow w8.heap.size 5 1 v (b.length + 2 + nm.size + 4 + 4 * j) (octs (b ++ (beI (nm.size : Int) 2 ++ strI nm) ++ beI (fn : Int) 4 ++ fragB (fr.take j))) ∧ Below w8.heap.size w8 wr) (fun _ i _ => fn - (intOf i).toNat)
        case atStart => exact ⟨0, by omega, rfl, by simpa [fragB] using HO9.out, HB9.out⟩
        case round =>
          obtain ⟨j, hj, rfl, ho, hbw⟩ := hrel
          have HO := Lib.hid ho
          have HBW := Lib.hid hbw
          clear ho hbw
          obtain ⟨Av, cv, rfl, hcv⟩ := own_slice HO.out
          by_cases hjl : j < fn
          · obtain ⟨x, hx⟩ : ∃ x, fr[j]? = some x := ⟨_, List.getElem?_eq_getElem (by rw [HFL.out]; exact hjl)⟩
            obtain ⟨b2, o2, rfl, _, hc2⟩ := (HRD8.out.fr.below HBW.out rfl).at (k := j) (u := .int .i64 x) (by rw [ints, List.getElem?_map, hx]; rfl)
            have hjn : (j : Int) < fn := by omega
            obtain ⟨hx1, hx2⟩ := HOX.out x (List.mem_of_getElem? hx)
            have HSN := Lib.hid (fragB_snoc hx hx1 hx2)
            clear hx
            go_wp2_with (at_builtin; refine wpList_lit (us := [.int .u8 (x / 16777216), .int .u8 (x / 65536), .int .u8 (x / 256 % 256), .int .u8 (x % 256)]) tBytes rfl (.tmp 92) (.tmp 104) rfl w8.heap.size _ (b.length + 2 + nm.size + 4 + 4 * j) _ rfl HO.out (by simp [Value.oneCell']) 4 rfl wr.heap.size rfl rfl (by omega) (by unfold maxLen; omega) HBW.out.size ?_; intro v3 w3 o3 hg3 hn3 hb3)
            go_roundw
            case rel =>
              refine ⟨j + 1, by omega, by go_num, ?_, HBW.out.trans hb3⟩
              rw [HSN.out, show b.length + 2 + nm.size + 4 + 4 * (j + 1) = b.length + 2 + nm.size + 4 + 4 * j + 4 by omega, ← List.append_assoc]
              have he : ∀ (l r : List Int), octs (l ++ r) = octs l ++ octs r := fun l r => by simp [octs]
              rw [he]
              exact o3
            case measure => simp [intOf]; omega
          · have hje : j = fn := by omega
            have HJE := Lib.hid hje
            have hfe : b ++ (beI (nm.size : Int) 2 ++ strI nm) ++ beI (fn : Int) 4 ++ fragB (fr.take j) = b ++ fileB (nm, fr) := by
              rw [hje, List.take_of_length_le (by rw [HFL.out]; exact Nat.le_refl _)]
              unfold fileB
              rw [HFL.out]
              simp [List.append_assoc]
            have hle : b.length + 2 + nm.size + 4 + 4 * j = (b ++ fileB (nm, fr)).length := by
              rw [List.length_append, fileB_length]
              simp only
              rw [HFL.out]
              omega
            have ho2 := HO.out
            rw [hfe, hle] at ho2
            have HO2 := Lib.hid (own_mono ho2 HLW8.out.size)
            have HLE := Lib.hid hle
            have HLW9 := Lib.hid (HLW8.out.trans (HBW.out.mono HLW8.out.size))
            clear ho2 hfe hje
            obtain ⟨M, hM⟩ : ∃ M, b.length + 2 + nm.size + 4 + 4 * j = M := ⟨_, rfl⟩
            rw [hM] at hle HLE ⊢
            by_cases hov : 65536 < M
            · have e2 : decide ((65536 : Int) < (M : Int)) = true := decide_eq_true (by omega)
              have HNONE := Lib.hid (show R = (3, []) by
                rw [HPU.out, HPF.out, HGO.out, if_neg (by rw [HFL.out]; exact hbig), if_pos (by show 65536 < (b ++ fileB (nm, fr)).length; omega)])
              clear hov hle hM
              go_wp2_with fail
              go_ret2
              exact PutE.no (x := 3) HNONE.out (by decide) HLW9.out
            · have e2 : decide ((65536 : Int) < (M : Int)) = false := decide_eq_false (by omega)
              have HOV2 := Lib.hid hov
              clear hov hle hM
              go_wp2_with fail
              go_roundw
              case rel =>
                refine ⟨k + 1, b ++ fileB (nm, fr), by omega, by go_num, ?_, ?_, ?_, HLW9.out⟩
                · rw [HPF.out, HGO.out, if_neg (by rw [HFL.out]; exact hbig), if_neg (by show ¬ 65536 < (b ++ fileB (nm, fr)).length; have := HLE.out; have := HOV2.out; omega)]
                  rfl
                · have h1 := HO2.out
                  rw [← HLE.out] at h1
                  rw [← HLE.out]
                  exact h1
                · have := HLE.out
                  have := HOV2.out
                  omega
              case measure => simp [intOf]; omega
    · have hdr : putFs (115 :: beI (nf : Int) 2) (fs.map Fl.dat) = some b := by
        rw [HPF.out, List.drop_of_length_le (by rw [List.length_map, HN.out]; omega)]
        rfl
      have hRR : R = (0, b) := by rw [HPU.out, hdr]
      have HRR := Lib.hid hRR
      clear hdr hRR
      go_wp2_with fail
      go_ret2
      rw [HRR.out]
      exact ⟨.inr ⟨rfl, Ab, cb, rfl, hcb, HOW.out⟩, HLOW.out⟩
end Go.Proofs.Ytlhhkmpidnegcaa
