/- blend: lean asks all units: walk. · blend: right, Guess, Bits: walks. · blend: Learn: walk. · blend: Contexts: walk. · math/bits.Mul of one and a small number: walks. -/
import Derived.Test.YtnohfeaamfjimaaVrBlUn
import Derived.StillTailTactics
import Derived.IntWalk
import Derived.Laws.BitsLemmas
namespace Go.Proofs.Ytnohfeaamfjimaa
open Go.RowKit Go.WideShapes
set_option linter.unusedVariables false
set_option linter.unusedSimpArgs false
theorem nilLean {k : Int} (h : 1 ≤ k ∧ k ≤ 9) (g : Nat) (w : World) : (Go.nilAhead 270 (ptU k) (.pointer (some ⟨g, 0, none⟩)) "quillpress/blend.lean").run Try.prog w = .ok (some false) w := by
  rcases kind9 h with rfl | rfl | rfl | rfl | rfl | rfl | rfl | rfl | rfl <;> kernel_rfl
theorem nilEnd {k : Int} (h : 1 ≤ k ∧ k ≤ 9) (g : Nat) (w : World) : (Go.nilAhead 270 (ptU k) (.pointer (some ⟨g, 0, none⟩)) "quillpress/blend.end").run Try.prog w = .ok (some false) w := by
  rcases kind9 h with rfl | rfl | rfl | rfl | rfl | rfl | rfl | rfl | rfl <;> kernel_rfl
structure LeanE (base B R cr : Nat) (us : List Un) (ls : List Loc) (c : Int) (bits wh : Nat) (V : Value) (w0 : World) (e : Ending) (w : World) : Prop where
  ex : ∃ A cp, e = .returned (.slice A us.length cp) ∧ BM base w B R cr us ls c bits wh (.slice A us.length cp) (leansB us c bits) ∧ ((Value.slice A us.length cp).ownBlock = V.ownBlock ∨ ∀ k, (Value.slice A us.length cp).ownBlock = some k → w0.heap.size ≤ k)
  frm : Frm (fun b => b = B ∨ V.ownBlock = some b) w0 w
/-- Under way: the first k have been asked. -/
structure LnR (base B R cr : Nat) (us : List Un) (ls : List Loc) (c : Int) (bits wh : Nat) (V : Value) (w0 : World) (k : Nat) (w : World) : Prop where
  ex : ∃ A cp, BM base w B R cr us ls c bits wh (.slice A k cp) (leansB (us.take k) c bits) ∧ ((Value.slice A k cp).ownBlock = V.ownBlock ∨ ∀ b, (Value.slice A k cp).ownBlock = some b → w0.heap.size ≤ b)
  frm : Frm (fun b => b = B ∨ V.ownBlock = some b) w0 w
theorem BM.lt {base B R cr bits wh : Nat} {us : List Un} {ls : List Loc} {c : Int} {V : Value} {L : List Int} {w : World} (h : BM base w B R cr us ls c bits wh V L) : base ≤ w.heap.size := Nat.le_trans h.geB (Nat.le_of_lt h.blk.lt)
set_option maxRecDepth 100000 in
set_option maxHeartbeats 4000000 in
theorem lean29 {base B R cr bits wh : Nat} {us : List Un} {ls : List Loc} {c : Int} {V : Value} {L : List Int} (w : World) (h : BM base w B R cr us ls c bits wh V L) (ho : UsOk us wh) (hc : 0 ≤ c ∧ c ≤ 255) (hb : bits < 8) :
    Calls Try.prog 29 #[.pointer (some ⟨B, 0, none⟩)] w (LeanE base B R cr us ls c bits wh V w) := by
  obtain ⟨A, cp, rfl, hmc⟩ := own_slice h.own
  have b0 : w.cell? ⟨B, 0, none⟩ = some (.slice (some ⟨R, 0, none⟩) us.length cr) := h.blk.cell 0
  have b4 : w.cell? ⟨B, 4, none⟩ = some (.slice A L.length cp) := h.blk.cell 4
  have z4 : w.frozen? ⟨B, 4, none⟩ = false := h.blk.frozen 4
  have hn16 := h.n
  have hcpi : (0 : Int) ≤ cp := by omega
  have hst : LnR base B R cr us ls c bits wh (.slice A L.length cp) w 0 (w.setCell ⟨B, 4, none⟩ (.slice A 0 cp)) := by
    have hoz : (Value.slice A 0 cp).ownBlock = (Value.slice A L.length cp).ownBlock := by cases A <;> rfl
    exact ⟨⟨A, cp, h.put (Below.refl _ _) (Frm.refl _ _) (own_zero h.own) (.inl hoz), .inl hoz⟩, (Frm.refl _ w).setCell (p := ⟨B, 4, none⟩) (fun _ => .inl rfl) _⟩
  have HST := Lib.hid hst
  have b0' : (w.setCell ⟨B, 4, none⟩ (.slice A 0 cp)).cell? ⟨B, 0, none⟩ = some (.slice (some ⟨R, 0, none⟩) us.length cr) := by
    obtain ⟨A', cp', hb, _⟩ := hst.ex
    exact hb.blk.cell 0
  have HL0 := Lib.hid h
  clear hst h
  go_enter Try.func29, Try.ntmps29
  go_upto_region 2 with fail
  obtain ⟨W0, hW0⟩ : ∃ x, w.setCell ⟨B, 4, none⟩ (.slice A 0 cp) = x := ⟨_, rfl⟩
  rw [hW0] at HST b0' ⊢
  clear hW0 b0 b4 z4
  go_wp2_with fail
  go_loopw [20] (fun v wr => ∃ k : Nat, k ≤ us.length ∧ v = .int .i64 k ∧ LnR base B R cr us ls c bits wh (.slice A L.length cp) w k wr) (fun v _ => us.length - (intOf v).toNat)
  case atStart => exact ⟨0, by omega, rfl, HST.out⟩
  case round =>
    obtain ⟨k, hk, rfl, ⟨Ak, cq, hm, hnew⟩, hfr⟩ := hrel
    have HM := Lib.hid hm
    have HNW := Lib.hid hnew
    have HFR := Lib.hid hfr
    have b0r : wr.cell? ⟨B, 0, none⟩ = some (.slice (some ⟨R, 0, none⟩) us.length cr) := hm.blk.cell 0
    have b4r : wr.cell? ⟨B, 4, none⟩ = some (.slice Ak k cq) := hm.blk.cell 4
    have hLk : (leansB (us.take k) c bits).length = k := by rw [leansB_length, List.length_take]; omega
    clear hnew hfr b0'
    by_cases hlt : k < us.length
    · obtain ⟨u, hu⟩ : ∃ u, us[k]? = some u := ⟨us[k], List.getElem?_eq_getElem hlt⟩
      obtain ⟨l, hl⟩ : ∃ l, ls[k]? = some l := ⟨ls[k]'(by rw [hm.len]; exact hlt), List.getElem?_eq_getElem (by rw [hm.len]; exact hlt)⟩
      obtain ⟨cur, hrow, hcur⟩ := hm.row
      have rk : wr.cell? ⟨R, k, none⟩ = some (.iface (ptU u.p.k) (.pointer (some ⟨l.g, 0, none⟩))) := (hrow.cell k).trans (hcur k u l hu hl)
      have hkk := (ho k u hu).k
      have hcall : ∀ W, Below wr.heap.size wr W → Calls Try.prog (fLean u.p.k) #[.pointer (some ⟨l.g, 0, none⟩), .pointer (some ⟨B, 1, none⟩)] W (Quiet (.int .i64 (leanU u c bits (leansB (us.take k) c bits))) W) := fun W hW => by
        have hmW := hm.below hW
        exact lean_any (hmW.ub k u l hu hl) (hLk.symm ▸ ho k u hu) (hmW.nb hLk.symm (by rw [hLk]; omega)) hc hb (leansB_ok ho c bits k)
      have hstep := leans_step hu c bits
      have hmeth := fun W => methLean hkk l.g W
      have hnil := fun W => nilLean hkk l.g W
      have hent := fun args W => enterLean hkk args W
      obtain ⟨T, hT⟩ : ∃ T, ptU u.p.k = T := ⟨_, rfl⟩
      obtain ⟨f, hf⟩ : ∃ f, fLean u.p.k = f := ⟨_, rfl⟩
      rw [hT] at rk hmeth hnil
      rw [hf] at hcall hmeth hent
      obtain ⟨d, hd⟩ : ∃ d, leanU u c bits (leansB (us.take k) c bits) = d := ⟨_, rfl⟩
      rw [hd] at hcall hstep
      have HCALL := Lib.hid hcall
      have HSTEP := Lib.hid hstep
      have HLK := Lib.hid hLk
      have hki : (k : Int) < us.length := by omega
      clear hrow hcur hcall hstep hT hf hd hkk hm hu
      go_upto_region 5 with fail
      refine wp_region_held_drew (S := (fun _ : World => True)) (by kernel_rfl) trivial (fun hHeld => ?_)
      have b4d : wr.drew.cell? ⟨B, 4, none⟩ = some (.slice Ak k cq) := b4r
      have HB0 := Lib.hid ((Below.refl wr.heap.size wr).drew)
      refine tkz (i := 0) (d := 24) rfl rfl ?_
      simp only [Act.put, zzA, zzB, zzC]
      refine tkz (i := 1) (d := 25) rfl rfl ?_
      simp only [Act.put, zzA, zzB, zzC]
      refine tkz (i := 2) (d := 26) rfl rfl ?_
      simp only [Act.put, zzA, zzB, zzC]
      refine tkz (i := 3) (d := 27) rfl rfl ?_
      simp only [Act.put, zzA, zzB, zzC]
      refine tkz (i := 4) (d := 28) rfl rfl ?_
      simp only [Act.put, zzA, zzB, zzC]
      refine tkz (i := 6) (d := 30) rfl rfl ?_
      simp only [Act.put, zzA, zzB, zzC]
      refine tkz (i := 7) (d := 31) rfl rfl ?_
      simp only [Act.put, zzA, zzB, zzC]
      refine tkz (i := 8) (d := 32) rfl rfl ?_
      simp only [Act.put, zzA, zzB, zzC]
      refine tkz (i := 9) (d := 33) rfl rfl ?_
      simp only [Act.put, zzA, zzB, zzC]
      refine tkz (i := 10) (d := 34) rfl rfl ?_
      simp only [Act.put, zzA, zzB, zzC]
      refine tkz (i := 11) (d := 35) rfl rfl ?_
      simp only [Act.put, zzA, zzB, zzC]
      refine tkz (i := 12) (d := 36) rfl rfl ?_
      simp only [Act.put, zzA, zzB, zzC]
      refine wpAnyH_ready (rs := [5, 13]) (by kernel_rfl) (by simp) ?_
      refine AllReadyH.cons (o := _) rfl (fun K hK => ?_) (AllReadyH.cons (o := _) rfl (fun K hK => ?_) AllReadyH.nil)
      · go_simp
        refine hK.out _ _ trivial (fun hHeld => ?_)
        clear hK K
        try simp only [Act.put, zzA, zzB, zzC]
        refine rdz (i := 13) rfl (fun K hK => ?_)
        go_simp
        refine (HCALL.out _ HB0.out).mono ?_
        rintro e w1 ⟨rfl, hb1⟩
        have HB1 := Lib.hid (bl_step HB0.out hb1)
        have b41 := ck b4d hb1
        clear hb1
        go_wp2_with fail
        refine hK.out _ _ trivial (fun hHeld => ?_)
        clear hK K
        try simp only [Act.put, zzA, zzB, zzC]
        refine rdz (i := 14) rfl (fun K hK => ?_)
        go_simp
        have hal := (Below.refl w1.heap.size w1).alloc (Nat.le_refl _) (.cells #[.int .i64 d] 3)
        have HN1 := Lib.hid (Blk.new w1 3 #[.int .i64 d])
        obtain ⟨gn, hgn⟩ : ∃ x, w1.heap.size = x := ⟨_, rfl⟩
        have HB2 := Lib.hid (bl_step HB1.out hal)
        have b42 := ck b41 hal
        generalize hw2 : w1.alloc (.cells #[.int .i64 d] 3) = w2 at *
        rw [hgn] at HN1 ⊢
        clear hw2 hgn hal
        refine hK.out _ _ trivial (fun hHeld => ?_)
        clear hK K
        try simp only [Act.put, zzA, zzB, zzC]
        refine rdz (i := 15) rfl (fun K hK => ?_)
        have hown := (HM.out.below HB2.out).own
        rw [HLK.out] at hown
        have HOWN := Lib.hid hown
        have HBS := Lib.hid (HM.out.below HB2.out).lt
        clear hown
        refine step_appN tInts rfl (.tmp 29) (.tmp 38) rfl base (.slice Ak k cq) k _ rfl HOWN.out ⟨gn, 0, none⟩ 1 1 [.int .i64 d] rfl rfl (fun jj u hu => by rw [addr_add, Nat.zero_add, HN1.out.cell]; simpa using hu) (by simp [Value.oneCell']) (by omega) (by unfold maxLen; omega) HBS.out ?_
        intro V3 w3 ho3 hg3 hn3
        obtain ⟨A3, c3, rfl, _⟩ := own_slice ho3
        have HO3 := Lib.hid ho3
        have hf3 : Frm (fun b => (Value.slice Ak k cq).ownBlock = some b) w2 w3 := Frm.of_grown hg3 (fun b hb => hb)
        have hm2 := HM.out.below HB2.out
        have b43 : w3.cell? ⟨B, 4, none⟩ = some (.slice Ak k cq) := (hf3.cell (block_lt_of_cell b42) hm2.ownB).trans b42
        have z43 : w3.frozen? ⟨B, 4, none⟩ = false := (hm2.blk.frm hf3 hm2.ownB).frozen 4
        have HF3 := Lib.hid hf3
        have HN3 := Lib.hid hn3
        clear ho3 hg3 hf3 hm2 hn3
        refine hK.out _ _ trivial (fun hHeld => ?_)
        clear hK K
        try simp only [Act.put, zzA, zzB, zzC]
        refine tkz (i := 16) (d := 40) rfl rfl ?_
        simp only [Act.put, zzA, zzB, zzC]
        refine tkz (i := 17) (d := 41) rfl rfl ?_
        simp only [Act.put, zzA, zzB, zzC]
        refine tkz (i := 18) (d := 42) rfl rfl ?_
        simp only [Act.put, zzA, zzB, zzC]
        refine rdz (i := 19) rfl (fun K hK => ?_)
        go_simp
        refine hK.out _ _ trivial (fun hHeld => ?_)
        clear hK K
        try simp only [Act.put, zzA, zzB, zzC]
        refine wpAnyH_done (by kernel_rfl) ?_ _
        have hL1 : (leansB (us.take k) c bits ++ [d]).length = k + 1 := by rw [List.length_append, HLK.out]; rfl
        have hown4 : w3.ownsRow base 3 1 (Value.slice A3 (k + 1) c3) (leansB (us.take k) c bits ++ [d]).length (ints (leansB (us.take k) c bits ++ [d])) := by
          rw [hL1]
          have := HO3.out
          rwa [show ints (leansB (us.take k) c bits) ++ [.int .i64 d] = ints (leansB (us.take k) c bits ++ [d]) by simp [ints]] at this
        have HPUT := Lib.hid (HM.out.put HB2.out HF3.out hown4 HN3.out)
        have hfr4 : Frm (fun b => b = B ∨ (Value.slice A L.length cp).ownBlock = some b) w (w3.setCell ⟨B, 4, none⟩ (Value.slice A3 (k + 1) c3)) := by
          refine (((HFR.out.below HB2.out).trans (HF3.out.mono (T := fun b => (Value.slice Ak k cq).ownBlock = some b) (fun _ _ h => h)) (fun b hb h => ?_)).setCell (p := ⟨B, 4, none⟩) (fun _ => .inl rfl) _)
          rcases HNW.out with hh | hh
          · exact .inr (hh ▸ h)
          · have := hh b h
            omega
        have HFR4 := Lib.hid hfr4
        have HNW4 := Lib.hid (show (Value.slice A3 (k + 1) c3).ownBlock = (Value.slice A L.length cp).ownBlock ∨ ∀ b, (Value.slice A3 (k + 1) c3).ownBlock = some b → w.heap.size ≤ b from by
          rcases HN3.out with hh | hh
          · rcases HNW.out with h2 | h2
            · exact .inl (hh.trans h2)
            · exact .inr (fun b hb => h2 b (hh ▸ hb))
          · exact .inr (fun b hb => by
              have := hh b hb
              have h4 := HB2.out.size
              have h5 := HFR.out.size
              omega))
        clear hL1 hown4 hfr4
        go_wp2
        go_roundw
        case rel => exact ⟨k + 1, by omega, by go_num, ⟨A3, c3, by rw [HSTEP.out]; exact HPUT.out, HNW4.out⟩, HFR4.out⟩
        case measure => simp [intOf]; omega
      · go_simp
        refine (HCALL.out _ HB0.out).mono ?_
        rintro e w1 ⟨rfl, hb1⟩
        have HB1 := Lib.hid (bl_step HB0.out hb1)
        have b41 := ck b4d hb1
        clear hb1
        go_wp2_with fail
        refine hK.out _ _ trivial (fun hHeld => ?_)
        clear hK K
        try simp only [Act.put, zzA, zzB, zzC]
        refine wpAnyH_ready (rs := [5, 14]) (by kernel_rfl) (by simp) ?_
        refine AllReadyH.cons (o := _) rfl (fun K hK => ?_) (AllReadyH.cons (o := _) rfl (fun K hK => ?_) AllReadyH.nil)
        · go_simp
          refine hK.out _ _ trivial (fun hHeld => ?_)
          clear hK K
          try simp only [Act.put, zzA, zzB, zzC]
          refine rdz (i := 14) rfl (fun K hK => ?_)
          go_simp
          have hal := (Below.refl w1.heap.size w1).alloc (Nat.le_refl _) (.cells #[.int .i64 d] 3)
          have HN1 := Lib.hid (Blk.new w1 3 #[.int .i64 d])
          obtain ⟨gn, hgn⟩ : ∃ x, w1.heap.size = x := ⟨_, rfl⟩
          have HB2 := Lib.hid (bl_step HB1.out hal)
          have b42 := ck b41 hal
          generalize hw2 : w1.alloc (.cells #[.int .i64 d] 3) = w2 at *
          rw [hgn] at HN1 ⊢
          clear hw2 hgn hal
          refine hK.out _ _ trivial (fun hHeld => ?_)
          clear hK K
          try simp only [Act.put, zzA, zzB, zzC]
          refine rdz (i := 15) rfl (fun K hK => ?_)
          have hown := (HM.out.below HB2.out).own
          rw [HLK.out] at hown
          have HOWN := Lib.hid hown
          have HBS := Lib.hid (HM.out.below HB2.out).lt
          clear hown
          refine step_appN tInts rfl (.tmp 29) (.tmp 38) rfl base (.slice Ak k cq) k _ rfl HOWN.out ⟨gn, 0, none⟩ 1 1 [.int .i64 d] rfl rfl (fun jj u hu => by rw [addr_add, Nat.zero_add, HN1.out.cell]; simpa using hu) (by simp [Value.oneCell']) (by omega) (by unfold maxLen; omega) HBS.out ?_
          intro V3 w3 ho3 hg3 hn3
          obtain ⟨A3, c3, rfl, _⟩ := own_slice ho3
          have HO3 := Lib.hid ho3
          have hf3 : Frm (fun b => (Value.slice Ak k cq).ownBlock = some b) w2 w3 := Frm.of_grown hg3 (fun b hb => hb)
          have hm2 := HM.out.below HB2.out
          have b43 : w3.cell? ⟨B, 4, none⟩ = some (.slice Ak k cq) := (hf3.cell (block_lt_of_cell b42) hm2.ownB).trans b42
          have z43 : w3.frozen? ⟨B, 4, none⟩ = false := (hm2.blk.frm hf3 hm2.ownB).frozen 4
          have HF3 := Lib.hid hf3
          have HN3 := Lib.hid hn3
          clear ho3 hg3 hf3 hm2 hn3
          refine hK.out _ _ trivial (fun hHeld => ?_)
          clear hK K
          try simp only [Act.put, zzA, zzB, zzC]
          refine tkz (i := 16) (d := 40) rfl rfl ?_
          simp only [Act.put, zzA, zzB, zzC]
          refine tkz (i := 17) (d := 41) rfl rfl ?_
          simp only [Act.put, zzA, zzB, zzC]
          refine tkz (i := 18) (d := 42) rfl rfl ?_
          simp only [Act.put, zzA, zzB, zzC]
          refine rdz (i := 19) rfl (fun K hK => ?_)
          go_simp
          refine hK.out _ _ trivial (fun hHeld => ?_)
          clear hK K
          try simp only [Act.put, zzA, zzB, zzC]
          refine wpAnyH_done (by kernel_rfl) ?_ _
          have hL1 : (leansB (us.take k) c bits ++ [d]).length = k + 1 := by rw [List.length_append, HLK.out]; rfl
          have hown4 : w3.ownsRow base 3 1 (Value.slice A3 (k + 1) c3) (leansB (us.take k) c bits ++ [d]).length (ints (leansB (us.take k) c bits ++ [d])) := by
            rw [hL1]
            have := HO3.out
            rwa [show ints (leansB (us.take k) c bits) ++ [.int .i64 d] = ints (leansB (us.take k) c bits ++ [d]) by simp [ints]] at this
          have HPUT := Lib.hid (HM.out.put HB2.out HF3.out hown4 HN3.out)
          have hfr4 : Frm (fun b => b = B ∨ (Value.slice A L.length cp).ownBlock = some b) w (w3.setCell ⟨B, 4, none⟩ (Value.slice A3 (k + 1) c3)) := by
            refine (((HFR.out.below HB2.out).trans (HF3.out.mono (T := fun b => (Value.slice Ak k cq).ownBlock = some b) (fun _ _ h => h)) (fun b hb h => ?_)).setCell (p := ⟨B, 4, none⟩) (fun _ => .inl rfl) _)
            rcases HNW.out with hh | hh
            · exact .inr (hh ▸ h)
            · have := hh b h
              omega
          have HFR4 := Lib.hid hfr4
          have HNW4 := Lib.hid (show (Value.slice A3 (k + 1) c3).ownBlock = (Value.slice A L.length cp).ownBlock ∨ ∀ b, (Value.slice A3 (k + 1) c3).ownBlock = some b → w.heap.size ≤ b from by
            rcases HN3.out with hh | hh
            · rcases HNW.out with h2 | h2
              · exact .inl (hh.trans h2)
              · exact .inr (fun b hb => h2 b (hh ▸ hb))
            · exact .inr (fun b hb => by
                have := hh b hb
                have h4 := HB2.out.size
                have h5 := HFR.out.size
                omega))
          clear hL1 hown4 hfr4
          go_wp2
          go_roundw
          case rel => exact ⟨k + 1, by omega, by go_num, ⟨A3, c3, by rw [HSTEP.out]; exact HPUT.out, HNW4.out⟩, HFR4.out⟩
          case measure => simp [intOf]; omega
        · go_simp
          have hal := (Below.refl w1.heap.size w1).alloc (Nat.le_refl _) (.cells #[.int .i64 d] 3)
          have HN1 := Lib.hid (Blk.new w1 3 #[.int .i64 d])
          obtain ⟨gn, hgn⟩ : ∃ x, w1.heap.size = x := ⟨_, rfl⟩
          have HB2 := Lib.hid (bl_step HB1.out hal)
          have b42 := ck b41 hal
          generalize hw2 : w1.alloc (.cells #[.int .i64 d] 3) = w2 at *
          rw [hgn] at HN1 ⊢
          clear hw2 hgn hal
          refine hK.out _ _ trivial (fun hHeld => ?_)
          clear hK K
          try simp only [Act.put, zzA, zzB, zzC]
          refine rdz (i := 5) rfl (fun K hK => ?_)
          go_simp
          refine hK.out _ _ trivial (fun hHeld => ?_)
          clear hK K
          try simp only [Act.put, zzA, zzB, zzC]
          refine rdz (i := 15) rfl (fun K hK => ?_)
          have hown := (HM.out.below HB2.out).own
          rw [HLK.out] at hown
          have HOWN := Lib.hid hown
          have HBS := Lib.hid (HM.out.below HB2.out).lt
          clear hown
          refine step_appN tInts rfl (.tmp 29) (.tmp 38) rfl base (.slice Ak k cq) k _ rfl HOWN.out ⟨gn, 0, none⟩ 1 1 [.int .i64 d] rfl rfl (fun jj u hu => by rw [addr_add, Nat.zero_add, HN1.out.cell]; simpa using hu) (by simp [Value.oneCell']) (by omega) (by unfold maxLen; omega) HBS.out ?_
          intro V3 w3 ho3 hg3 hn3
          obtain ⟨A3, c3, rfl, _⟩ := own_slice ho3
          have HO3 := Lib.hid ho3
          have hf3 : Frm (fun b => (Value.slice Ak k cq).ownBlock = some b) w2 w3 := Frm.of_grown hg3 (fun b hb => hb)
          have hm2 := HM.out.below HB2.out
          have b43 : w3.cell? ⟨B, 4, none⟩ = some (.slice Ak k cq) := (hf3.cell (block_lt_of_cell b42) hm2.ownB).trans b42
          have z43 : w3.frozen? ⟨B, 4, none⟩ = false := (hm2.blk.frm hf3 hm2.ownB).frozen 4
          have HF3 := Lib.hid hf3
          have HN3 := Lib.hid hn3
          clear ho3 hg3 hf3 hm2 hn3
          refine hK.out _ _ trivial (fun hHeld => ?_)
          clear hK K
          try simp only [Act.put, zzA, zzB, zzC]
          refine tkz (i := 16) (d := 40) rfl rfl ?_
          simp only [Act.put, zzA, zzB, zzC]
          refine tkz (i := 17) (d := 41) rfl rfl ?_
          simp only [Act.put, zzA, zzB, zzC]
          refine tkz (i := 18) (d := 42) rfl rfl ?_
          simp only [Act.put, zzA, zzB, zzC]
          refine rdz (i := 19) rfl (fun K hK => ?_)
          go_simp
          refine hK.out _ _ trivial (fun hHeld => ?_)
          clear hK K
          try simp only [Act.put, zzA, zzB, zzC]
          refine wpAnyH_done (by kernel_rfl) ?_ _
          have hL1 : (leansB (us.take k) c bits ++ [d]).length = k + 1 := by rw [List.length_append, HLK.out]; rfl
          have hown4 : w3.ownsRow base 3 1 (Value.slice A3 (k + 1) c3) (leansB (us.take k) c bits ++ [d]).length (ints (leansB (us.take k) c bits ++ [d])) := by
            rw [hL1]
            have := HO3.out
            rwa [show ints (leansB (us.take k) c bits) ++ [.int .i64 d] = ints (leansB (us.take k) c bits ++ [d]) by simp [ints]] at this
          have HPUT := Lib.hid (HM.out.put HB2.out HF3.out hown4 HN3.out)
          have hfr4 : Frm (fun b => b = B ∨ (Value.slice A L.length cp).ownBlock = some b) w (w3.setCell ⟨B, 4, none⟩ (Value.slice A3 (k + 1) c3)) := by
            refine (((HFR.out.below HB2.out).trans (HF3.out.mono (T := fun b => (Value.slice Ak k cq).ownBlock = some b) (fun _ _ h => h)) (fun b hb h => ?_)).setCell (p := ⟨B, 4, none⟩) (fun _ => .inl rfl) _)
            rcases HNW.out with hh | hh
            · exact .inr (hh ▸ h)
            · have := hh b h
              omega
          have HFR4 := Lib.hid hfr4
          have HNW4 := Lib.hid (show (Value.slice A3 (k + 1) c3).ownBlock = (Value.slice A L.length cp).ownBlock ∨ ∀ b, (Value.slice A3 (k + 1) c3).ownBlock = some b → w.heap.size ≤ b from by
            rcases HN3.out with hh | hh
            · rcases HNW.out with h2 | h2
              · exact .inl (hh.trans h2)
              · exact .inr (fun b hb => h2 b (hh ▸ hb))
            · exact .inr (fun b hb => by
                have := hh b hb
                have h4 := HB2.out.size
                have h5 := HFR.out.size
                omega))
          clear hL1 hown4 hfr4
          go_wp2
          go_roundw
          case rel => exact ⟨k + 1, by omega, by go_num, ⟨A3, c3, by rw [HSTEP.out]; exact HPUT.out, HNW4.out⟩, HFR4.out⟩
          case measure => simp [intOf]; omega
    · obtain rfl : k = us.length := by omega
      go_wp2
      go_ret
      have hm := HM.out
      rw [List.take_length] at hm
      exact ⟨⟨Ak, cq, rfl, hm, HNW.out⟩, HFR.out⟩
end Go.Proofs.Ytnohfeaamfjimaa
namespace Go.Proofs.Ytnohfeaamfjimaa
open Go.RowKit Go.WideShapes
set_option linter.unusedVariables false
set_option linter.unusedSimpArgs false
structure Sam (v : Value) (w0 : World) (e : Ending) (w : World) : Prop where
  ret : e = .returned v
  same : w = w0
theorem rightNil (w : World) : Calls Try.prog 28 #[.pointer none] w (Sam (.bool false) w) := by
  go_enter Try.func28, Try.ntmps28
  go_wp2
  go_ret
  exact ⟨rfl, rfl⟩
theorem rightYes (B : Nat) (A : Option Addr) (n c : Nat) (w : World) (hn : 0 < n) (h : w.cell? ⟨B, 0, none⟩ = some (.slice A n c)) : Calls Try.prog 28 #[.pointer (some ⟨B, 0, none⟩)] w (Sam (.bool true) w) := by
  have hi : (0 : Int) < n := by omega
  go_enter Try.func28, Try.ntmps28
  go_wp2
  go_ret
  exact ⟨rfl, rfl⟩
theorem guessNil (w : World) : Calls Try.prog 10 #[.pointer none] w (Sam (.int .i64 0) w) := by
  go_enter Try.func10, Try.ntmps10
  go_wp2_with fail
  refine (rightNil w).mono ?_
  rintro e w1 ⟨rfl, rfl⟩
  go_wp2
  go_ret
  exact ⟨rfl, rfl⟩
structure OpE (base B R cr : Nat) (us : List Un) (ls : List Loc) (c : Int) (bits wh : Nat) (V : Value) (S : Nat → Prop) (w0 w : World) : Prop where
  ex : ∃ V' L', BM base w B R cr us ls c bits wh V' L' ∧ (V'.ownBlock = V.ownBlock ∨ ∀ k, V'.ownBlock = some k → w0.heap.size ≤ k)
  frm : Frm S w0 w
structure GuessE (base B R cr : Nat) (us : List Un) (ls : List Loc) (c : Int) (bits wh : Nat) (V : Value) (w0 : World) (e : Ending) (w : World) : Prop where
  ret : e = .returned (.int .i64 (16 * sqI ((leansB us c bits).getD (us.length - 1) 0)))
  op : OpE base B R cr us ls c bits wh V (fun b => b = B ∨ V.ownBlock = some b) w0 w
section
variable {base B R cr bits wh : Nat} {us : List Un} {ls : List Loc} {c : Int} {V : Value} {L : List Int}
theorem bitsYes (w : World) (h : BM base w B R cr us ls c bits wh V L) (hne : 0 < us.length) : Calls Try.prog 25 #[.pointer (some ⟨B, 0, none⟩)] w (Sam (.int .i64 (bits : Int)) w) := by
  have HR := Lib.hid (rightYes B _ _ _ w hne (h.blk.cell 0))
  have b2 : w.cell? ⟨B, 2, none⟩ = some (.int .i64 (bits : Int)) := h.blk.cell 2
  go_enter Try.func25, Try.ntmps25
  go_wp2_with fail
  refine (HR.out).mono ?_
  rintro e w1 ⟨rfl, rfl⟩
  go_wp2
  go_ret
  exact ⟨rfl, rfl⟩
set_option maxRecDepth 100000 in
theorem guess10 (w : World) (h : BM base w B R cr us ls c bits wh V L) (ho : UsOk us wh) (hc : 0 ≤ c ∧ c ≤ 255) (hb : bits < 8) (hne : 0 < us.length) :
    Calls Try.prog 10 #[.pointer (some ⟨B, 0, none⟩)] w (GuessE base B R cr us ls c bits wh V w) := by
  have HR := Lib.hid (rightYes B _ _ _ w hne (h.blk.cell 0))
  have HLN := Lib.hid (lean29 w h ho hc hb)
  have hll := leansB_length us c bits
  have h16 := h.n
  go_enter Try.func10, Try.ntmps10
  go_wp2_with fail
  refine (HR.out).mono ?_
  rintro e w1 ⟨rfl, rfl⟩
  go_wp2_with fail
  refine (HLN.out).mono ?_
  rintro e w2 ⟨⟨A, cp, rfl, hm, hn⟩, hf⟩
  have hlt : us.length - 1 < (leansB us c bits).length := by omega
  obtain ⟨g2, rfl, hcell⟩ := (hm.nb hll.symm (by omega)).rd _ hlt
  have HM := Lib.hid hm
  have HN := Lib.hid hn
  have HF := Lib.hid hf
  obtain ⟨d, hd⟩ : ∃ d, (leansB us c bits).getD (us.length - 1) 0 = d := ⟨_, rfl⟩
  rw [hd] at hcell
  have hsq := sq_bd d
  have HSQ := Lib.hid (fun (W : World) => squash_any d W)
  obtain ⟨q, hq⟩ : ∃ q, sqI d = q := ⟨_, rfl⟩
  rw [hq] at hsq HSQ
  obtain ⟨n, hnn⟩ : ∃ n, us.length = n + 1 := ⟨us.length - 1, by omega⟩
  have HFIN := Lib.hid (show 16 * sqI ((leansB us c bits).getD (us.length - 1) 0) = 16 * q by rw [hd, hq])
  rw [hnn, Nat.add_sub_cancel] at hcell
  rw [hnn]
  have hn2 : n ≤ 1000 := by omega
  clear hd hq hm hn hf hll h HR HLN hlt h16 hne
  go_wp2_with fail
  refine (HSQ.out _).mono ?_
  rintro e w3 ⟨rfl, hb3⟩
  have HB := Lib.hid hb3
  clear hb3
  go_wp2
  go_ret
  exact ⟨by rw [HFIN.out]; rfl, ⟨_, _, HM.out.below HB.out, HN.out⟩, HF.out.below HB.out⟩
end
end Go.Proofs.Ytnohfeaamfjimaa
namespace Go.Proofs.Ytnohfeaamfjimaa
open Go.RowKit Go.WideShapes
set_option linter.unusedVariables false
set_option linter.unusedSimpArgs false
theorem learnU_p (u : Un) (c : Int) (L : List Int) (d bit : Int) : (learnU u c L d bit).p = u.p := by unfold learnU; (repeat' split) <;> rfl
theorem endU_p (u : Un) (c : Int) (wh : Nat) : (endU u c wh).p = u.p := by unfold endU; (repeat' split) <;> rfl
theorem ctxU_p (u : Un) (wh : Nat) (h : Int) : (ctxU u wh h).p = u.p := by unfold ctxU; (repeat' split) <;> rfl
/-- The first k units turned, each by its place. -/
def mapK (us : List Un) (f : Nat → Un → Un) : Nat → List Un
  | 0 => us
  | k + 1 => match us[k]? with
    | some u => (mapK us f k).set k (f k u)
    | none => mapK us f k
theorem mapK_length (us : List Un) (f : Nat → Un → Un) : ∀ k, (mapK us f k).length = us.length
  | 0 => rfl
  | k + 1 => by
    unfold mapK
    split
    · rw [List.length_set, mapK_length us f k]
    · exact mapK_length us f k
theorem mapK_ge (us : List Un) (f : Nat → Un → Un) : ∀ k j, k ≤ j → (mapK us f k)[j]? = us[j]?
  | 0, j, _ => rfl
  | k + 1, j, h => by
    unfold mapK
    split
    · rw [List.getElem?_set_ne (by omega)]
      exact mapK_ge us f k j (by omega)
    · exact mapK_ge us f k j (by omega)
theorem mapK_lt (us : List Un) (f : Nat → Un → Un) : ∀ k j, j < k → (mapK us f k)[j]? = (us[j]?).map (f j)
  | 0, j, h => by omega
  | k + 1, j, h => by
    unfold mapK
    split
    · rename_i u hu
      by_cases he : j = k
      · subst he
        have hl := (List.getElem?_eq_some_iff.1 hu).1
        rw [List.getElem?_set_self (by rw [mapK_length]; exact hl), hu]
        rfl
      · rw [List.getElem?_set_ne (fun e => he e.symm)]
        exact mapK_lt us f k j (by omega)
    · rename_i hu
      by_cases he : j = k
      · subst he
        rw [mapK_ge us f j j (Nat.le_refl _), hu]
        rfl
      · exact mapK_lt us f k j (by omega)
theorem mapK_step {us : List Un} {f : Nat → Un → Un} {k : Nat} {u : Un} (h : us[k]? = some u) : mapK us f (k + 1) = (mapK us f k).set k (f k u) := by
  rw [mapK, h]
theorem mapK_ok {us : List Un} {f : Nat → Un → Un} {wh : Nat} (h : UsOk us wh) (hf : ∀ (i : Nat) (u : Un), us[i]? = some u → (f i u).Ok i wh) : ∀ k, UsOk (mapK us f k) wh
  | 0 => h
  | k + 1 => fun j v hv => by
    by_cases hj : j < k + 1
    · rw [mapK_lt us f (k + 1) j hj] at hv
      cases hu : us[j]? with
      | none => rw [hu] at hv; cases hv
      | some u =>
        rw [hu] at hv
        simp only [Option.map_some, Option.some.injEq] at hv
        subst hv
        exact hf j u hu
    · rw [mapK_ge us f (k + 1) j (by omega)] at hv
      exact h j v hv
theorem UsOk.mono {us : List Un} {wh w2 : Nat} (h : UsOk us wh) (hw : wh ≤ w2) : UsOk us w2 := fun i u hu => (h i u hu).at_any hw
def learnB (us : List Un) (c : Int) (bits : Nat) (bit : Int) : List Un := mapK us (fun i u => learnU u c (leansB us c bits) ((leansB us c bits).getD i 0) bit) us.length
def endB (us : List Un) (c : Int) (wh : Nat) : List Un := mapK us (fun _ u => endU u c wh) us.length
theorem learnB_ok {us : List Un} {wh : Nat} (h : UsOk us wh) (c : Int) (bits : Nat) {bit : Int} (hb : bit = 0 ∨ bit = 1) : UsOk (learnB us c bits bit) wh :=
  mapK_ok h (fun i u hu => learnU_ok (h i u hu) (leansB_lok h c bits) hb) _
theorem endB_ok {us : List Un} {wh : Nat} (h : UsOk us wh) (c : Int) : UsOk (endB us c wh) (wh + 1) := by
  unfold endB
  intro j v hv
  by_cases hj : j < us.length
  · rw [mapK_lt us _ us.length j hj] at hv
    cases hu : us[j]? with
    | none => rw [hu] at hv; cases hv
    | some u =>
      rw [hu] at hv
      simp only [Option.map_some, Option.some.injEq] at hv
      subst hv
      exact endU_ok (h j u hu)
  · rw [mapK_ge us _ us.length j (by omega)] at hv
    exact (h j v hv).at_any (by omega)
theorem or_bit : ∀ c : Fin 256, bits .or .i64 ((c.val : Int) * 2) 0 = (c.val : Int) * 2 ∧ bits .or .i64 ((c.val : Int) * 2) 1 = (c.val : Int) * 2 + 1 := by decide +kernel
theorem or_bit' {c bit : Int} (hc : 0 ≤ c ∧ c ≤ 255) (hb : bit = 0 ∨ bit = 1) : bits .or .i64 (c * 2) bit = c * 2 + bit := by
  have h := or_bit ⟨c.toNat, by omega⟩
  rw [show (((⟨c.toNat, by omega⟩ : Fin 256).val : Nat) : Int) = c from Int.toNat_of_nonneg hc.1] at h
  rcases hb with rfl | rfl
  · rw [h.1]; omega
  · rw [h.2]
/-- What a blend's call may turn: the box, the leans' row, the units. -/
def Own (B : Nat) (V : Value) (ls : List Loc) (b : Nat) : Prop := b = B ∨ V.ownBlock = some b ∨ ∃ l ∈ ls, l.has b
theorem learnArg (bit : Int) (B : Nat) (A : Option Addr) (n cr : Nat) (w : World) (hn : 0 < n) (h : w.cell? ⟨B, 0, none⟩ = some (.slice A n cr)) (hb : ¬ (bit = 0 ∨ bit = 1)) : Calls Try.prog 9 #[.pointer (some ⟨B, 0, none⟩), .int .i64 bit] w (Sam (.int .i64 2) w) := by
  have HR := Lib.hid (rightYes B _ _ _ w hn h)
  have h0 : ¬ bit = 0 := fun e => hb (.inl e)
  have h1 : ¬ bit = 1 := fun e => hb (.inr e)
  have g0 : (bit != 0) = true := by simpa using h0
  have g1 : (bit != 1) = true := by simpa using h1
  clear hb h
  go_enter Try.func9, Try.ntmps9
  go_wp2_with fail
  refine (HR.out).mono ?_
  rintro e w1 ⟨rfl, rfl⟩
  go_wp2
  go_ret
  exact ⟨rfl, rfl⟩
structure LearnE (base B R cr : Nat) (us : List Un) (ls : List Loc) (c : Int) (bits wh : Nat) (V : Value) (bit : Int) (w0 : World) (e : Ending) (w : World) : Prop where
  ret : e = .returned (.int .i64 0)
  ex : (bits ≠ 7 ∧ ∃ V' L', BM base w B R cr (learnB us c bits bit) ls (c * 2 + bit) (bits + 1) wh V' L' ∧ (V'.ownBlock = V.ownBlock ∨ ∀ k, V'.ownBlock = some k → w0.heap.size ≤ k)) ∨
    (bits = 7 ∧ ∃ V' L', BM base w B R cr (endB (learnB us c bits bit) (c * 2 + bit) wh) ls 1 0 (wh + 1) V' L' ∧ (V'.ownBlock = V.ownBlock ∨ ∀ k, V'.ownBlock = some k → w0.heap.size ≤ k))
  frm : Frm (Own B V ls) w0 w
/-- The units' calls of one loop, the first k done. -/
structure LpR (base B R cr : Nat) (us : List Un) (ls : List Loc) (c : Int) (bits wh : Nat) (V0 V : Value) (L : List Int) (f : Nat → Un → Un) (w0 : World) (k : Nat) (w : World) : Prop where
  bm : BM base w B R cr (mapK us f k) ls c bits wh V L
  frm : Frm (Own B V0 ls) w0 w
theorem LpR.step {base B R cr bits wh k : Nat} {us : List Un} {ls : List Loc} {c : Int} {V0 V : Value} {L : List Int} {f : Nat → Un → Un} {w0 w w1 w2 : World} {u : Un} {l : Loc} {e : Ending} (h : LpR base B R cr us ls c bits wh V0 V L f w0 k w) (hu : us[k]? = some u) (hl : ls[k]? = some l) (hb : Below w.heap.size w w1) (hp : (f k u).p = u.p) (ht : TurnU (f k u) l w1 e w2) : LpR base B R cr us ls c bits wh V0 V L f w0 (k + 1) w2 := by
  have hbm := h.bm.below hb
  refine ⟨by rw [mapK_step hu]; exact hbm.unit (by rw [mapK_ge us f k k (Nat.le_refl _)]; exact hu) hl (by rw [hp]) ht.frm ht.ub, (h.frm.below hb).trans ht.frm (fun b _ hb' => .inr (.inr ⟨l, List.mem_of_getElem? hl, hb'⟩))⟩
set_option maxRecDepth 100000 in
set_option maxHeartbeats 4000000 in
theorem learn9t {base B R cr bits wh : Nat} {us : List Un} {ls : List Loc} {c : Int} {V : Value} {L : List Int} (bit : Int) (w : World) (h : BM base w B R cr us ls c bits wh V L) (ho : UsOk us wh) (hc : 0 ≤ c ∧ c ≤ 255) (hb : bits < 8) (hne : 0 < us.length) (hbit : bit = 0 ∨ bit = 1) (hwh : wh ≤ 1000000) :
    Calls Try.prog 9 #[.pointer (some ⟨B, 0, none⟩), .int .i64 bit] w (LearnE base B R cr us ls c bits wh V bit w) := by
  have HR := Lib.hid (rightYes B _ _ _ w hne (h.blk.cell 0))
  have HLN := Lib.hid (lean29 w h ho hc hb)
  have hll := leansB_length us c bits
  have h16 := h.n
  have hor := or_bit' hc hbit
  have hlen := h.len
  have hw0 : base ≤ w.heap.size := h.lt
  have HO := Lib.hid ho
  have hbb : bit = 0 ∨ bit = 1 := hbit
  have bt0 : 0 ≤ bit := by omega
  have bt1 : bit ≤ 1 := by omega
  obtain ⟨c2, hc2⟩ : ∃ c2, c * 2 + bit = c2 := ⟨_, rfl⟩
  rw [hc2] at hor
  have HC2 := Lib.hid hc2
  have HOR := Lib.hid hor
  have hcc2 : 0 ≤ c2 ∧ c2 ≤ 511 := by omega
  clear h ho hor hc2
  rcases hbit with rfl | rfl
  · go_enter Try.func9, Try.ntmps9
    go_wp2_with fail
    refine (HR.out).mono ?_
    rintro e w1 ⟨rfl, rfl⟩
    go_wp2_with fail
    refine (HLN.out).mono ?_
    rintro e w2 ⟨⟨A, cp, rfl, hm, hn⟩, hf⟩
    have HN := Lib.hid hn
    obtain ⟨L1, hL1⟩ : ∃ L1, leansB us c bits = L1 := ⟨_, rfl⟩
    have HL1 := Lib.hid hL1
    have hlok : LOk L1 := hL1 ▸ leansB_lok HO.out c bits
    rw [hL1] at hm hll
    have hf1 : Frm (Own B V ls) w1 w2 := hf.mono fun b _ h => h.elim .inl (fun h => .inr (.inl h))
    have HLP := Lib.hid (show LpR base B R cr us ls c bits wh V (.slice A us.length cp) L1 (fun i u => learnU u c L1 (L1.getD i 0) 0) w1 0 w2 from ⟨hm, hf1⟩)
    clear hf hm hn hf1 hL1 HLN HR
    go_wp2_with fail
    go_loopw [23] (fun v wr => ∃ k : Nat, k ≤ us.length ∧ v = .int .i64 k ∧ LpR base B R cr us ls c bits wh V (.slice A us.length cp) L1 (fun i u => learnU u c L1 (L1.getD i 0) 0) w1 k wr) (fun v _ => us.length - (intOf v).toNat)
    case atStart => exact ⟨0, by omega, rfl, HLP.out⟩
    case round =>
      obtain ⟨k, hk, rfl, hlp⟩ := hrel
      have HLK := Lib.hid hlp
      have hm := hlp.bm
      have hml := mapK_length us (fun i u => learnU u c L1 (L1.getD i 0) 0) k
      have b0r : wr.cell? ⟨B, 0, none⟩ = some (.slice (some ⟨R, 0, none⟩) us.length cr) := by have := hm.blk.cell 0; rw [hml] at this; exact this
      by_cases hlt : k < us.length
      · obtain ⟨u, hu⟩ : ∃ u, us[k]? = some u := ⟨us[k], List.getElem?_eq_getElem hlt⟩
        obtain ⟨l, hl⟩ : ∃ l, ls[k]? = some l := ⟨ls[k]'(by rw [hlen]; exact hlt), List.getElem?_eq_getElem (by rw [hlen]; exact hlt)⟩
        have hu' : (mapK us (fun i u => learnU u c L1 (L1.getD i 0) 0) k)[k]? = some u := (mapK_ge us _ k k (Nat.le_refl _)).trans hu
        obtain ⟨cur, hrow, hcur⟩ := hm.row
        have rk : wr.cell? ⟨R, k, none⟩ = some (.iface (ptU u.p.k) (.pointer (some ⟨l.g, 0, none⟩))) := (hrow.cell k).trans (hcur k u l hu' hl)
        obtain ⟨g2, hA, hcell⟩ := (hm.nb hll.symm (by rw [hll]; exact h16)).rd k (by rw [hll]; exact hlt)
        subst hA
        have hkk := (HO.out k u hu).k
        have hcall : ∀ W, Below wr.heap.size wr W → Calls Try.prog (fLearn u.p.k) #[.pointer (some ⟨l.g, 0, none⟩), .pointer (some ⟨B, 1, none⟩), .int .i64 (L1.getD k 0), .int .i64 0] W (TurnU (learnU u c L1 (L1.getD k 0) 0) l W) := fun W hW => by
          have hmW := hm.below hW
          exact learn_any _ 0 (hmW.ub k u l hu' hl) ⟨k, HO.out k u hu, by rw [hll]; omega⟩ (hmW.nb hll.symm (by rw [hll]; exact h16)) hc hlok (by omega) (fun e => (hmW.far k l hl B e).2.2.1 rfl) (fun g3 e hg => (hmW.far k l hl g3 hg).2.2.2.2 (by injection e with e; injection e with e; subst e; rfl))
        have hmeth := fun W => methLearn hkk l.g W
        have hent := fun args W => enterLearn hkk args W
        have hne1 := hm.far k l hl
        have HNE := Lib.hid hne1
        obtain ⟨T, hT⟩ : ∃ T, ptU u.p.k = T := ⟨_, rfl⟩
        obtain ⟨f, hf⟩ : ∃ f, fLearn u.p.k = f := ⟨_, rfl⟩
        rw [hT] at rk hmeth
        rw [hf] at hcall hmeth hent
        have HCALL := Lib.hid hcall
        have HU := Lib.hid hu
        have HLL := Lib.hid hl
        obtain ⟨d, hd⟩ : ∃ d, L1.getD k 0 = d := ⟨_, rfl⟩
        have HD := Lib.hid hd
        rw [hd] at hcell
        have hki : (k : Int) < us.length := by omega
        clear hrow hcur hcall hT hf hd hkk hm hu hl hu' hlp hne1 hml
        go_upto_region 8 with fail
        refine wp_region_held_drew (S := (fun W : World => W.cell? ⟨B, 0, none⟩ = some (.slice (some ⟨R, 0, none⟩) us.length cr) ∧ W.cell? ⟨R, k, none⟩ = some (.iface T (.pointer (some ⟨l.g, 0, none⟩))))) (by kernel_rfl) ⟨b0r, rk⟩ (fun hHeld => ?_)
        refine tkz (i := 0) (d := 28) rfl rfl ?_
        simp only [Act.put, zzA, zzB, zzC]
        refine tkz (i := 1) (d := 29) rfl rfl ?_
        simp only [Act.put, zzA, zzB, zzC]
        refine tkz (i := 2) (d := 30) rfl rfl ?_
        simp only [Act.put, zzA, zzB, zzC]
        refine tkz (i := 3) (d := 31) rfl rfl ?_
        simp only [Act.put, zzA, zzB, zzC]
        refine tkz (i := 4) (d := 32) rfl rfl ?_
        simp only [Act.put, zzA, zzB, zzC]
        refine tkz (i := 5) (d := 33) rfl rfl ?_
        simp only [Act.put, zzA, zzB, zzC]
        refine tkz (i := 6) (d := 34) rfl rfl ?_
        simp only [Act.put, zzA, zzB, zzC]
        refine tkz (i := 7) (d := 35) rfl rfl ?_
        simp only [Act.put, zzA, zzB, zzC]
        refine tkz (i := 8) (d := 36) rfl rfl ?_
        simp only [Act.put, zzA, zzB, zzC]
        refine tkz (i := 9) (d := 37) rfl rfl ?_
        simp only [Act.put, zzA, zzB, zzC]
        refine tkz (i := 10) (d := 38) rfl rfl ?_
        simp only [Act.put, zzA, zzB, zzC]
        refine tkz (i := 11) (d := 39) rfl rfl ?_
        simp only [Act.put, zzA, zzB, zzC]
        refine tkz (i := 12) (d := 40) rfl rfl ?_
        simp only [Act.put, zzA, zzB, zzC]
        refine tkz (i := 13) (d := 41) rfl rfl ?_
        simp only [Act.put, zzA, zzB, zzC]
        refine rdz (i := 14) rfl (fun K hK => ?_)
        go_simp
        have HB0 := Lib.hid ((Below.refl wr.heap.size wr).drew)
        rw [← HD.out]
        refine (HCALL.out _ HB0.out).mono ?_
        rintro e w3 ht
        have hre := ht.ret
        subst hre
        have HT := Lib.hid ht
        have c0 := (ht.frm.cell (block_lt_of_cell hHeld.1) (fun e => (HNE.out _ e).2.2.1 rfl)).trans hHeld.1
        have c1 := (ht.frm.cell (block_lt_of_cell hHeld.2) (fun e => (HNE.out _ e).2.2.2.1 rfl)).trans hHeld.2
        clear ht
        go_wp2_with fail
        refine hK.out _ _ ⟨c0, c1⟩ (fun hHeld => ?_)
        clear hK K
        try simp only [Act.put, zzA, zzB, zzC]
        refine wpAnyH_done (by kernel_rfl) ?_ _
        have HNX := Lib.hid (HLK.out.step HU.out HLL.out HB0.out (learnU_p ..) HT.out)
        go_wp2
        go_roundw
        case rel => exact ⟨k + 1, by omega, by go_num, HNX.out⟩
        case measure => simp [intOf]; omega
      · obtain rfl : k = us.length := by omega
        have b1r : wr.cell? ⟨B, 1, none⟩ = some (.int .i64 c) := hm.blk.cell 1
        have b2r : wr.cell? ⟨B, 2, none⟩ = some (.int .i64 (bits : Int)) := hm.blk.cell 2
        have z1 := hm.blk.frozen 1
        have z2 := hm.blk.frozen 2
        have hor := HOR.out
        have hF := hlp.frm
        have HOR2 := HOR
        obtain ⟨us1, hus1⟩ : ∃ x, mapK us (fun i u => learnU u c L1 (L1.getD i 0) 0) us.length = x := ⟨_, rfl⟩
        have HUS1 := Lib.hid (show us1 = learnB us c bits 0 from by rw [← hus1, learnB, HL1.out])
        have hl1 : us1.length = us.length := by rw [← hus1]; exact mapK_length ..
        rw [hus1] at hm hml
        have hok1 : UsOk us1 wh := by rw [HUS1.out]; exact learnB_ok HO.out c bits (by omega)
        obtain ⟨w4, hw4⟩ : ∃ W, wr.setCell ⟨B, 1, none⟩ (.int .i64 (c2)) = W := ⟨_, rfl⟩
        obtain ⟨w5, hw5⟩ : ∃ W, w4.setCell ⟨B, 2, none⟩ (.int .i64 ((bits : Int) + 1)) = W := ⟨_, rfl⟩
        have hk4 : Blk w4 B 59 #[.slice (some ⟨R, 0, none⟩) us1.length cr, .int .i64 (c2), .int .i64 (bits : Int), .int .i64 (wh : Int), .slice A us.length cp] := hw4 ▸ hm.blk.set 1 (.int .i64 (c2))
        have hk5 : Blk w5 B 59 #[.slice (some ⟨R, 0, none⟩) us1.length cr, .int .i64 (c2), .int .i64 ((bits + 1 : Nat) : Int), .int .i64 (wh : Int), .slice A us.length cp] := hw5 ▸ hk4.set 2 (.int .i64 ((bits : Int) + 1))
        have hfB : Frm (fun k => k = B) wr w5 := hw5 ▸ (hw4 ▸ (Frm.refl (fun k => k = B) wr).setCell (p := ⟨B, 1, none⟩) (fun _ => rfl) _).setCell (p := ⟨B, 2, none⟩) (fun _ => rfl) _
        have hm5 : BM base w5 B R cr us1 ls (c2) (bits + 1) wh (.slice A us.length cp) L1 := hm.turn hfB hk5
        have hF5 : Frm (Own B V ls) w1 w5 := hF.trans hfB (fun b _ hb' => .inl hb')
        have b2r4 : w4.cell? ⟨B, 2, none⟩ = some (.int .i64 (bits : Int)) := hk4.cell 2
        have z24 := hk4.frozen 2
        have b25 : w5.cell? ⟨B, 2, none⟩ = some (.int .i64 ((bits : Int) + 1)) := hk5.cell 2
        have b05 : w5.cell? ⟨B, 0, none⟩ = some (.slice (some ⟨R, 0, none⟩) us1.length cr) := hk5.cell 0
        have HM5 := Lib.hid hm5
        have HF5 := Lib.hid hF5
        have HOK1 := Lib.hid hok1
        clear hlp hm hml hm5 hF5 hk4 hk5 hfB hF hus1 hok1 HLK
        go_upto_region 11 with fail
        try rw [hw4]
        clear hw4 b1r b2r z1 z2 hor b0r
        go_upto_region 12 with fail
        try rw [hw5]
        clear hw5 b2r4 z24
        by_cases h7 : bits = 7
        · have hi7 : (bits : Int) + 1 = 8 := by omega
          have hi7' : (bits : Int) = 7 := by omega
          rw [hi7] at b25
          have H7 := Lib.hid h7
          clear hi7 hi7' h7
          go_wp2_with fail
          obtain ⟨WR, rfl⟩ : ∃ x : World, x = wr := ⟨_, rfl⟩
          go_loopw [76] (fun v wr => ∃ k : Nat, k ≤ us1.length ∧ v = .int .i64 k ∧ LpR base B R cr us1 ls c2 (bits + 1) wh V (.slice A us.length cp) L1 (fun _ u => endU u c2 wh) w1 k wr) (fun v _ => us1.length - (intOf v).toNat)
          case atStart => exact ⟨0, by omega, rfl, ⟨HM5.out, HF5.out⟩⟩
          case round =>
            obtain ⟨k, hk, rfl, hlp⟩ := hrel
            have HLK := Lib.hid hlp
            have hm := hlp.bm
            have hml := mapK_length us1 (fun _ u => endU u c2 wh) k
            by_cases hlt : k < us1.length
            · obtain ⟨u, hu⟩ : ∃ u, us1[k]? = some u := ⟨us1[k], List.getElem?_eq_getElem hlt⟩
              obtain ⟨l, hl⟩ : ∃ l, ls[k]? = some l := ⟨ls[k]'(by rw [hlen, ← hl1]; exact hlt), List.getElem?_eq_getElem (by rw [hlen, ← hl1]; exact hlt)⟩
              have hu' : (mapK us1 (fun _ u => endU u c2 wh) k)[k]? = some u := (mapK_ge us1 _ k k (Nat.le_refl _)).trans hu
              obtain ⟨cur, hrow, hcur⟩ := hm.row
              have rk : wr.cell? ⟨R, k, none⟩ = some (.iface (ptU u.p.k) (.pointer (some ⟨l.g, 0, none⟩))) := (hrow.cell k).trans (hcur k u l hu' hl)
              have hkk := (HOK1.out k u hu).k
              have hcall : ∀ W, Below wr.heap.size wr W → Calls Try.prog (fEnd u.p.k) #[.pointer (some ⟨l.g, 0, none⟩), .pointer (some ⟨B, 1, none⟩)] W (TurnU (endU u c2 wh) l W) := fun W hW => by
                have hmW := hm.below hW
                exact ends_any (hmW.ub k u l hu' hl) k (HOK1.out k u hu) (hmW.nb hll.symm (by rw [hll]; exact h16)) (by omega) (by omega) (fun e => (hmW.far k l hl B e).2.2.1 rfl)
              have hmeth := fun W => methEnd hkk l.g W
              have hent := fun args W => enterEnd hkk args W
              have hnil := fun W => nilEnd hkk l.g W
              obtain ⟨T, hT⟩ : ∃ T, ptU u.p.k = T := ⟨_, rfl⟩
              obtain ⟨f, hf⟩ : ∃ f, fEnd u.p.k = f := ⟨_, rfl⟩
              rw [hT] at rk hmeth hnil
              rw [hf] at hcall hmeth hent
              have HCALL := Lib.hid hcall
              have HU := Lib.hid hu
              have HLL := Lib.hid hl
              have hki : (k : Int) < us1.length := by omega
              have hl16 : us1.length ≤ 16 := by omega
              clear hrow hcur hcall hT hf hkk hm hu hl hu' hlp hml b05 b25
              go_upto_region 16 with fail
              refine wp_region_held_drew (S := (fun _ : World => True)) (by kernel_rfl) trivial (fun hHeld => ?_)
              refine tkz (i := 0) (d := 80) rfl rfl ?_
              simp only [Act.put, zzA, zzB, zzC]
              refine tkz (i := 1) (d := 81) rfl rfl ?_
              simp only [Act.put, zzA, zzB, zzC]
              refine tkz (i := 2) (d := 82) rfl rfl ?_
              simp only [Act.put, zzA, zzB, zzC]
              refine tkz (i := 3) (d := 83) rfl rfl ?_
              simp only [Act.put, zzA, zzB, zzC]
              refine tkz (i := 4) (d := 84) rfl rfl ?_
              simp only [Act.put, zzA, zzB, zzC]
              refine tkz (i := 5) (d := 85) rfl rfl ?_
              simp only [Act.put, zzA, zzB, zzC]
              refine tkz (i := 6) (d := 86) rfl rfl ?_
              simp only [Act.put, zzA, zzB, zzC]
              refine rdz (i := 7) rfl (fun K hK => ?_)
              go_simp
              have HB0 := Lib.hid ((Below.refl wr.heap.size wr).drew)
              refine (HCALL.out _ HB0.out).mono ?_
              rintro e w3 ht
              have hre := ht.ret
              subst hre
              have HT := Lib.hid ht
              clear ht
              go_wp2_with fail
              refine hK.out _ _ trivial (fun hHeld => ?_)
              clear hK K
              try simp only [Act.put, zzA, zzB, zzC]
              refine wpAnyH_done (by kernel_rfl) ?_ _
              have HNX := Lib.hid (HLK.out.step HU.out HLL.out HB0.out (endU_p ..) HT.out)
              go_wp2
              go_roundw
              case rel => exact ⟨k + 1, by omega, by go_num, HNX.out⟩
              case measure => simp [intOf]; omega
            · obtain rfl : k = us1.length := by omega
              obtain ⟨us2, hus2⟩ : ∃ x, mapK us1 (fun _ u => endU u c2 wh) us1.length = x := ⟨_, rfl⟩
              have HUS2 := Lib.hid (show us2 = endB (learnB us c bits 0) c2 wh from by rw [← hus2, ← HUS1.out]; rfl)
              have hl2 : us2.length = us.length := by rw [← hus2, hml, hl1]
              rw [hus2] at hm
              have hF := hlp.frm
              have b1q : wr.cell? ⟨B, 1, none⟩ = some (.int .i64 c2) := hm.blk.cell 1
              have b2q : wr.cell? ⟨B, 2, none⟩ = some (.int .i64 ((bits + 1 : Nat) : Int)) := hm.blk.cell 2
              have b3q : wr.cell? ⟨B, 3, none⟩ = some (.int .i64 (wh : Int)) := hm.blk.cell 3
              have z1 := hm.blk.frozen 1
              have z2 := hm.blk.frozen 2
              have z3 := hm.blk.frozen 3
              have hk8 : Blk (((wr.setCell ⟨B, 1, none⟩ (.int .i64 1)).setCell ⟨B, 2, none⟩ (.int .i64 0)).setCell ⟨B, 3, none⟩ (.int .i64 ((wh : Int) + 1))) B 59 #[.slice (some ⟨R, 0, none⟩) us2.length cr, .int .i64 1, .int .i64 ((0 : Nat) : Int), .int .i64 ((wh + 1 : Nat) : Int), .slice A us.length cp] := ((hm.blk.set 1 (.int .i64 1)).set 2 (.int .i64 0)).set 3 (.int .i64 ((wh : Int) + 1))
              have hfB : Frm (fun k => k = B) wr (((wr.setCell ⟨B, 1, none⟩ (.int .i64 1)).setCell ⟨B, 2, none⟩ (.int .i64 0)).setCell ⟨B, 3, none⟩ (.int .i64 ((wh : Int) + 1))) := (((Frm.refl (fun k => k = B) wr).setCell (p := ⟨B, 1, none⟩) (fun _ => rfl) _).setCell (p := ⟨B, 2, none⟩) (fun _ => rfl) _).setCell (p := ⟨B, 3, none⟩) (fun _ => rfl) _
              have HM8 := Lib.hid (hm.turn hfB hk8)
              have HF8 := Lib.hid (hF.trans hfB (fun b _ hb' => .inl hb'))
              have hwi : (wh : Int) + 1 ≤ 1000000000 := by omega
              clear hlp hm hml hF hk8 hfB hus2 HLK b05 b25
              go_wp2
              go_ret
              refine ⟨rfl, .inr ⟨H7.out, ?_⟩, HF8.out⟩
              rw [HC2.out, ← HUS2.out]
              exact ⟨_, _, HM8.out, HN.out⟩
        · have hi7 : ¬ (bits : Int) + 1 = 8 := by omega
          have hi7n : ¬ bits + 1 = 8 := by omega
          have hi7m : ¬ bits = 7 := h7
          go_wp2
          go_ret
          refine ⟨rfl, .inl ⟨h7, ?_⟩, HF5.out⟩
          rw [← HUS1.out, HC2.out]
          exact ⟨_, _, HM5.out, HN.out⟩
  · go_enter Try.func9, Try.ntmps9
    go_wp2_with fail
    refine (HR.out).mono ?_
    rintro e w1 ⟨rfl, rfl⟩
    go_wp2_with fail
    refine (HLN.out).mono ?_
    rintro e w2 ⟨⟨A, cp, rfl, hm, hn⟩, hf⟩
    have HN := Lib.hid hn
    obtain ⟨L1, hL1⟩ : ∃ L1, leansB us c bits = L1 := ⟨_, rfl⟩
    have HL1 := Lib.hid hL1
    have hlok : LOk L1 := hL1 ▸ leansB_lok HO.out c bits
    rw [hL1] at hm hll
    have hf1 : Frm (Own B V ls) w1 w2 := hf.mono fun b _ h => h.elim .inl (fun h => .inr (.inl h))
    have HLP := Lib.hid (show LpR base B R cr us ls c bits wh V (.slice A us.length cp) L1 (fun i u => learnU u c L1 (L1.getD i 0) 1) w1 0 w2 from ⟨hm, hf1⟩)
    clear hf hm hn hf1 hL1 HLN HR
    go_wp2_with fail
    go_loopw [23] (fun v wr => ∃ k : Nat, k ≤ us.length ∧ v = .int .i64 k ∧ LpR base B R cr us ls c bits wh V (.slice A us.length cp) L1 (fun i u => learnU u c L1 (L1.getD i 0) 1) w1 k wr) (fun v _ => us.length - (intOf v).toNat)
    case atStart => exact ⟨0, by omega, rfl, HLP.out⟩
    case round =>
      obtain ⟨k, hk, rfl, hlp⟩ := hrel
      have HLK := Lib.hid hlp
      have hm := hlp.bm
      have hml := mapK_length us (fun i u => learnU u c L1 (L1.getD i 0) 1) k
      have b0r : wr.cell? ⟨B, 0, none⟩ = some (.slice (some ⟨R, 0, none⟩) us.length cr) := by have := hm.blk.cell 0; rw [hml] at this; exact this
      by_cases hlt : k < us.length
      · obtain ⟨u, hu⟩ : ∃ u, us[k]? = some u := ⟨us[k], List.getElem?_eq_getElem hlt⟩
        obtain ⟨l, hl⟩ : ∃ l, ls[k]? = some l := ⟨ls[k]'(by rw [hlen]; exact hlt), List.getElem?_eq_getElem (by rw [hlen]; exact hlt)⟩
        have hu' : (mapK us (fun i u => learnU u c L1 (L1.getD i 0) 1) k)[k]? = some u := (mapK_ge us _ k k (Nat.le_refl _)).trans hu
        obtain ⟨cur, hrow, hcur⟩ := hm.row
        have rk : wr.cell? ⟨R, k, none⟩ = some (.iface (ptU u.p.k) (.pointer (some ⟨l.g, 0, none⟩))) := (hrow.cell k).trans (hcur k u l hu' hl)
        obtain ⟨g2, hA, hcell⟩ := (hm.nb hll.symm (by rw [hll]; exact h16)).rd k (by rw [hll]; exact hlt)
        subst hA
        have hkk := (HO.out k u hu).k
        have hcall : ∀ W, Below wr.heap.size wr W → Calls Try.prog (fLearn u.p.k) #[.pointer (some ⟨l.g, 0, none⟩), .pointer (some ⟨B, 1, none⟩), .int .i64 (L1.getD k 0), .int .i64 1] W (TurnU (learnU u c L1 (L1.getD k 0) 1) l W) := fun W hW => by
          have hmW := hm.below hW
          exact learn_any _ 1 (hmW.ub k u l hu' hl) ⟨k, HO.out k u hu, by rw [hll]; omega⟩ (hmW.nb hll.symm (by rw [hll]; exact h16)) hc hlok (by omega) (fun e => (hmW.far k l hl B e).2.2.1 rfl) (fun g3 e hg => (hmW.far k l hl g3 hg).2.2.2.2 (by injection e with e; injection e with e; subst e; rfl))
        have hmeth := fun W => methLearn hkk l.g W
        have hent := fun args W => enterLearn hkk args W
        have hne1 := hm.far k l hl
        have HNE := Lib.hid hne1
        obtain ⟨T, hT⟩ : ∃ T, ptU u.p.k = T := ⟨_, rfl⟩
        obtain ⟨f, hf⟩ : ∃ f, fLearn u.p.k = f := ⟨_, rfl⟩
        rw [hT] at rk hmeth
        rw [hf] at hcall hmeth hent
        have HCALL := Lib.hid hcall
        have HU := Lib.hid hu
        have HLL := Lib.hid hl
        obtain ⟨d, hd⟩ : ∃ d, L1.getD k 0 = d := ⟨_, rfl⟩
        have HD := Lib.hid hd
        rw [hd] at hcell
        have hki : (k : Int) < us.length := by omega
        clear hrow hcur hcall hT hf hd hkk hm hu hl hu' hlp hne1 hml
        go_upto_region 8 with fail
        refine wp_region_held_drew (S := (fun W : World => W.cell? ⟨B, 0, none⟩ = some (.slice (some ⟨R, 0, none⟩) us.length cr) ∧ W.cell? ⟨R, k, none⟩ = some (.iface T (.pointer (some ⟨l.g, 0, none⟩))))) (by kernel_rfl) ⟨b0r, rk⟩ (fun hHeld => ?_)
        refine tkz (i := 0) (d := 28) rfl rfl ?_
        simp only [Act.put, zzA, zzB, zzC]
        refine tkz (i := 1) (d := 29) rfl rfl ?_
        simp only [Act.put, zzA, zzB, zzC]
        refine tkz (i := 2) (d := 30) rfl rfl ?_
        simp only [Act.put, zzA, zzB, zzC]
        refine tkz (i := 3) (d := 31) rfl rfl ?_
        simp only [Act.put, zzA, zzB, zzC]
        refine tkz (i := 4) (d := 32) rfl rfl ?_
        simp only [Act.put, zzA, zzB, zzC]
        refine tkz (i := 5) (d := 33) rfl rfl ?_
        simp only [Act.put, zzA, zzB, zzC]
        refine tkz (i := 6) (d := 34) rfl rfl ?_
        simp only [Act.put, zzA, zzB, zzC]
        refine tkz (i := 7) (d := 35) rfl rfl ?_
        simp only [Act.put, zzA, zzB, zzC]
        refine tkz (i := 8) (d := 36) rfl rfl ?_
        simp only [Act.put, zzA, zzB, zzC]
        refine tkz (i := 9) (d := 37) rfl rfl ?_
        simp only [Act.put, zzA, zzB, zzC]
        refine tkz (i := 10) (d := 38) rfl rfl ?_
        simp only [Act.put, zzA, zzB, zzC]
        refine tkz (i := 11) (d := 39) rfl rfl ?_
        simp only [Act.put, zzA, zzB, zzC]
        refine tkz (i := 12) (d := 40) rfl rfl ?_
        simp only [Act.put, zzA, zzB, zzC]
        refine tkz (i := 13) (d := 41) rfl rfl ?_
        simp only [Act.put, zzA, zzB, zzC]
        refine rdz (i := 14) rfl (fun K hK => ?_)
        go_simp
        have HB0 := Lib.hid ((Below.refl wr.heap.size wr).drew)
        rw [← HD.out]
        refine (HCALL.out _ HB0.out).mono ?_
        rintro e w3 ht
        have hre := ht.ret
        subst hre
        have HT := Lib.hid ht
        have c0 := (ht.frm.cell (block_lt_of_cell hHeld.1) (fun e => (HNE.out _ e).2.2.1 rfl)).trans hHeld.1
        have c1 := (ht.frm.cell (block_lt_of_cell hHeld.2) (fun e => (HNE.out _ e).2.2.2.1 rfl)).trans hHeld.2
        clear ht
        go_wp2_with fail
        refine hK.out _ _ ⟨c0, c1⟩ (fun hHeld => ?_)
        clear hK K
        try simp only [Act.put, zzA, zzB, zzC]
        refine wpAnyH_done (by kernel_rfl) ?_ _
        have HNX := Lib.hid (HLK.out.step HU.out HLL.out HB0.out (learnU_p ..) HT.out)
        go_wp2
        go_roundw
        case rel => exact ⟨k + 1, by omega, by go_num, HNX.out⟩
        case measure => simp [intOf]; omega
      · obtain rfl : k = us.length := by omega
        have b1r : wr.cell? ⟨B, 1, none⟩ = some (.int .i64 c) := hm.blk.cell 1
        have b2r : wr.cell? ⟨B, 2, none⟩ = some (.int .i64 (bits : Int)) := hm.blk.cell 2
        have z1 := hm.blk.frozen 1
        have z2 := hm.blk.frozen 2
        have hor := HOR.out
        have hF := hlp.frm
        have HOR2 := HOR
        obtain ⟨us1, hus1⟩ : ∃ x, mapK us (fun i u => learnU u c L1 (L1.getD i 0) 1) us.length = x := ⟨_, rfl⟩
        have HUS1 := Lib.hid (show us1 = learnB us c bits 1 from by rw [← hus1, learnB, HL1.out])
        have hl1 : us1.length = us.length := by rw [← hus1]; exact mapK_length ..
        rw [hus1] at hm hml
        have hok1 : UsOk us1 wh := by rw [HUS1.out]; exact learnB_ok HO.out c bits (by omega)
        obtain ⟨w4, hw4⟩ : ∃ W, wr.setCell ⟨B, 1, none⟩ (.int .i64 (c2)) = W := ⟨_, rfl⟩
        obtain ⟨w5, hw5⟩ : ∃ W, w4.setCell ⟨B, 2, none⟩ (.int .i64 ((bits : Int) + 1)) = W := ⟨_, rfl⟩
        have hk4 : Blk w4 B 59 #[.slice (some ⟨R, 0, none⟩) us1.length cr, .int .i64 (c2), .int .i64 (bits : Int), .int .i64 (wh : Int), .slice A us.length cp] := hw4 ▸ hm.blk.set 1 (.int .i64 (c2))
        have hk5 : Blk w5 B 59 #[.slice (some ⟨R, 0, none⟩) us1.length cr, .int .i64 (c2), .int .i64 ((bits + 1 : Nat) : Int), .int .i64 (wh : Int), .slice A us.length cp] := hw5 ▸ hk4.set 2 (.int .i64 ((bits : Int) + 1))
        have hfB : Frm (fun k => k = B) wr w5 := hw5 ▸ (hw4 ▸ (Frm.refl (fun k => k = B) wr).setCell (p := ⟨B, 1, none⟩) (fun _ => rfl) _).setCell (p := ⟨B, 2, none⟩) (fun _ => rfl) _
        have hm5 : BM base w5 B R cr us1 ls (c2) (bits + 1) wh (.slice A us.length cp) L1 := hm.turn hfB hk5
        have hF5 : Frm (Own B V ls) w1 w5 := hF.trans hfB (fun b _ hb' => .inl hb')
        have b2r4 : w4.cell? ⟨B, 2, none⟩ = some (.int .i64 (bits : Int)) := hk4.cell 2
        have z24 := hk4.frozen 2
        have b25 : w5.cell? ⟨B, 2, none⟩ = some (.int .i64 ((bits : Int) + 1)) := hk5.cell 2
        have b05 : w5.cell? ⟨B, 0, none⟩ = some (.slice (some ⟨R, 0, none⟩) us1.length cr) := hk5.cell 0
        have HM5 := Lib.hid hm5
        have HF5 := Lib.hid hF5
        have HOK1 := Lib.hid hok1
        clear hlp hm hml hm5 hF5 hk4 hk5 hfB hF hus1 hok1 HLK
        go_upto_region 11 with fail
        try rw [hw4]
        clear hw4 b1r b2r z1 z2 hor b0r
        go_upto_region 12 with fail
        try rw [hw5]
        clear hw5 b2r4 z24
        by_cases h7 : bits = 7
        · have hi7 : (bits : Int) + 1 = 8 := by omega
          have hi7' : (bits : Int) = 7 := by omega
          rw [hi7] at b25
          have H7 := Lib.hid h7
          clear hi7 hi7' h7
          go_wp2_with fail
          obtain ⟨WR, rfl⟩ : ∃ x : World, x = wr := ⟨_, rfl⟩
          go_loopw [76] (fun v wr => ∃ k : Nat, k ≤ us1.length ∧ v = .int .i64 k ∧ LpR base B R cr us1 ls c2 (bits + 1) wh V (.slice A us.length cp) L1 (fun _ u => endU u c2 wh) w1 k wr) (fun v _ => us1.length - (intOf v).toNat)
          case atStart => exact ⟨0, by omega, rfl, ⟨HM5.out, HF5.out⟩⟩
          case round =>
            obtain ⟨k, hk, rfl, hlp⟩ := hrel
            have HLK := Lib.hid hlp
            have hm := hlp.bm
            have hml := mapK_length us1 (fun _ u => endU u c2 wh) k
            by_cases hlt : k < us1.length
            · obtain ⟨u, hu⟩ : ∃ u, us1[k]? = some u := ⟨us1[k], List.getElem?_eq_getElem hlt⟩
              obtain ⟨l, hl⟩ : ∃ l, ls[k]? = some l := ⟨ls[k]'(by rw [hlen, ← hl1]; exact hlt), List.getElem?_eq_getElem (by rw [hlen, ← hl1]; exact hlt)⟩
              have hu' : (mapK us1 (fun _ u => endU u c2 wh) k)[k]? = some u := (mapK_ge us1 _ k k (Nat.le_refl _)).trans hu
              obtain ⟨cur, hrow, hcur⟩ := hm.row
              have rk : wr.cell? ⟨R, k, none⟩ = some (.iface (ptU u.p.k) (.pointer (some ⟨l.g, 0, none⟩))) := (hrow.cell k).trans (hcur k u l hu' hl)
              have hkk := (HOK1.out k u hu).k
              have hcall : ∀ W, Below wr.heap.size wr W → Calls Try.prog (fEnd u.p.k) #[.pointer (some ⟨l.g, 0, none⟩), .pointer (some ⟨B, 1, none⟩)] W (TurnU (endU u c2 wh) l W) := fun W hW => by
                have hmW := hm.below hW
                exact ends_any (hmW.ub k u l hu' hl) k (HOK1.out k u hu) (hmW.nb hll.symm (by rw [hll]; exact h16)) (by omega) (by omega) (fun e => (hmW.far k l hl B e).2.2.1 rfl)
              have hmeth := fun W => methEnd hkk l.g W
              have hent := fun args W => enterEnd hkk args W
              have hnil := fun W => nilEnd hkk l.g W
              obtain ⟨T, hT⟩ : ∃ T, ptU u.p.k = T := ⟨_, rfl⟩
              obtain ⟨f, hf⟩ : ∃ f, fEnd u.p.k = f := ⟨_, rfl⟩
              rw [hT] at rk hmeth hnil
              rw [hf] at hcall hmeth hent
              have HCALL := Lib.hid hcall
              have HU := Lib.hid hu
              have HLL := Lib.hid hl
              have hki : (k : Int) < us1.length := by omega
              have hl16 : us1.length ≤ 16 := by omega
              clear hrow hcur hcall hT hf hkk hm hu hl hu' hlp hml b05 b25
              go_upto_region 16 with fail
              refine wp_region_held_drew (S := (fun _ : World => True)) (by kernel_rfl) trivial (fun hHeld => ?_)
              refine tkz (i := 0) (d := 80) rfl rfl ?_
              simp only [Act.put, zzA, zzB, zzC]
              refine tkz (i := 1) (d := 81) rfl rfl ?_
              simp only [Act.put, zzA, zzB, zzC]
              refine tkz (i := 2) (d := 82) rfl rfl ?_
              simp only [Act.put, zzA, zzB, zzC]
              refine tkz (i := 3) (d := 83) rfl rfl ?_
              simp only [Act.put, zzA, zzB, zzC]
              refine tkz (i := 4) (d := 84) rfl rfl ?_
              simp only [Act.put, zzA, zzB, zzC]
              refine tkz (i := 5) (d := 85) rfl rfl ?_
              simp only [Act.put, zzA, zzB, zzC]
              refine tkz (i := 6) (d := 86) rfl rfl ?_
              simp only [Act.put, zzA, zzB, zzC]
              refine rdz (i := 7) rfl (fun K hK => ?_)
              go_simp
              have HB0 := Lib.hid ((Below.refl wr.heap.size wr).drew)
              refine (HCALL.out _ HB0.out).mono ?_
              rintro e w3 ht
              have hre := ht.ret
              subst hre
              have HT := Lib.hid ht
              clear ht
              go_wp2_with fail
              refine hK.out _ _ trivial (fun hHeld => ?_)
              clear hK K
              try simp only [Act.put, zzA, zzB, zzC]
              refine wpAnyH_done (by kernel_rfl) ?_ _
              have HNX := Lib.hid (HLK.out.step HU.out HLL.out HB0.out (endU_p ..) HT.out)
              go_wp2
              go_roundw
              case rel => exact ⟨k + 1, by omega, by go_num, HNX.out⟩
              case measure => simp [intOf]; omega
            · obtain rfl : k = us1.length := by omega
              obtain ⟨us2, hus2⟩ : ∃ x, mapK us1 (fun _ u => endU u c2 wh) us1.length = x := ⟨_, rfl⟩
              have HUS2 := Lib.hid (show us2 = endB (learnB us c bits 1) c2 wh from by rw [← hus2, ← HUS1.out]; rfl)
              have hl2 : us2.length = us.length := by rw [← hus2, hml, hl1]
              rw [hus2] at hm
              have hF := hlp.frm
              have b1q : wr.cell? ⟨B, 1, none⟩ = some (.int .i64 c2) := hm.blk.cell 1
              have b2q : wr.cell? ⟨B, 2, none⟩ = some (.int .i64 ((bits + 1 : Nat) : Int)) := hm.blk.cell 2
              have b3q : wr.cell? ⟨B, 3, none⟩ = some (.int .i64 (wh : Int)) := hm.blk.cell 3
              have z1 := hm.blk.frozen 1
              have z2 := hm.blk.frozen 2
              have z3 := hm.blk.frozen 3
              have hk8 : Blk (((wr.setCell ⟨B, 1, none⟩ (.int .i64 1)).setCell ⟨B, 2, none⟩ (.int .i64 0)).setCell ⟨B, 3, none⟩ (.int .i64 ((wh : Int) + 1))) B 59 #[.slice (some ⟨R, 0, none⟩) us2.length cr, .int .i64 1, .int .i64 ((0 : Nat) : Int), .int .i64 ((wh + 1 : Nat) : Int), .slice A us.length cp] := ((hm.blk.set 1 (.int .i64 1)).set 2 (.int .i64 0)).set 3 (.int .i64 ((wh : Int) + 1))
              have hfB : Frm (fun k => k = B) wr (((wr.setCell ⟨B, 1, none⟩ (.int .i64 1)).setCell ⟨B, 2, none⟩ (.int .i64 0)).setCell ⟨B, 3, none⟩ (.int .i64 ((wh : Int) + 1))) := (((Frm.refl (fun k => k = B) wr).setCell (p := ⟨B, 1, none⟩) (fun _ => rfl) _).setCell (p := ⟨B, 2, none⟩) (fun _ => rfl) _).setCell (p := ⟨B, 3, none⟩) (fun _ => rfl) _
              have HM8 := Lib.hid (hm.turn hfB hk8)
              have HF8 := Lib.hid (hF.trans hfB (fun b _ hb' => .inl hb'))
              have hwi : (wh : Int) + 1 ≤ 1000000000 := by omega
              clear hlp hm hml hF hk8 hfB hus2 HLK b05 b25
              go_wp2
              go_ret
              refine ⟨rfl, .inr ⟨H7.out, ?_⟩, HF8.out⟩
              rw [HC2.out, ← HUS2.out]
              exact ⟨_, _, HM8.out, HN.out⟩
        · have hi7 : ¬ (bits : Int) + 1 = 8 := by omega
          have hi7n : ¬ bits + 1 = 8 := by omega
          have hi7m : ¬ bits = 7 := h7
          go_wp2
          go_ret
          refine ⟨rfl, .inl ⟨h7, ?_⟩, HF5.out⟩
          rw [← HUS1.out, HC2.out]
          exact ⟨_, _, HM5.out, HN.out⟩
end Go.Proofs.Ytnohfeaamfjimaa
namespace Go.Proofs.Ytnohfeaamfjimaa
open Go.RowKit Go.WideShapes
set_option linter.unusedVariables false
set_option linter.unusedSimpArgs false
theorem nilCtx {k : Int} (h : 1 ≤ k ∧ k ≤ 9) (g : Nat) (w : World) : (Go.nilAhead 270 (ptU k) (.pointer (some ⟨g, 0, none⟩)) "quillpress/blend.context").run Try.prog w = .ok (some false) w := by
  rcases kind9 h with rfl | rfl | rfl | rfl | rfl | rfl | rfl | rfl | rfl <;> kernel_rfl
def wds (l : List Int) : List Value := l.map (.int .u32)
def ctxB (us : List Un) (wh : Nat) (hs : List Int) : List Un := mapK us (fun i u => ctxU u wh (hs.getD i 0)) us.length
def WOk (hs : List Int) : Prop := ∀ j, 0 ≤ hs.getD j 0 ∧ hs.getD j 0 ≤ 4294967295
theorem ctxB_ok {us : List Un} {wh : Nat} (h : UsOk us wh) {hs : List Int} (hw : WOk hs) : UsOk (ctxB us wh hs) wh :=
  mapK_ok h (fun i u hu => ctxU_ok (h i u hu) (hw i).1 (hw i).2) _
structure CtxE (base B R cr : Nat) (us : List Un) (ls : List Loc) (c : Int) (bits wh : Nat) (V : Value) (L : List Int) (hs : List Int) (w0 : World) (e : Ending) (w : World) : Prop where
  ret : e = .returned (.int .i64 0)
  bm : BM base w B R cr (ctxB us wh hs) ls c bits wh V L
  frm : Frm (Own B V ls) w0 w
theorem ctxArg (B : Nat) (A Ah : Option Addr) (n cr nh ch : Nat) (bits : Int) (w : World) (hn : 0 < n) (h : w.cell? ⟨B, 0, none⟩ = some (.slice A n cr)) (hb : w.cell? ⟨B, 2, none⟩ = some (.int .i64 bits)) (h0 : ¬ bits = 0) : Calls Try.prog 17 #[.pointer (some ⟨B, 0, none⟩), .slice Ah nh ch] w (Sam (.int .i64 2) w) := by
  have HR := Lib.hid (rightYes B _ _ _ w hn h)
  have g0 : (bits != 0) = true := by simpa using h0
  clear h
  go_enter Try.func17, Try.ntmps17
  go_wp2_with fail
  refine (HR.out).mono ?_
  rintro e w1 ⟨rfl, rfl⟩
  go_wp2
  go_ret
  exact ⟨rfl, rfl⟩
end Go.Proofs.Ytnohfeaamfjimaa
namespace Go.Proofs.Ytnohfeaamfjimaa
open Go.RowKit Go.WideShapes
set_option linter.unusedVariables false
set_option linter.unusedSimpArgs false
theorem and_low (n : Nat) (h : n < 4294967296) : bits .and .u64 (n : Int) 4294967295 = (n : Int) := by
  have hk : ∀ n : Int, 0 ≤ n → n < 2 ^ 32 → IntKind.u64.wrap n = n := by
    intro n h0 h1
    simp only [IntKind.wrap, IntKind.bits, IntKind.signed]
    simp
    omega
  have := bits_mask .u64 32 (by decide) hk 32 (by decide) (n : Int) (by omega) (by omega)
  rw [show (4294967295 : Int) = 2 ^ 32 - 1 from rfl, this]
  omega
set_option maxRecDepth 100000 in
theorem mul71 (n : Nat) (h : n ≤ 16777216) (w : World) : Calls Try.prog 71 #[.int .u64 1, .int .u64 (n : Int)] w fun e w' => e = .returned (.tuple #[.int .u64 0, .int .u64 (n : Int)]) ∧ w' = w := by
  have e1 := and_low n (by omega)
  have e2 : bits .and .u64 1 4294967295 = 1 := by decide +kernel
  have e3 : bits .and .u64 0 4294967295 = 0 := by decide +kernel
  have e4 : (n : Int) / 4294967296 = 0 := by omega
  go_enter Try.func71, Try.ntmps71
  go_wp2
  go_ret2
  exact ⟨rfl, rfl⟩
set_option maxRecDepth 100000 in
theorem mul64 (n : Nat) (h : n ≤ 16777216) (w : World) : Calls Try.prog 64 #[.int .u64 1, .int .u64 (n : Int)] w fun e w' => e = .returned (.tuple #[.int .u64 0, .int .u64 (n : Int)]) ∧ w' = w := by
  have c71 := mul71 n h w
  go_enter Try.func64, Try.ntmps64
  go_wp2_with (go_at_call 71; refine c71.mono ?_; rintro e w' ⟨rfl, hw⟩; rw [hw])
  go_ret2
  exact ⟨rfl, rfl⟩
end Go.Proofs.Ytnohfeaamfjimaa
