/- Holds, of the reference: the walk. No condition. -/
import Derived.Test.YtebmgladdgmmeaaVdGQa
import Derived.Test.YtebmgladdgmmeaaVdGQc
import Derived.Test.YtebmgladdgmmeaaVdCoPu
namespace Go.Proofs.Ytebmgladdgmmeaa
open Go.RowKit Go.WideShapes
open List (setIfInBounds_toArray set_cons_zero set_cons_succ)
set_option linter.unusedVariables false
set_option linter.unusedSimpArgs false
theorem VRows.of {w : World} {Ah Am : Option Addr} {s : St} (hh : Rd w Ah (s.hs.map (.int .u32))) (hm : Rd w Am (s.ms.map (.int .u8))) (hok : s.ok) : ∃ bh oh bm om, Ah = some ⟨bh, oh, none⟩ ∧ Am = some ⟨bm, om, none⟩ ∧ VRows w bh oh bm om s := by
  obtain ⟨b1, o1, e1, _, _⟩ := hh (by rw [List.length_map]; exact pow_pos hok.p8)
  obtain ⟨b2, o2, e2, _, _⟩ := hm (by rw [List.length_map]; exact pow_pos hok.p12)
  subst e1 e2
  exact ⟨b1, o1, b2, o2, rfl, rfl, ⟨hh, hm, hok⟩⟩
set_option maxRecDepth 100000 in
set_option maxHeartbeats 8000000 in
theorem holds29 (o d n v : Int) (s : St) (hm : s.m.ok) (hw : Wds s.hs) (mo : Oct s.ms) (Ah Am : Option Addr) (ch cm nh nm : Nat) (w : World) (hnh : nh = s.hs.length) (hnm : nm = s.ms.length) (hh : Rd w Ah (s.hs.map (.int .u32))) (hmr : Rd w Am (s.ms.map (.int .u8))) (ho : 0 ≤ o) :
    Calls Try.prog 29 #[.agg #[.int .u8 o, .int .i64 d, .int .i64 n, .int .i64 v], .agg (s.m.cells (.slice Ah nh ch) (.slice Am nm cm))] w (Quiet (.bool (HoldsS o d n v s)) w) := by
  subst hnh hnm
  have bx := MBox.new hm (w.alloc (.cells #[.int .u8 o, .int .i64 d, .int .i64 n, .int .i64 v] 31)) (.slice Ah s.hs.length ch) (.slice Am s.ms.length cm)
  rw [World.size_alloc] at bx
  have b0 := ((Blk.new w 31 #[.int .u8 o, .int .i64 d, .int .i64 n, .int .i64 v]).alloc (.cells (s.m.cells (.slice Ah s.hs.length ch) (.slice Am s.ms.length cm)) 50))
  have hb2 : Below w.heap.size w ((w.alloc (.cells #[.int .u8 o, .int .i64 d, .int .i64 n, .int .i64 v] 31)).alloc (.cells (s.m.cells (.slice Ah s.hs.length ch) (.slice Am s.ms.length cm)) 50)) := ((Below.refl _ _).alloc (Nat.le_refl _) _).alloc (by simp) _
  have hrt := fun W => right_ref s.m hm Ah Am s.hs.length ch s.ms.length cm W
  have hri := fun W => right15 ⟨o, d, n, v⟩ W ho
  obtain ⟨rm, hrm⟩ : ∃ x, rightM s.hs.length s.ms.length = x := ⟨_, rfl⟩
  simp only [hrm] at hrt
  obtain ⟨ri, hrie⟩ : ∃ x, rightI ⟨o, d, n, v⟩ = x := ⟨_, rfl⟩
  have hval : HoldsS o d n v s = (rm && ri && decide (19 ≤ o) && decide (o ≤ 21) && holdV o (operV n v s) s.m.a) := by unfold HoldsS; rw [hrm, hrie]
  have hcode : codeI ⟨o, d, n, v⟩ = if ri then 0 else 110 := by unfold codeI; rw [hrie]
  have h58 : rm = true → ri = true → ∀ W, Below w.heap.size w W → Calls Try.prog 58 #[.agg (s.m.cells (.slice Ah s.hs.length ch) (.slice Am s.ms.length cm)), .int .i64 n, .int .i64 v] W (Quiet (.int .u32 (operV n v s)) W) := by
    intro e1 e2 W hW
    subst e1 e2
    obtain ⟨bh, oh, bm, om, rfl, rfl, hv⟩ := VRows.of (hh.below hW rfl) (hmr.below hW rfl) ⟨hm, hw, mo, hrm⟩
    exact at58 n v (right_in hrie).2.1 hv
  have i1 : (Try.prog.info? 50).map (·.size) = some (s.m.cells (.slice Ah s.hs.length ch) (.slice Am s.ms.length cm)).toList.length := by
    have h := Mc.size hm (.slice Ah s.hs.length ch) (.slice Am s.ms.length cm)
    rw [Array.length_toList, h]
    exact size50
  have hrg := bx.range
  have hc0 := bx.c0
  obtain ⟨cs, hcs⟩ : ∃ x, s.m.cells (.slice Ah s.hs.length ch) (.slice Am s.ms.length cm) = x := ⟨_, rfl⟩
  have hcl : s.m.list (.slice Ah s.hs.length ch) (.slice Am s.ms.length cm) = cs.toList := by rw [← hcs]; rfl
  rw [hcs] at bx b0 hb2 i1 hrg hc0 ⊢
  rw [hcl] at hrg
  simp only [hcs] at hrt h58
  obtain ⟨W0, hW0⟩ : ∃ x, (w.alloc (.cells #[.int .u8 o, .int .i64 d, .int .i64 n, .int .i64 v] 31)).alloc (.cells cs 50) = x := ⟨_, rfl⟩
  rw [hW0] at bx b0 hb2 hrg hc0
  obtain ⟨a, ha⟩ : ∃ x, s.m.a = x := ⟨_, rfl⟩
  obtain ⟨x, hx⟩ : ∃ x, operV n v s = x := ⟨_, rfl⟩
  rw [ha] at hc0 hval
  rw [hx] at hval h58
  have HRG := Lib.hid hrg
  have HI1 := Lib.hid i1
  have HB0 := Lib.hid b0
  have HB2 := Lib.hid hb2
  have HRT := Lib.hid hrt
  have HRI := Lib.hid hri
  have HVAL := Lib.hid hval
  have HCO := Lib.hid hcode
  have HC0 := Lib.hid hc0
  have HLT := Lib.hid bx.lt
  have H58 := Lib.hid h58
  have k0 := b0.cell 0
  have k1 := b0.cell 1
  have k2 := b0.cell 2
  have k3 := b0.cell 3
  simp at k0 k1 k2 k3
  clear bx b0 hb2 hrt hri hrm hrie hval hcode h58 i1 hrg hcl hcs hm hw mo hh hmr hc0 ha hx
  cases rm
  · go_enter Try.func29, Try.ntmps29
    go_wp2_with (refine wpList_load_midA rfl 50 (.tmp 3) rfl (w.heap.size + 1) 0 rfl cs _ HRG.out Try.underlying50 rfl HI1.out ?_; simp only [Act.put, setIfInBounds_toArray, set_cons_zero, set_cons_succ])
    refine (HRT.out _).mono ?_
    rintro e w1 ⟨rfl, hb⟩
    have B1 := Lib.hid (ch0 HB2.out hb)
    clear hb
    go_wp2_with fail
    go_ret
    exact ⟨by rw [HVAL.out]; rfl, B1.out⟩
  · cases ri
    · go_enter Try.func29, Try.ntmps29
      go_wp2_with (refine wpList_load_midA rfl 50 (.tmp 3) rfl (w.heap.size + 1) 0 rfl cs _ HRG.out Try.underlying50 rfl HI1.out ?_; simp only [Act.put, setIfInBounds_toArray, set_cons_zero, set_cons_succ])
      refine (HRT.out _).mono ?_
      rintro e w1 ⟨rfl, hb⟩
      have B1 := Lib.hid (ch0 HB2.out hb)
      have BB := Lib.hid hb
      have q0 := (HB0.out.below BB.out).cell 0
      have q1 := (HB0.out.below BB.out).cell 1
      have q2 := (HB0.out.below BB.out).cell 2
      have q3 := (HB0.out.below BB.out).cell 3
      simp at q0 q1 q2 q3
      clear hb k0 k1 k2 k3
      go_wp2_with fail
      refine (HRI.out _).mono ?_
      rintro e w2 ⟨he, hb⟩
      rw [HCO.out] at he
      simp only [if_true, if_false, Bool.false_eq_true] at he
      subst he
      have BB2 := Lib.hid (ch0 BB.out hb)
      clear hb q0 q1 q2 q3
      go_wp2_with fail
      go_ret
      exact ⟨by rw [HVAL.out]; rfl, ch0 HB2.out BB2.out⟩
    · by_cases o19 : o = 19
      · subst o19
        go_enter Try.func29, Try.ntmps29
        go_wp2_with (refine wpList_load_midA rfl 50 (.tmp 3) rfl (w.heap.size + 1) 0 rfl cs _ HRG.out Try.underlying50 rfl HI1.out ?_; simp only [Act.put, setIfInBounds_toArray, set_cons_zero, set_cons_succ])
        refine (HRT.out _).mono ?_
        rintro e w1 ⟨rfl, hb⟩
        have B1 := Lib.hid (ch0 HB2.out hb)
        have BB := Lib.hid hb
        have q0 := (HB0.out.below BB.out).cell 0
        have q1 := (HB0.out.below BB.out).cell 1
        have q2 := (HB0.out.below BB.out).cell 2
        have q3 := (HB0.out.below BB.out).cell 3
        simp at q0 q1 q2 q3
        clear hb k0 k1 k2 k3
        go_wp2_with fail
        refine (HRI.out _).mono ?_
        rintro e w2 ⟨he, hb⟩
        rw [HCO.out] at he
        simp only [if_true, if_false, Bool.false_eq_true] at he
        subst he
        have BB2 := Lib.hid (ch0 BB.out hb)
        clear hb q0 q1 q2 q3
        have HRG2 : Hid (w2.rangeAt (w.heap.size + 1) 0 cs.toList) := Lib.hid (fun j u hu => by rw [(bcell BB2.out).1 _ _ HLT.out]; exact HRG.out j u hu)
        have p0 := (HB0.out.below BB2.out).cell 0
        have p1 := (HB0.out.below BB2.out).cell 1
        have p2 := (HB0.out.below BB2.out).cell 2
        have p3 := (HB0.out.below BB2.out).cell 3
        simp at p0 p1 p2 p3
        go_wp2_with (refine wpList_load_midA rfl 50 (.tmp 3) rfl (w.heap.size + 1) 0 rfl cs _ HRG2.out Try.underlying50 rfl HI1.out ?_; simp only [Act.put, setIfInBounds_toArray, set_cons_zero, set_cons_succ])
        refine (H58.out (by trivial) (by trivial) _ (ch0 HB2.out BB2.out)).mono ?_
        rintro e w3 ⟨rfl, hb⟩
        have BB3 := Lib.hid (ch0 BB2.out hb)
        have s0 := (HB0.out.below BB3.out).cell 0
        have s1 := (HB0.out.below BB3.out).cell 1
        have s2 := (HB0.out.below BB3.out).cell 2
        have s3 := (HB0.out.below BB3.out).cell 3
        have a0 : w3.cell? ⟨w.heap.size + 1, 0, none⟩ = some (.int .u32 a) := by rw [(bcell BB3.out).1 _ _ HLT.out]; exact HC0.out
        simp at s0 s1 s2 s3
        clear hb p0 p1 p2 p3
        go_wp2_with fail
        go_ret
        exact ⟨by rw [HVAL.out]; first | rfl | simp [holdV], ch0 HB2.out BB3.out⟩
      by_cases o20 : o = 20
      · subst o20
        go_enter Try.func29, Try.ntmps29
        go_wp2_with (refine wpList_load_midA rfl 50 (.tmp 3) rfl (w.heap.size + 1) 0 rfl cs _ HRG.out Try.underlying50 rfl HI1.out ?_; simp only [Act.put, setIfInBounds_toArray, set_cons_zero, set_cons_succ])
        refine (HRT.out _).mono ?_
        rintro e w1 ⟨rfl, hb⟩
        have B1 := Lib.hid (ch0 HB2.out hb)
        have BB := Lib.hid hb
        have q0 := (HB0.out.below BB.out).cell 0
        have q1 := (HB0.out.below BB.out).cell 1
        have q2 := (HB0.out.below BB.out).cell 2
        have q3 := (HB0.out.below BB.out).cell 3
        simp at q0 q1 q2 q3
        clear hb k0 k1 k2 k3
        go_wp2_with fail
        refine (HRI.out _).mono ?_
        rintro e w2 ⟨he, hb⟩
        rw [HCO.out] at he
        simp only [if_true, if_false, Bool.false_eq_true] at he
        subst he
        have BB2 := Lib.hid (ch0 BB.out hb)
        clear hb q0 q1 q2 q3
        have HRG2 : Hid (w2.rangeAt (w.heap.size + 1) 0 cs.toList) := Lib.hid (fun j u hu => by rw [(bcell BB2.out).1 _ _ HLT.out]; exact HRG.out j u hu)
        have p0 := (HB0.out.below BB2.out).cell 0
        have p1 := (HB0.out.below BB2.out).cell 1
        have p2 := (HB0.out.below BB2.out).cell 2
        have p3 := (HB0.out.below BB2.out).cell 3
        simp at p0 p1 p2 p3
        go_wp2_with (refine wpList_load_midA rfl 50 (.tmp 3) rfl (w.heap.size + 1) 0 rfl cs _ HRG2.out Try.underlying50 rfl HI1.out ?_; simp only [Act.put, setIfInBounds_toArray, set_cons_zero, set_cons_succ])
        refine (H58.out (by trivial) (by trivial) _ (ch0 HB2.out BB2.out)).mono ?_
        rintro e w3 ⟨rfl, hb⟩
        have BB3 := Lib.hid (ch0 BB2.out hb)
        have s0 := (HB0.out.below BB3.out).cell 0
        have s1 := (HB0.out.below BB3.out).cell 1
        have s2 := (HB0.out.below BB3.out).cell 2
        have s3 := (HB0.out.below BB3.out).cell 3
        have a0 : w3.cell? ⟨w.heap.size + 1, 0, none⟩ = some (.int .u32 a) := by rw [(bcell BB3.out).1 _ _ HLT.out]; exact HC0.out
        simp at s0 s1 s2 s3
        clear hb p0 p1 p2 p3
        go_wp2_with fail
        go_ret
        exact ⟨by rw [HVAL.out]; first | rfl | simp [holdV], ch0 HB2.out BB3.out⟩
      by_cases o21 : o = 21
      · subst o21
        go_enter Try.func29, Try.ntmps29
        go_wp2_with (refine wpList_load_midA rfl 50 (.tmp 3) rfl (w.heap.size + 1) 0 rfl cs _ HRG.out Try.underlying50 rfl HI1.out ?_; simp only [Act.put, setIfInBounds_toArray, set_cons_zero, set_cons_succ])
        refine (HRT.out _).mono ?_
        rintro e w1 ⟨rfl, hb⟩
        have B1 := Lib.hid (ch0 HB2.out hb)
        have BB := Lib.hid hb
        have q0 := (HB0.out.below BB.out).cell 0
        have q1 := (HB0.out.below BB.out).cell 1
        have q2 := (HB0.out.below BB.out).cell 2
        have q3 := (HB0.out.below BB.out).cell 3
        simp at q0 q1 q2 q3
        clear hb k0 k1 k2 k3
        go_wp2_with fail
        refine (HRI.out _).mono ?_
        rintro e w2 ⟨he, hb⟩
        rw [HCO.out] at he
        simp only [if_true, if_false, Bool.false_eq_true] at he
        subst he
        have BB2 := Lib.hid (ch0 BB.out hb)
        clear hb q0 q1 q2 q3
        have HRG2 : Hid (w2.rangeAt (w.heap.size + 1) 0 cs.toList) := Lib.hid (fun j u hu => by rw [(bcell BB2.out).1 _ _ HLT.out]; exact HRG.out j u hu)
        have p0 := (HB0.out.below BB2.out).cell 0
        have p1 := (HB0.out.below BB2.out).cell 1
        have p2 := (HB0.out.below BB2.out).cell 2
        have p3 := (HB0.out.below BB2.out).cell 3
        simp at p0 p1 p2 p3
        go_wp2_with (refine wpList_load_midA rfl 50 (.tmp 3) rfl (w.heap.size + 1) 0 rfl cs _ HRG2.out Try.underlying50 rfl HI1.out ?_; simp only [Act.put, setIfInBounds_toArray, set_cons_zero, set_cons_succ])
        refine (H58.out (by trivial) (by trivial) _ (ch0 HB2.out BB2.out)).mono ?_
        rintro e w3 ⟨rfl, hb⟩
        have BB3 := Lib.hid (ch0 BB2.out hb)
        have s0 := (HB0.out.below BB3.out).cell 0
        have s1 := (HB0.out.below BB3.out).cell 1
        have s2 := (HB0.out.below BB3.out).cell 2
        have s3 := (HB0.out.below BB3.out).cell 3
        have a0 : w3.cell? ⟨w.heap.size + 1, 0, none⟩ = some (.int .u32 a) := by rw [(bcell BB3.out).1 _ _ HLT.out]; exact HC0.out
        simp at s0 s1 s2 s3
        clear hb p0 p1 p2 p3
        go_wp2_with fail
        go_ret
        exact ⟨by rw [HVAL.out]; first | rfl | simp [holdV], ch0 HB2.out BB3.out⟩
      have f19 : (o == (19 : Int)) = false := by simpa using o19
      have f20 : (o == (20 : Int)) = false := by simpa using o20
      have f21 : (o == (21 : Int)) = false := by simpa using o21
      go_enter Try.func29, Try.ntmps29
      go_wp2_with (refine wpList_load_midA rfl 50 (.tmp 3) rfl (w.heap.size + 1) 0 rfl cs _ HRG.out Try.underlying50 rfl HI1.out ?_; simp only [Act.put, setIfInBounds_toArray, set_cons_zero, set_cons_succ])
      refine (HRT.out _).mono ?_
      rintro e w1 ⟨rfl, hb⟩
      have B1 := Lib.hid (ch0 HB2.out hb)
      have BB := Lib.hid hb
      have q0 := (HB0.out.below BB.out).cell 0
      have q1 := (HB0.out.below BB.out).cell 1
      have q2 := (HB0.out.below BB.out).cell 2
      have q3 := (HB0.out.below BB.out).cell 3
      simp at q0 q1 q2 q3
      clear hb k0 k1 k2 k3
      go_wp2_with fail
      refine (HRI.out _).mono ?_
      rintro e w2 ⟨he, hb⟩
      rw [HCO.out] at he
      simp only [if_true, if_false, Bool.false_eq_true] at he
      subst he
      have BB2 := Lib.hid (ch0 BB.out hb)
      clear hb q0 q1 q2 q3
      have HRG2 : Hid (w2.rangeAt (w.heap.size + 1) 0 cs.toList) := Lib.hid (fun j u hu => by rw [(bcell BB2.out).1 _ _ HLT.out]; exact HRG.out j u hu)
      have p0 := (HB0.out.below BB2.out).cell 0
      have p1 := (HB0.out.below BB2.out).cell 1
      have p2 := (HB0.out.below BB2.out).cell 2
      have p3 := (HB0.out.below BB2.out).cell 3
      simp at p0 p1 p2 p3
      go_wp2_with (refine wpList_load_midA rfl 50 (.tmp 3) rfl (w.heap.size + 1) 0 rfl cs _ HRG2.out Try.underlying50 rfl HI1.out ?_; simp only [Act.put, setIfInBounds_toArray, set_cons_zero, set_cons_succ])
      refine (H58.out (by trivial) (by trivial) _ (ch0 HB2.out BB2.out)).mono ?_
      rintro e w3 ⟨rfl, hb⟩
      have BB3 := Lib.hid (ch0 BB2.out hb)
      have s0 := (HB0.out.below BB3.out).cell 0
      have s1 := (HB0.out.below BB3.out).cell 1
      have s2 := (HB0.out.below BB3.out).cell 2
      have s3 := (HB0.out.below BB3.out).cell 3
      have a0 : w3.cell? ⟨w.heap.size + 1, 0, none⟩ = some (.int .u32 a) := by rw [(bcell BB3.out).1 _ _ HLT.out]; exact HC0.out
      simp at s0 s1 s2 s3
      clear hb p0 p1 p2 p3
      go_wp2_with fail
      go_ret
      refine ⟨?_, ch0 HB2.out BB3.out⟩
      rw [HVAL.out]
      by_cases h1 : 19 ≤ o
      · rw [show decide (o ≤ (21 : Int)) = false by simp; omega]; simp
      · rw [show decide ((19 : Int) ≤ o) = false by simpa using h1]; simp
end Go.Proofs.Ytebmgladdgmmeaa
