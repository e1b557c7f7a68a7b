/- Run, of meaning: the walk. Condition: memories of at most 5000 places, at most 1000 rounds and bytes. -/
import Derived.Test.YtebmgladdgmmeaaVlGXh
namespace Go.Proofs.Ytebmgladdgmmeaa
open Go.RowKit Go.WideShapes
open List (setIfInBounds_toArray set_cons_zero set_cons_succ)
set_option linter.unusedVariables false
set_option linter.unusedSimpArgs false
theorem wpList_built {P : Program} {ops : Array Oper} {rest : List Oper} {o : Oper} {a : Act} {w : World} {Q : Exit → Act → World → Prop} (hg : o.guard = none) (t : TypeId) (parts : Array (Nat × Operand)) (cs : Array Value) (ho : o.op = .build t parts)
    (hb : P.built t (parts.map fun (i, x) => (i, a.eval x)).toList = some cs) (h : wpList P ops Q rest (a.put o.dst (.agg cs)) w) : wpList P ops Q (o :: rest) a w := by
  refine wpList_build hg t parts ho (by rw [hb]; rfl) ?_
  rw [hb]
  exact h
/-- What Run hands back. -/
structure IsRan0 (r : St × List Int × Int) (w0 : World) (e : Ending) (w : World) : Prop where
  ex : ∃ vh vm vo, e = .returned (.tuple #[.agg (r.1.m.cells vh vm), vo, .int .i64 r.2.2]) ∧ OwnR w 0 vh 45 (r.1.hs.map (.int .u32)) ∧ OwnR w 0 vm 5 (r.1.ms.map (.int .u8)) ∧ OwnR w 0 vo 5 (r.2.1.map (.int .u8))
  low : Below w0.heap.size w0 w
theorem IsRan0.zero {w0 w : World} (x : Int) (h : Below w0.heap.size w0 w) : IsRan0 (zS, [], x) w0 (.returned (.tuple #[.agg zCells, .slice none 0 0, .int .i64 x])) w :=
  ⟨⟨_, _, _, rfl, .inl ⟨rfl, rfl⟩, .inl ⟨rfl, rfl⟩, .inl ⟨rfl, rfl⟩⟩, h⟩
def RunM (f : Fo) (post : Bool) (s : St) (fuel most : Int) (r : St × List Int × Int) : Prop :=
  if rightF post f = true then (if rightM s.hs.length s.ms.length = true then ∃ c σ', Ev most (.list f) ⟨s, fuel, [], false⟩ c σ' ∧ r = (if c = 0 then (σ'.s, σ'.out, 0) else (zS, [], c)) else r = (zS, [], 2)) else r = (zS, [], 124)
def RunMEnd (f : Fo) (post : Bool) (s : St) (fuel most : Int) (w : World) (e : Ending) (w' : World) : Prop := ∃ r, RunM f post s fuel most r ∧ IsRan0 r w e w'
theorem rv5 (s : St) {r : St × List Int × Int} (h : RunV [0] false s 0 0 r) : r = if rightM s.hs.length s.ms.length = true then (s, [], 0) else (zS, [], 2) := by
  have hc : chk [0] false = 0 := by decide +kernel
  unfold RunV at h
  rw [if_pos hc] at h
  by_cases hr : rightM s.hs.length s.ms.length = true
  · rw [if_pos hr] at h
    rw [if_pos hr]
    have g0 : getI [0] 0 = (⟨0, 0, 0, 0⟩, 1, 0) := by kernel_rfl
    have h1 : stepR [0] 0 ⟨0, 0, s, []⟩ = .inl (s, [], 0) := by
      unfold stepR
      rw [show (((⟨0, 0, s, []⟩ : Rp).at_ : Nat) : Int) = 0 from rfl, g0]
      rfl
    exact h.one (.done h1)
  · rw [if_neg hr] at h
    rw [if_neg hr]
    exact h
theorem do0 (s : St) : DoS 0 0 0 0 s = s := by
  unfold DoS
  split
  · unfold doV
    rfl
  · rfl
set_option maxRecDepth 100000 in
set_option maxHeartbeats 16000000 in
theorem run36 (f : Fo) (A : Option Addr) (c : Nat) (post : Bool) (s : St) (hm : s.m.ok) (hw : Wds s.hs) (mo : Oct s.ms) (b : Nat) (v1 v2 : Value) (fuel most : Int) (w : World) (hr : RdS w.heap.size w A f) (hc : f.len ≤ c) (hl : f.len ≤ lenMost) (ht : f.tot ≤ 1000000)
    (hr1 : OwnR w b v1 45 (s.hs.map (.int .u32))) (hr2 : OwnR w b v2 5 (s.ms.map (.int .u8))) (lh : s.hs.length ≤ 5000) (lm : s.ms.length ≤ 5000) (hfu : fuel ≤ 1000) (hmo : most ≤ 1000) :
    Calls Try.prog 36 #[.slice A f.len c, .bool post, .agg (s.m.cells v1 v2), .int .i64 fuel, .int .i64 most] w (RunMEnd f post s fuel most w) := by
  have hz := (zero_of_info zero50).1
  have hmf : ∀ (fn : Fn) (first cap : Array Value) (w : World), (Instr.makeFunc fn first cap).run Try.prog w = .ok (.func fn first cap) w := fun _ _ _ _ => rfl
  have hbx := MBox.new hm w v1 v2
  have z4 := Mc.size hm v1 v2
  obtain ⟨c4, hc4⟩ : ∃ z, s.m.cells v1 v2 = z := ⟨_, rfl⟩
  rw [hc4] at hbx z4 ⊢
  have bx := (hbx.below ((Below.refl _ _).alloc (Nat.le_refl _) (.cells #[.int .i64 most] 3))).below ((Below.refl _ _).alloc (Nat.le_refl _) (.cells zCells 50))
  have bp := (Blk.new (w.alloc (.cells c4 50)) 3 #[.int .i64 most]).alloc (.cells zCells 50)
  have br := Blk.new ((w.alloc (.cells c4 50)).alloc (.cells #[.int .i64 most] 3)) 50 zCells
  rw [World.size_alloc] at bp
  rw [World.size_alloc, World.size_alloc] at br
  have hb0 : Below w.heap.size w (((w.alloc (.cells c4 50)).alloc (.cells #[.int .i64 most] 3)).alloc (.cells zCells 50)) := (((Below.refl _ _).alloc (Nat.le_refl _) _).alloc (by simp) _).alloc (by simp; omega) _
  have hrg : ∀ W, Below (((w.alloc (.cells c4 50)).alloc (.cells #[.int .i64 most] 3)).alloc (.cells zCells 50)).heap.size (((w.alloc (.cells c4 50)).alloc (.cells #[.int .i64 most] 3)).alloc (.cells zCells 50)) W → W.rangeAt w.heap.size 0 c4.toList := fun W hW j u hu => by
    rw [Nat.zero_add, (bx.below hW).blk.cell j, hc4]
    simpa using hu
  have hrt := fun (W : World) (hW : Below w.heap.size w W) => rightS_any f post A c W ((hr.below hW).mono hW.size) hc hl ht
  have hls := fun (W : World) (q u p9 : Nat) (y1 y2 : Value) (hW : Below w.heap.size w W) (hx : RX W q u p9 most ⟨s, fuel, [], false⟩ y1 y2 (.slice none 0 0)) (hp : w.heap.size ≤ p9) => listN f.tot f (Nat.le_refl _) W w.heap.size q u p9 most ⟨s, fuel, [], false⟩ y1 y2 (.slice none 0 0) A c hx rfl hmo hp (hr.below hW) hc hl
  have hdo := fun (W : World) (hW : Below w.heap.size w W) => do25_own 0 0 0 0 s hm hw mo b v1 v2 W (hr1.below hW) (hr2.below hW) lh lm (Int.le_refl 0)
  rw [do0] at hdo
  have hrun := runLit [0] false s (if rightM s.hs.length s.ms.length = true then (s, [], 0) else (zS, [], 2)) hm hw mo b v1 v2 0 0 #[.int .u8 0] 1 rfl rfl (oct_lit2 _ (by decide)) (by omega) lh lm (by omega) (by omega) (by omega) w hr1 hr2 (fun r' h => rv5 s h) c4 hc4
  rw [hc4] at hdo
  have SL4 : Hid ((Try.prog.info? 50).map (·.size) = some c4.toList.length) := Lib.hid (by rw [Array.length_toList, z4]; exact size50)
  obtain ⟨len, hlen⟩ : ∃ z, f.len = z := ⟨_, rfl⟩
  rw [hlen] at hrt hls ⊢
  have HB0 := Lib.hid hb0
  have HBP := Lib.hid bp
  have HBR := Lib.hid br
  have HRG := Lib.hid hrg
  have HRT := Lib.hid hrt
  have HLS := Lib.hid hls
  have HDO := Lib.hid hdo
  have HRUN := Lib.hid hrun
  have HM := Lib.hid hm
  have HWD := Lib.hid hw
  have HMO8 := Lib.hid mo
  have HLH := Lib.hid lh
  have HLM := Lib.hid lm
  have HFU := Lib.hid hfu
  obtain ⟨zs, hzs⟩ : ∃ x, zCells = x := ⟨_, rfl⟩
  have HZS := Lib.hid hzs
  simp only [hzs] at hz
  rw [hzs] at HB0 HBP HBR HRG
  have HSZ : Hid ((Try.prog.info? 50).map (·.size) = some zs.size) := Lib.hid (by rw [← hzs, show zCells.size = 263 from Mc.size zM_ok _ _]; exact size50)
  have HZN : Hid (zs.size = 263) := Lib.hid (by rw [← hzs]; exact Mc.size zM_ok _ _)
  have HZ1 : Hid (zs.all (·.oneCell') = true) := Lib.hid (by rw [← hzs]; exact zone)
  have HBL : Hid (Try.prog.built 50 [] = some zs) := Lib.hid (by rw [← hzs]; exact built50e)
  have HEND : Hid (∀ w' x, Below w.heap.size w w' → IsRan0 (zS, [], x) w (.returned (.tuple #[.agg zs, .slice none 0 0, .int .i64 x])) w') := Lib.hid (fun w' x h => by rw [← hzs]; exact IsRan0.zero x h)
  obtain ⟨W0, hW0⟩ : ∃ z, ((w.alloc (.cells c4 50)).alloc (.cells #[.int .i64 most] 3)).alloc (.cells zs 50) = z := ⟨_, rfl⟩
  rw [hW0] at HB0 HBP HBR HRG
  clear hb0 bp br hrg hrt hls hdo hrun hm hw mo hr hr1 hr2 lh lm hfu hmo hbx bx z4 hc4 hzs hc hl ht hlen
  obtain ⟨rf, hrf⟩ : ∃ z, rightF post f = z := ⟨_, rfl⟩
  rw [hrf] at HRT
  have HRF := Lib.hid hrf
  clear hrf
  go_enter Try.func36, Try.ntmps36
  go_wp2_with fail
  try rw [hW0]
  refine (HRT.out W0 HB0.out).mono ?_
  rintro e w1 ⟨rfl, hb1⟩
  have B1 := Lib.hid hb1
  have L1 := Lib.hid (ch0 HB0.out hb1)
  have P1 := Lib.hid (HBP.out.below hb1)
  have R1 := Lib.hid (HBR.out.below hb1)
  clear hb1 hW0
  cases rf
  · go_wp2_with (first
      | (refine wpList_build rfl 50 #[] rfl (by simp [HBL.out]) ?_; simp only [List.map_toArray, List.map_nil, HBL.out, Option.getD_some])
      | (refine wpList_store_row rfl 50 (.tmp 10) (.tmp 24) rfl (w.heap.size + 2) zs rfl rfl 50 _ R1.out HSZ.out rfl HZ1.out ?_))
    have hf := frm_setRow w1 (w.heap.size + 2) zs
    exact bodyPost_ret (v := .tuple #[.agg zs, .slice none 0 0, .int .i64 124]) (results_row_two rfl _ _ (w.heap.size + 2) 50 zs _ _ _ _ rfl rfl rfl (blk_setRow R1.out zs) Try.underlying50 rfl HSZ.out) rfl ⟨_, (by unfold RunM; rw [if_neg (by rw [HRF.out]; decide)]), HEND.out _ _ (L1.out.trans (hf.to_below L1.out.size (fun k hk => by omega)))⟩
  · go_wp2_with (first
      | (refine wpList_load_midA rfl 50 (.tmp 7) rfl w.heap.size 0 rfl c4 _ (HRG.out _ (B1.out.alloc B1.out.size _)) Try.underlying50 rfl SL4.out ?_; simp only [Act.put, setIfInBounds_toArray, set_cons_zero, set_cons_succ]))
    refine (HRUN.out w1 L1.out _ rfl).mono ?_
    obtain ⟨rm, hrm⟩ : ∃ z, rightM s.hs.length s.ms.length = z := ⟨_, rfl⟩
    rw [hrm]
    have HRM := Lib.hid hrm
    clear hrm
    rintro e w2 ⟨⟨y1, y2, y3, rfl, o5a, o5b, _⟩, l5⟩
    have hok5 : (if rm = true then (s, ([] : List Int), (0 : Int)) else (zS, [], 2)).1.m.ok := by
      cases rm
      · exact zM_ok
      · exact HM.out
    cases rm
    · simp only [Bool.false_eq_true, if_false] at o5a o5b hok5 ⊢
      have z5 := Mc.size (m := zS.m) hok5 y1 y2
      have one5 := Mc.one (m := zS.m) (vh := y1) (vm := y2) o5a.one o5b.one
      have bx5 := MBox.new (m := zS.m) hok5 w2 y1 y2
      have ob5 : Below w2.heap.size w2 (w2.alloc (.cells (zS.m.cells y1 y2) 50)) := (Below.refl _ _).alloc (Nat.le_refl _) _
      have r5a := o5a.below ob5
      have r5b := o5b.below ob5
      obtain ⟨c5, hc5⟩ : ∃ x, zS.m.cells y1 y2 = x := ⟨_, rfl⟩
      rw [hc5] at z5 one5 bx5 ob5 r5a r5b ⊢
      obtain ⟨V5, hV5⟩ : ∃ x, w2.alloc (.cells c5 50) = x := ⟨_, rfl⟩
      rw [hV5] at bx5 ob5 r5a r5b
      have rg5 : ∀ W, Below V5.heap.size V5 W → W.rangeAt w2.heap.size 0 c5.toList := fun W hW j u hu => by
        rw [Nat.zero_add, (bx5.below hW).blk.cell j, hc5]
        simpa using hu
      have SI5 : Hid ((Try.prog.info? 50).map (·.size) = some c5.size) := Lib.hid (by rw [z5]; exact size50)
      have SL5 : Hid ((Try.prog.info? 50).map (·.size) = some c5.toList.length) := Lib.hid (by rw [Array.length_toList, z5]; exact size50)
      have SS5 : Hid (zs.size = c5.size) := Lib.hid (by rw [z5]; exact HZN.out)
      have ONE5 := Lib.hid one5
      have BX5 := Lib.hid bx5
      have RA5 := Lib.hid r5a
      have RB5 := Lib.hid r5b
      have RG5 := Lib.hid rg5
      have HC5 := Lib.hid hc5
      have HV5 := Lib.hid hV5
      clear z5 one5 bx5 r5a r5b rg5 hc5 hV5 o5a o5b
      have D15 := Lib.hid (ch1 (Below.refl _ _) (ch0 l5 ob5))
      have L5 := Lib.hid (ch0 L1.out D15.out)
      have R5 := Lib.hid (R1.out.below D15.out)
      have P5 := Lib.hid (P1.out.below D15.out)
      clear l5 ob5
      go_wp2_with (first
        | (refine wpList_store_row rfl 50 (.tmp 13) (.tmp 29) rfl w2.heap.size c5 rfl rfl 50 _ (heap_alloc_new _ _) SI5.out SS5.out ONE5.out ?_; rw [World.setRow_alloc_new, HV5.out]; simp only [Act.put, setIfInBounds_toArray, set_cons_zero, set_cons_succ])
        | (refine wpList_build rfl 50 #[] rfl (by simp [HBL.out]) ?_; simp only [List.map_toArray, List.map_nil, HBL.out, Option.getD_some])
        | (refine wpList_store_row rfl 50 (.tmp 10) (.tmp 34) rfl (w.heap.size + 2) zs rfl rfl 50 _ R5.out HSZ.out rfl HZ1.out ?_))
      have hf := frm_setRow V5 (w.heap.size + 2) zs
      exact bodyPost_ret (v := .tuple #[.agg zs, .slice none 0 0, .int .i64 2]) (results_row_two rfl _ _ (w.heap.size + 2) 50 zs _ _ _ _ rfl rfl rfl (blk_setRow R5.out zs) Try.underlying50 rfl HSZ.out) rfl ⟨_, (by unfold RunM; rw [if_pos HRF.out, if_neg (by rw [HRM.out]; decide)]), HEND.out _ _ (L5.out.trans (hf.to_below L5.out.size (fun k hk => by omega)))⟩
    · simp only [if_true] at o5a o5b hok5 ⊢
      have z5 := Mc.size (m := s.m) hok5 y1 y2
      have one5 := Mc.one (m := s.m) (vh := y1) (vm := y2) o5a.one o5b.one
      have bx5 := MBox.new (m := s.m) hok5 w2 y1 y2
      have ob5 : Below w2.heap.size w2 (w2.alloc (.cells (s.m.cells y1 y2) 50)) := (Below.refl _ _).alloc (Nat.le_refl _) _
      have r5a := o5a.below ob5
      have r5b := o5b.below ob5
      obtain ⟨c5, hc5⟩ : ∃ x, s.m.cells y1 y2 = x := ⟨_, rfl⟩
      rw [hc5] at z5 one5 bx5 ob5 r5a r5b ⊢
      obtain ⟨V5, hV5⟩ : ∃ x, w2.alloc (.cells c5 50) = x := ⟨_, rfl⟩
      rw [hV5] at bx5 ob5 r5a r5b
      have rg5 : ∀ W, Below V5.heap.size V5 W → W.rangeAt w2.heap.size 0 c5.toList := fun W hW j u hu => by
        rw [Nat.zero_add, (bx5.below hW).blk.cell j, hc5]
        simpa using hu
      have SI5 : Hid ((Try.prog.info? 50).map (·.size) = some c5.size) := Lib.hid (by rw [z5]; exact size50)
      have SL5 : Hid ((Try.prog.info? 50).map (·.size) = some c5.toList.length) := Lib.hid (by rw [Array.length_toList, z5]; exact size50)
      have SS5 : Hid (zs.size = c5.size) := Lib.hid (by rw [z5]; exact HZN.out)
      have ONE5 := Lib.hid one5
      have BX5 := Lib.hid bx5
      have RA5 := Lib.hid r5a
      have RB5 := Lib.hid r5b
      have RG5 := Lib.hid rg5
      have HC5 := Lib.hid hc5
      have HV5 := Lib.hid hV5
      clear z5 one5 bx5 r5a r5b rg5 hc5 hV5 o5a o5b
      have D15 := Lib.hid (ch1 (Below.refl _ _) (ch0 l5 ob5))
      have L5 := Lib.hid (ch0 L1.out D15.out)
      have R5 := Lib.hid (R1.out.below D15.out)
      have P5 := Lib.hid (P1.out.below D15.out)
      clear l5 ob5
      go_wp2_with (first
        | (refine wpList_store_row rfl 50 (.tmp 13) (.tmp 29) rfl w2.heap.size c5 rfl rfl 50 _ (heap_alloc_new _ _) SI5.out SS5.out ONE5.out ?_; rw [World.setRow_alloc_new, HV5.out]; simp only [Act.put, setIfInBounds_toArray, set_cons_zero, set_cons_succ])
        | (refine wpList_load_midA rfl 50 (.tmp 7) rfl w.heap.size 0 rfl c4 _ (HRG.out _ ((ch0 B1.out D15.out).alloc (ch0 B1.out D15.out).size _)) Try.underlying50 rfl SL4.out ?_; simp only [Act.put, setIfInBounds_toArray, set_cons_zero, set_cons_succ]))
      have hL5 := L5.out.size
      have lu : Below V5.heap.size V5 (V5.alloc (.cells #[.slice none 0 0] 48)) := (Below.refl _ _).alloc (Nat.le_refl _) _
      refine (HDO.out _ (ch0 L5.out lu)).mono ?_
      rintro e w6 ⟨⟨x1, x2, rfl, o1, o2⟩, l6⟩
      have hu6 := (Blk.new V5 48 #[.slice none 0 0]).below l6
      have hp6 := (P5.out.below lu).below l6
      have hr6 := (R5.out.below lu).below l6
      have hL6 := ch0 (ch0 L5.out lu) l6
      have hs6 := l6.size
      simp only [World.size_alloc] at hs6
      have z6 := Mc.size hok5 x1 x2
      have hbt := built104 (s.m.cells x1 x2) z6 (.int .i64 fuel) (.func (.func 65) #[] #[.pointer (some ⟨V5.heap.size, 0, none⟩), .pointer (some ⟨w.heap.size + 1, 0, none⟩)]) rfl rfl
      have lq : Below w6.heap.size w6 (w6.alloc (.cells (s.m.cells x1 x2 ++ #[.int .i64 fuel, (.func (.func 65) #[] #[.pointer (some ⟨V5.heap.size, 0, none⟩), .pointer (some ⟨w.heap.size + 1, 0, none⟩)]), .bool false]) 104)) := (Below.refl _ _).alloc (Nat.le_refl _) _
      have hqb := Blk.new w6 104 (s.m.cells x1 x2 ++ #[.int .i64 fuel, (.func (.func 65) #[] #[.pointer (some ⟨V5.heap.size, 0, none⟩), .pointer (some ⟨w.heap.size + 1, 0, none⟩)]), .bool false])
      have hqe : s.m.cells x1 x2 ++ #[.int .i64 fuel, (.func (.func 65) #[] #[.pointer (some ⟨V5.heap.size, 0, none⟩), .pointer (some ⟨w.heap.size + 1, 0, none⟩)]), .bool false] = (qCells s.m fuel false V5.heap.size (w.heap.size + 1) x1 x2).toArray := by simp [qCells, Mc.cells]
      have hp1 := P1.out.lt
      have hpl := P5.out.lt
      have hrx : RX (w6.alloc (.cells (s.m.cells x1 x2 ++ #[.int .i64 fuel, (.func (.func 65) #[] #[.pointer (some ⟨V5.heap.size, 0, none⟩), .pointer (some ⟨w.heap.size + 1, 0, none⟩)]), .bool false]) 104)) w6.heap.size V5.heap.size (w.heap.size + 1) most ⟨s, fuel, [], false⟩ x1 x2 (.slice none 0 0) :=
        ⟨hqe ▸ hqb, (o1.below lq).base (Nat.zero_le _), (o2.below lq).base (Nat.zero_le _), (fun k hk => by cases hk), hu6.below lq, ⟨rfl, .inl ⟨rfl, rfl⟩⟩, hp6.below lq, hok5, HWD.out, HMO8.out, HLH.out, HLM.out, ⟨by omega, by omega⟩, HFU.out, by show 0 ≤ 1000; omega⟩
      have hr7 := hr6.below lq
      have hL7 := ch0 hL6 lq
      obtain ⟨c6, hc6⟩ : ∃ z, s.m.cells x1 x2 = z := ⟨_, rfl⟩
      rw [hc6] at hbt hrx hr7 hL7 ⊢
      obtain ⟨cq, hcq⟩ : ∃ z, c6 ++ #[.int .i64 fuel, (.func (.func 65) #[] #[.pointer (some ⟨V5.heap.size, 0, none⟩), .pointer (some ⟨w.heap.size + 1, 0, none⟩)]), .bool false] = z := ⟨_, rfl⟩
      rw [hcq] at hbt hrx hr7 hL7
      have HBT := Lib.hid hbt
      have HRX := Lib.hid hrx
      have R7 := Lib.hid hr7
      have L7 := Lib.hid hL7
      have HRL := Lib.hid (R5.out.lt)
      have HS6 := Lib.hid hs6
      clear hu6 hp6 hr6 hL6 z6 hbt lq hqb hqe hp1 hpl hrx hr7 hL7 hc6 hcq o1 o2 l6 lu hok5
      go_wp2_with (refine wpList_built rfl 104 #[(0, .tmp 39), (1, .tmp 40), (2, .tmp 41)] cq rfl (by simp only [List.map_toArray, List.map_cons, List.map_nil]; exact HBT.out) ?_; simp only [Act.put, setIfInBounds_toArray, set_cons_zero, set_cons_succ])
      refine (HLS.out _ _ _ _ x1 x2 L7.out HRX.out (by omega)).mono ?_
      rintro e w7 ⟨⟨c2, σ2, vh2, vm2, vo2, rfl, hev, hx2, hv2⟩, hf2⟩
      have hr8 := R7.out.frm hf2 (fun e => by
        have := HRL.out
        have := HS6.out
        rcases e with e | e | e
        · omega
        · omega
        · cases e)
      have hL8 := L7.out.trans (hf2.to_below L7.out.size (fun k hk => by
        have := HS6.out
        rcases hk with e | e | e
        · omega
        · omega
        · cases e))
      have R8 := Lib.hid hr8
      have L8 := Lib.hid hL8
      have HEV := Lib.hid hev
      have HX2 := Lib.hid hx2
      clear hev hx2 hv2 hf2 hr8 hL8
      by_cases hc : c2 = 0
      rotate_left
      · have g0 : (c2 == 0) = false := by simpa using hc
        have g1 : (c2 != 0) = true := by simp [bne, g0]
        have HC := Lib.hid hc
        clear hc
        go_wp2_with (first
          | (refine wpList_build rfl 50 #[] rfl (by simp [HBL.out]) ?_; simp only [List.map_toArray, List.map_nil, HBL.out, Option.getD_some])
          | (refine wpList_store_row rfl 50 (.tmp 10) (.tmp 49) rfl (w.heap.size + 2) zs rfl rfl 50 _ R8.out HSZ.out rfl HZ1.out ?_))
        have hf := frm_setRow w7 (w.heap.size + 2) zs
        exact bodyPost_ret (v := .tuple #[.agg zs, .slice none 0 0, .int .i64 c2]) (results_row_two rfl _ _ (w.heap.size + 2) 50 zs _ _ _ _ rfl rfl rfl (blk_setRow R8.out zs) Try.underlying50 rfl HSZ.out) rfl ⟨_, (by unfold RunM; rw [if_pos HRF.out, if_pos HRM.out]; exact ⟨c2, σ2, HEV.out, by rw [if_neg HC.out]⟩), HEND.out _ _ (L8.out.trans (hf.to_below L8.out.size (fun k hk => by omega)))⟩
      subst hc
      obtain ⟨A7, d7, hvo, _⟩ := own_slice HX2.out.own
      obtain ⟨n7, hn7⟩ : ∃ z, σ2.out.length = z := ⟨_, rfl⟩
      rw [hn7] at hvo
      subst hvo
      have cu := HX2.out.ub.cell 0
      simp at cu
      have one := Mc.one (m := σ2.s.m) HX2.out.rh.one HX2.out.rm.one
      have z8 := Mc.size HX2.out.m vh2 vm2
      have rg8 := HX2.out.range
      have hl8 : σ2.s.m.list vh2 vm2 = (σ2.s.m.cells vh2 vm2).toList := rfl
      rw [hl8] at rg8
      have hfr := fun cs => frm_setRow w7.drew (w.heap.size + 2) cs
      have hfin : ∀ cs, σ2.s.m.cells vh2 vm2 = cs → RX (w7.drew.setRow (w.heap.size + 2) cs) w6.heap.size V5.heap.size (w.heap.size + 1) most σ2 vh2 vm2 (.slice A7 n7 d7) ∧ IsRan0 (σ2.s, σ2.out, 0) w (.returned (.tuple #[.agg cs, .slice A7 n7 d7, .int .i64 0])) (w7.drew.setRow (w.heap.size + 2) cs) := fun cs hcs => by
        have hx := (HX2.out.drewN 1).frm (hfr cs) (by have := HRL.out; have := HS6.out; omega) (by have := HRL.out; omega) (by omega) (fun k hk => HX2.out.rh.apartX R8.out (by decide) k hk) (fun k hk => HX2.out.rm.apartX R8.out (by decide) k hk) (fun k hk => own_apartX HX2.out.own R8.out (by decide) k hk)
        have hL8 : Below w.heap.size w w7.drew := L8.out.drew
        exact ⟨hx, ⟨⟨vh2, vm2, _, by rw [← hcs], hx.rh, hx.rm, (OwnR.of_own hx.own).base (Nat.zero_le _)⟩, hL8.trans ((hfr cs).to_below hL8.size (fun k hk => by omega))⟩⟩
      obtain ⟨c8, hc8⟩ : ∃ z, σ2.s.m.cells vh2 vm2 = z := ⟨_, rfl⟩
      have hfin8 := hfin c8 hc8
      rw [hc8] at one z8 rg8
      have SI8 : Hid ((Try.prog.info? 50).map (·.size) = some c8.size) := Lib.hid (by rw [z8]; exact size50)
      have SL8 : Hid ((Try.prog.info? 50).map (·.size) = some c8.toList.length) := Lib.hid (by rw [Array.length_toList, z8]; exact size50)
      have SS8 : Hid (zs.size = c8.size) := Lib.hid (by rw [z8]; exact HZN.out)
      have ONE8 := Lib.hid one
      have HFIN := Lib.hid hfin8
      have RG8 := Lib.hid rg8
      have HC8 := Lib.hid hc8
      have hcu : ∀ W, RX W w6.heap.size V5.heap.size (w.heap.size + 1) most σ2 vh2 vm2 (.slice A7 n7 d7) → (W.rangeAt w6.heap.size 0 c8.toList ∧ W.cell? ⟨V5.heap.size, 0, none⟩ = some (.slice A7 n7 d7)) := fun W hX => ⟨by have := hX.range; rw [← HC8.out]; exact this, by have := hX.ub.cell 0; simpa using this⟩
      have HCU := Lib.hid hcu
      clear one z8 rg8 hl8 hfr hfin hfin8 hc8 hn7 hcu
      go_upto_region 12 with fail
      have hS : (fun W => W.rangeAt w6.heap.size 0 c8.toList ∧ W.cell? ⟨V5.heap.size, 0, none⟩ = some (.slice A7 n7 d7)) w7.drew := HCU.out _ (HX2.out.drewN 1)
      refine wp_region_held_drew (S := fun W => W.rangeAt w6.heap.size 0 c8.toList ∧ W.cell? ⟨V5.heap.size, 0, none⟩ = some (.slice A7 n7 d7)) (by kernel_rfl) hS (fun hHeld => ?_)
      clear hS cu
      refine wpAnyH_takeD (i := 0) (d := 51) (oi := _) (v := ?_) rfl rfl (by kernel_rfl) (by kernel_rfl) (by kernel_rfl) (fun _ _ _ h => h) (Or.inl ⟨by rfl, ?_⟩) (by assumption) ?_
      rotate_left
      · (intro w hSw; (try dsimp only at hSw); go_simp) <;> with_reducible rfl
      simp only [Act.put, setIfInBounds_toArray, set_cons_zero, set_cons_succ]
      refine wpAnyH_takeD (i := 1) (d := 52) (oi := _) (v := ?_) rfl rfl (by kernel_rfl) (by kernel_rfl) (by kernel_rfl) (fun _ _ _ h => h) (Or.inl ⟨by rfl, ?_⟩) (by assumption) ?_
      rotate_left
      · (intro w hSw; (try dsimp only at hSw); go_simp) <;> with_reducible rfl
      simp only [Act.put, setIfInBounds_toArray, set_cons_zero, set_cons_succ]
      refine wpAnyH_takeD (i := 2) (d := 53) (oi := _) (v := ?_) rfl rfl (by kernel_rfl) (by kernel_rfl) (by kernel_rfl) (fun _ _ _ h => h) (Or.inl ⟨by rfl, ?_⟩) (by assumption) ?_
      rotate_left
      · (intro w hSw; (try dsimp only at hSw); go_simp) <;> with_reducible rfl
      simp only [Act.put, setIfInBounds_toArray, set_cons_zero, set_cons_succ]
      refine wpAnyH_takeD (i := 3) (d := 54) (oi := _) (v := .agg c8) rfl rfl (by kernel_rfl) (by kernel_rfl) (by kernel_rfl) (fun _ _ _ h => h) (yieldsIf_load_mid (by rfl) 50 (.tmp 53) rfl w6.heap.size 0 rfl c8.toList _ (fun w hS => hS.1) Try.underlying50 rfl SL8.out) (by assumption) ?_
      simp only [Act.put, setIfInBounds_toArray, set_cons_zero, set_cons_succ]
      refine wpAnyH_takeD (i := 4) (d := 55) (oi := _) (v := ?_) rfl rfl (by kernel_rfl) (by kernel_rfl) (by kernel_rfl) (fun _ _ _ h => h) (Or.inl ⟨by rfl, ?_⟩) (by assumption) ?_
      rotate_left
      · (intro w hSw; (try dsimp only at hSw); go_simp) <;> with_reducible rfl
      simp only [Act.put, setIfInBounds_toArray, set_cons_zero, set_cons_succ]
      refine wpAnyH_ready (rs := [5]) (by kernel_rfl) (by simp) ?_
      refine AllReadyH.cons (o := _) rfl (fun K hK => ?_) AllReadyH.nil
      rw [if_pos (by rfl)]
      try simp only [List.getElem_toArray, List.getElem_cons_zero, List.getElem_cons_succ]
      refine wp_store_row 50 (.tmp 10) (.tmp 54) rfl (w.heap.size + 2) c8 rfl rfl 50 zs R8.out SI8.out SS8.out ONE8.out ?_
      refine hK.out _ _ (HCU.out _ HFIN.out.1) (fun hHeld2 => ?_)
      clear hK K hHeld
      try simp only [List.getElem_toArray, List.getElem_cons_zero, List.getElem_cons_succ, Act.put, setIfInBounds_toArray, set_cons_zero, set_cons_succ]
      refine wpAnyH_takeD (i := 6) (d := 11) (oi := _) (v := ?_) rfl rfl (by kernel_rfl) (by kernel_rfl) (by kernel_rfl) (fun _ _ _ h => h) (Or.inl ⟨by rfl, ?_⟩) (by assumption) ?_
      rotate_left
      · (intro w hSw; (try dsimp only at hSw); go_simp) <;> with_reducible rfl
      simp only [Act.put, setIfInBounds_toArray, set_cons_zero, set_cons_succ]
      refine wpAnyH_takeD (i := 7) (d := 12) (oi := _) (v := ?_) rfl rfl (by kernel_rfl) (by kernel_rfl) (by kernel_rfl) (fun _ _ _ h => h) (Or.inl ⟨by rfl, ?_⟩) (by assumption) ?_
      rotate_left
      · (intro w hSw; (try dsimp only at hSw); go_simp) <;> with_reducible rfl
      simp only [Act.put, setIfInBounds_toArray, set_cons_zero, set_cons_succ]
      refine wpAnyH_done (by kernel_rfl) ?_ _
      go_wp2_with fail
      exact bodyPost_ret (v := .tuple #[.agg c8, .slice A7 n7 d7, .int .i64 0]) (results_row_two rfl _ _ (w.heap.size + 2) 50 c8 _ _ _ _ rfl rfl rfl (blk_setRow R8.out c8) Try.underlying50 rfl SI8.out) rfl ⟨(σ2.s, σ2.out, 0), (by unfold RunM; rw [if_pos HRF.out, if_pos HRM.out]; exact ⟨0, σ2, HEV.out, by rw [if_pos rfl]⟩), HFIN.out.2⟩
end Go.Proofs.Ytebmgladdgmmeaa
