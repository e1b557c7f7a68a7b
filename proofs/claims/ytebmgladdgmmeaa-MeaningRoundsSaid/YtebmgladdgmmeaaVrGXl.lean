/- A loop that counts: plain. · MeaningRounds' walk. No condition. · MeaningRounds' law: the argument opened. No condition. -/
import Derived.Test.YtebmgladdgmmeaaVrGXi
import Derived.Test.YtebmgladdgmmeaaVrGXk
import Derived.Test.YtebmgladdgmmeaaVrGLp
namespace Go.Proofs.Ytebmgladdgmmeaa
open Go.RowKit Go.WideShapes
set_option linter.unusedVariables false
set_option linter.unusedSimpArgs false
def hB1 : Hd := ⟨1, ⟨3, 1, 0, 0⟩, false, ⟨0, 0, 0, 0⟩, 0⟩
def hA1 : Hd := ⟨1, ⟨4, 0, 0, 0⟩, false, ⟨0, 0, 0, 0⟩, 0⟩
def hR : Hd := ⟨3, ⟨0, 0, 0, 0⟩, false, ⟨21, 0, 7, 0⟩, 0⟩
def fBody : Fo := .cons hB1 .nil .nil (.cons hA1 .nil .nil .nil)
def fR : Fo := .cons hR fBody .nil .nil
theorem doB (a b : Int) (f : Bool) : doI ⟨3, 1, 0, 0⟩ (st a b f) = st a ((b + 1) % 4294967296) f := by
  unfold doI DoS
  rw [if_pos ⟨show rightM 1 1 = true by decide +kernel, by decide +kernel, by decide⟩]
  rfl
theorem doA (a b : Int) (f : Bool) : doI ⟨4, 0, 0, 0⟩ (st a b f) = st ((a - 1) % 4294967296) b f := by
  unfold doI DoS
  rw [if_pos ⟨show rightM 1 1 = true by decide +kernel, by decide +kernel, by decide⟩]
  rfl
theorem doG (a b : Int) (f : Bool) : doI ⟨21, 0, 7, 0⟩ (st a b f) = st a b (decide (0 < a)) := by
  unfold doI DoS
  rw [if_pos ⟨show rightM 1 1 = true by decide +kernel, by decide +kernel, by decide⟩]
  rfl
theorem ev_body (j x : Nat) (F : Int) (f : Bool) (hj : j ≤ 1000) (hx : x ≤ 1000) : Ev 0 (.list fBody) ⟨st ((j + 1 : Nat) : Int) (x : Int) f, F, [], false⟩ 0 ⟨st (j : Int) ((x + 1 : Nat) : Int) f, F, [], false⟩ := by
  have e1 : doI hB1.i (st ((j + 1 : Nat) : Int) (x : Int) f) = st ((j + 1 : Nat) : Int) ((x + 1 : Nat) : Int) f := by
    rw [show hB1.i = ⟨3, 1, 0, 0⟩ from rfl, doB]
    congr 1
    omega
  have e2 : doI hA1.i (st ((j + 1 : Nat) : Int) ((x + 1 : Nat) : Int) f) = st (j : Int) ((x + 1 : Nat) : Int) f := by
    rw [show hA1.i = ⟨4, 0, 0, 0⟩ from rfl, doA]
    congr 1
    omega
  refine .next (σ1 := ⟨st ((j + 1 : Nat) : Int) ((x + 1 : Nat) : Int) f, F, [], false⟩) ?_ rfl (.next (σ1 := ⟨st (j : Int) ((x + 1 : Nat) : Int) f, F, [], false⟩) ?_ rfl .nil)
  · have h := Ev.plain (most := 0) (h := hB1) (b := .nil) (e := .nil) (σ := ⟨st ((j + 1 : Nat) : Int) (x : Int) f, F, [], false⟩) ⟨by decide, by decide, by decide⟩ (by decide)
    simp only [e1] at h
    exact h
  · have h := Ev.plain (most := 0) (h := hA1) (b := .nil) (e := .nil) (σ := ⟨st ((j + 1 : Nat) : Int) ((x + 1 : Nat) : Int) f, F, [], false⟩) ⟨by decide, by decide, by decide⟩ (by decide)
    simp only [e2] at h
    exact h
theorem cond_R (a b F : Int) (f : Bool) : condS hR ⟨st a b f, F, [], false⟩ = ⟨st a b (decide (0 < a)), F, [], false⟩ ∧ condV hR ⟨st a b f, F, [], false⟩ = decide (0 < a) := by
  have e : doI hR.ci (st a b f) = st a b (decide (0 < a)) := doG a b f
  constructor
  · unfold condS
    simp only [e]
  · unfold condV
    simp only [e]
    show (decide (0 < a) != false) = _
    cases decide (0 < a) <;> rfl
theorem ev_R1 : ∀ (j x : Nat) (F : Int) (f first : Bool), j ≤ 1000 → x + j ≤ 1000 → (first = true ∨ 1 ≤ F) → ((j : Int) ≤ (if first then F else F - 1)) → ∃ F2, Ev 0 (.loop hR fBody first) ⟨st ((j + 1 : Nat) : Int) (x : Int) f, F, [], false⟩ 0 ⟨st 0 ((x + j + 1 : Nat) : Int) false, F2, [], false⟩
  | 0, x, F, f, first, hj, hx, hp, hF => by
    refine ⟨(spend first ⟨st ((0 + 1 : Nat) : Int) (x : Int) f, F, [], false⟩).fuel, ?_⟩
    have hb := ev_body 0 x (spend first ⟨st ((0 + 1 : Nat) : Int) (x : Int) f, F, [], false⟩).fuel f (by omega) (by omega)
    have hc := cond_R 0 ((x + 1 : Nat) : Int) (spend first ⟨st ((0 + 1 : Nat) : Int) (x : Int) f, F, [], false⟩).fuel f
    have h := Ev.lend (h := hR) (b := fBody) (first := first) (σ := ⟨st ((0 + 1 : Nat) : Int) (x : Int) f, F, [], false⟩) hp (by cases first <;> exact hb) rfl hc.2
    rw [hc.1] at h
    exact h
  | j + 1, x, F, f, first, hj, hx, hp, hF => by
    have hb := ev_body (j + 1) x (spend first ⟨st ((j + 1 + 1 : Nat) : Int) (x : Int) f, F, [], false⟩).fuel f (by omega) (by omega)
    have hc := cond_R ((j + 1 : Nat) : Int) ((x + 1 : Nat) : Int) (spend first ⟨st ((j + 1 + 1 : Nat) : Int) (x : Int) f, F, [], false⟩).fuel f
    have hd : decide ((0 : Int) < ((j + 1 : Nat) : Int)) = true := decide_eq_true (by omega)
    rw [hd] at hc
    have hfu : (spend first ⟨st ((j + 1 + 1 : Nat) : Int) (x : Int) f, F, [], false⟩).fuel = if first then F else F - 1 := by cases first <;> rfl
    obtain ⟨F2, h2⟩ := ev_R1 j (x + 1) (spend first ⟨st ((j + 1 + 1 : Nat) : Int) (x : Int) f, F, [], false⟩).fuel true false (by omega) (by omega) (.inr (by rw [hfu]; cases first <;> simp at hF ⊢ <;> omega)) (by rw [hfu]; cases first <;> simp at hF ⊢ <;> omega)
    refine ⟨F2, ?_⟩
    have e : ((x + 1 + j + 1 : Nat) : Int) = ((x + (j + 1) + 1 : Nat) : Int) := by omega
    rw [e] at h2
    exact Ev.lmore (h := hR) (b := fBody) (first := first) hp (by cases first <;> exact hb) rfl hc.2 (by rw [hc.1]; exact h2)
theorem ev_dry : ∀ (j x : Nat) (F : Int) (f : Bool), j ≤ 1000 → x + j ≤ 1000 → F < ((j + 1 : Nat) : Int) → ∃ σ2, Ev 0 (.loop hR fBody false) ⟨st ((j + 1 : Nat) : Int) (x : Int) f, F, [], false⟩ 111 σ2
  | 0, x, F, f, hj, hx, hF => ⟨_, .dry (by show F < 1; omega)⟩
  | j + 1, x, F, f, hj, hx, hF => by
    by_cases h1 : F < 1
    · exact ⟨_, .dry h1⟩
    · have hb := ev_body (j + 1) x (F - 1) f (by omega) (by omega)
      have hc := cond_R ((j + 1 : Nat) : Int) ((x + 1 : Nat) : Int) (F - 1) f
      have hd : decide ((0 : Int) < ((j + 1 : Nat) : Int)) = true := decide_eq_true (by omega)
      rw [hd] at hc
      obtain ⟨σ2, h2⟩ := ev_dry j (x + 1) (F - 1) true (by omega) (by omega) (by omega)
      exact ⟨σ2, Ev.lmore (h := hR) (b := fBody) (first := false) (.inr (by show 1 ≤ F; omega)) hb rfl hc.2 (by rw [hc.1]; exact h2)⟩
theorem ev_short (j x : Nat) (F : Int) (f : Bool) (hj : j + 1 ≤ 1000) (hx : x + j + 1 ≤ 1000) (hF : F < ((j + 1 : Nat) : Int)) : ∃ σ2, Ev 0 (.loop hR fBody true) ⟨st ((j + 1 + 1 : Nat) : Int) (x : Int) f, F, [], false⟩ 111 σ2 := by
  have hb := ev_body (j + 1) x F f (by omega) (by omega)
  have hc := cond_R ((j + 1 : Nat) : Int) ((x + 1 : Nat) : Int) F f
  have hd : decide ((0 : Int) < ((j + 1 : Nat) : Int)) = true := decide_eq_true (by omega)
  rw [hd] at hc
  obtain ⟨σ2, h2⟩ := ev_dry j (x + 1) F true (by omega) (by omega) hF
  exact ⟨σ2, Ev.lmore (h := hR) (b := fBody) (first := true) (.inl rfl) hb rfl hc.2 (by rw [hc.1]; exact h2)⟩
/-- What the two runs come to. -/
theorem rounds1 {p : Nat} {r : St × List Int × Int} (hp : p ≤ 500) (h : RunM fR false (st ((p + 1 : Nat) : Int) 0 false) (p : Int) 0 r) : r = (st 0 ((p + 1 : Nat) : Int) false, [], 0) := by
  obtain ⟨F2, h2⟩ := ev_R1 p 0 (p : Int) false true (by omega) (by omega) (.inl rfl) (Int.le_refl _)
  have h3 : Ev 0 (.list fR) ⟨st ((p + 1 : Nat) : Int) 0 false, (p : Int), [], false⟩ 0 ⟨st 0 ((0 + p + 1 : Nat) : Int) false, F2, [], false⟩ := .next (.loop rfl h2) rfl .nil
  have hm : rightM 1 1 = true := by decide +kernel
  have h4 := runM_of (s := st ((p + 1 : Nat) : Int) 0 false) (by decide +kernel) hm h3 h
  rw [h4, Nat.zero_add]
  rfl
theorem rounds2 {p : Nat} {r : St × List Int × Int} (hp : p ≤ 500) (h : RunM fR false (st ((p + 1 + 1 : Nat) : Int) 0 false) (p : Int) 0 r) : r = (zS, [], 111) := by
  obtain ⟨σ2, h2⟩ := ev_short p 0 (p : Int) false (by omega) (by omega) (by omega)
  have h3 : Ev 0 (.list fR) ⟨st ((p + 1 + 1 : Nat) : Int) 0 false, (p : Int), [], false⟩ 111 σ2 := .stop (.loop rfl h2) (.inl (by decide))
  have hm : rightM 1 1 = true := by decide +kernel
  exact runM_of (s := st ((p + 1 + 1 : Nat) : Int) 0 false) (by decide +kernel) hm h3 h
end Go.Proofs.Ytebmgladdgmmeaa
namespace Go.Proofs.Ytebmgladdgmmeaa
open Go.RowKit Go.WideShapes
set_option linter.unusedVariables false
set_option linter.unusedSimpArgs false
set_option maxRecDepth 100000 in
theorem step37 (o d : Int) (w : World) : Calls Try.prog 37 #[.int .u8 o, .int .i64 d] w (fun e w' => e = .returned (.agg #[.int .u8 1, .int .u8 o, .int .i64 d, .int .i64 0, .int .i64 0, .bool false, .int .u8 0, .int .i64 0, .int .i64 0, .int .i64 0, .slice none 0 0, .slice none 0 0, .int .i64 0]) ∧ Below w.heap.size w w') := by
  go_enter Try.func37, Try.ntmps37
  go_wp2_with fail
  exact bodyPost_ret (v := .agg #[.int .u8 1, .int .u8 o, .int .i64 d, .int .i64 0, .int .i64 0, .bool false, .int .u8 0, .int .i64 0, .int .i64 0, .int .i64 0, .slice none 0 0, .slice none 0 0, .int .i64 0]) (by simp [results, Try.results37, go_sem]) rfl ⟨rfl, (Below.refl _ _).alloc (Nat.le_refl _) _⟩
theorem hB1_ok : hB1.ok := ok_of _ (by decide) (by decide) (by decide) (by decide)
theorem hA1_ok : hA1.ok := ok_of _ (by decide) (by decide) (by decide) (by decide)
theorem hR_ok : hR.ok := ok_of _ (by decide) (by decide) (by decide) (by decide)
abbrev cBd : Array Value := #[.int .u8 1, .int .u8 3, .int .i64 1, .int .i64 0, .int .i64 0, .bool false, .int .u8 0, .int .i64 0, .int .i64 0, .int .i64 0, .slice none 0 0, .slice none 0 0, .int .i64 0, .int .u8 1, .int .u8 4, .int .i64 0, .int .i64 0, .int .i64 0, .bool false, .int .u8 0, .int .i64 0, .int .i64 0, .int .i64 0, .slice none 0 0, .slice none 0 0, .int .i64 0]
abbrev cRd (g : Nat) : Array Value := #[.int .u8 3, .int .u8 0, .int .i64 0, .int .i64 0, .int .i64 0, .bool false, .int .u8 21, .int .i64 0, .int .i64 7, .int .i64 0, .slice (some ⟨g, 0, none⟩) 2 2, .slice none 0 0, .int .i64 0]
theorem rows_R (V : World) : ∃ W, ((V.alloc (.cells cBd 35)).alloc (.cells (cRd V.heap.size) 35)) = W ∧ Below V.heap.size V W ∧ RdS W.heap.size W (some ⟨V.heap.size + 1, 0, none⟩) fR := by
  have b1 := (Blk.new V 35 cBd).alloc (.cells (cRd V.heap.size) 35)
  have b2 := Blk.new (V.alloc (.cells cBd 35)) 35 (cRd V.heap.size)
  have hb : Below V.heap.size V ((V.alloc (.cells cBd 35)).alloc (.cells (cRd V.heap.size) 35)) := ((Below.refl _ _).alloc (Nat.le_refl _) _).alloc (by simp) _
  rw [World.size_alloc] at b2
  obtain ⟨W, hW⟩ : ∃ W, ((V.alloc (.cells cBd 35)).alloc (.cells (cRd V.heap.size) 35)) = W := ⟨_, rfl⟩
  rw [hW] at b1 b2 hb
  have i2 : RdF W.heap.size W (.cons hA1 .nil .nil .nil) V.heap.size 13 := ⟨hA1_ok, b1.lt, ⟨none, 0, none, 0, cells_right (l := hB1.cells (.slice none 0 0) (.slice none 0 0)) b1 rfl 13 rfl, ll0, ll0, (fun h => absurd h (by decide)), (fun h => absurd h (by decide))⟩, trivial⟩
  have i1 : RdF W.heap.size W fBody V.heap.size 0 := ⟨hB1_ok, b1.lt, ⟨none, 0, none, 0, cells_left (r := hA1.cells (.slice none 0 0) (.slice none 0 0)) b1 rfl, ll0, ll0, (fun h => absurd h (by decide)), (fun h => absurd h (by decide))⟩, i2⟩
  exact ⟨W, hW, hb, fun _ => ⟨_, 0, rfl, hR_ok, b2.lt, ⟨some ⟨V.heap.size, 0, none⟩, 2, none, 0, cells_left (r := []) b2 rfl, ⟨Nat.le_refl _, by unfold maxLen; decide, by unfold lenMost; decide⟩, ll0, (fun _ => ⟨_, 0, rfl, i1⟩), (fun h => absurd h (by decide))⟩, trivial⟩⟩
set_option maxRecDepth 100000 in
set_option maxHeartbeats 16000000 in
theorem rounds_go (x : Int) (P N : Nat) (F2 : Int) (bq : Bool) (s3 : St) (z : Int) (w : World) (hpk : ∀ W, Calls Try.prog 31 #[.int .i64 x, .int .i64 200] W (Same (.int .i64 (P : Int)) W)) (hP : P ≤ 200) (hNP : N = P + 1) (hF2 : (N : Int) - 2 = F2) (hbq : ((N : Int) == 1) = bq) (hz : bq = true ∨ z = 111) (hs3 : s3.m.ok) (hf2 : F2 ≤ 1000)
    (hr1 : ∀ r, RunM fR false (st (N : Int) 0 false) (P : Int) 0 r → r = (st 0 (N : Int) false, [], 0)) (hr2 : ∀ r, RunM fR false (st (N : Int) 0 false) F2 0 r → r = (s3, [], z)) :
    Calls Try.prog 8 #[.int .i64 x] w (Quiet (.bool true) w) := by
  have hz0 := (zero_of_info zero50).1
  have HNEW := Lib.hid (new_st w)
  have HPK := Lib.hid hpk
  have HR1 := Lib.hid hr1
  have HR2 := Lib.hid hr2
  have HZ := Lib.hid hz
  have HBQ := Lib.hid hbq
  have HS3 := Lib.hid hs3
  have HF2 := Lib.hid hf2
  have hN1 : (1 : Int) + (P : Int) = (N : Int) := by omega
  have hN2 : (N : Int) - 1 = (P : Int) := by omega
  have hN3 : (N : Int) ≤ 300 := by omega
  have hN4 : (0 : Int) ≤ (N : Int) := by omega
  have hP2 : (P : Int) ≤ 300 := by omega
  have w32 : (N : Int) % 4294967296 = (N : Int) := by omega
  have HNU : Hid (U32 (N : Int)) := Lib.hid ⟨by omega, by omega⟩
  have HPL := Lib.hid (show (P : Int) ≤ 1000 by omega)
  obtain ⟨zs, hzs⟩ : ∃ x, zCells = x := ⟨_, rfl⟩
  simp only [hzs] at hz0
  have HZN : Hid (zs.size = 263) := Lib.hid (by rw [← hzs]; exact Mc.size zM_ok _ _)
  have hF2' := hF2
  clear hzs hpk hr1 hr2 hz hbq hs3 hNP hP hf2
  go_enter Try.func8, Try.ntmps8
  go_wp2_with fail
  refine (HPK.out _).mono ?_
  rintro e w0 ⟨rfl, rfl⟩
  go_wp2_with fail
  refine HNEW.out.mono ?_
  rintro e w1 ⟨⟨v1, v2, rfl, o1a, o1b⟩, l1⟩
  have z1 := Mc.size (m := (st 0 0 false).m) st0_ok.m v1 v2
  have one1 := Mc.one (m := (st 0 0 false).m) (vh := v1) (vm := v2) o1a.one o1b.one
  have bx1 := MBox.new (m := (st 0 0 false).m) st0_ok.m w1 v1 v2
  have ob1 : Below w1.heap.size w1 (w1.alloc (.cells ((st 0 0 false).m.cells v1 v2) 50)) := (Below.refl _ _).alloc (Nat.le_refl _) _
  have r1a := o1a.below ob1
  have r1b := o1b.below ob1
  obtain ⟨c1, hc1⟩ : ∃ x, (st 0 0 false).m.cells v1 v2 = x := ⟨_, rfl⟩
  rw [hc1] at z1 one1 bx1 ob1 r1a r1b ⊢
  obtain ⟨V1, hV1⟩ : ∃ x, w1.alloc (.cells c1 50) = x := ⟨_, rfl⟩
  rw [hV1] at bx1 ob1 r1a r1b
  have rg1 : ∀ W, Below V1.heap.size V1 W → W.rangeAt w1.heap.size 0 c1.toList := fun W hW j u hu => by
    rw [Nat.zero_add, (bx1.below hW).blk.cell j, hc1]
    simpa using hu
  have SI1 : Hid ((Try.prog.info? 50).map (·.size) = some c1.size) := Lib.hid (by rw [z1]; exact size50)
  have SL1 : Hid ((Try.prog.info? 50).map (·.size) = some c1.toList.length) := Lib.hid (by rw [Array.length_toList, z1]; exact size50)
  have SS1 : Hid (zs.size = c1.size) := Lib.hid (by rw [z1]; exact HZN.out)
  have ONE1 := Lib.hid one1
  have BX1 := Lib.hid bx1
  have RA1 := Lib.hid r1a
  have RB1 := Lib.hid r1b
  have RG1 := Lib.hid rg1
  have HC1 := Lib.hid hc1
  have HV1 := Lib.hid hV1
  clear z1 one1 bx1 r1a r1b rg1 hc1 hV1 o1a o1b
  have LW1 := Lib.hid (l1.trans (ob1.mono l1.size))
  have hset := BX1.out.blk.set 0 (.int .u32 (N : Int))
  rw [(Mc.set_reg v1 v2 (N : Int)).1] at hset
  have hfr : Frm (fun k => k = w1.heap.size) V1 (V1.setCell ⟨w1.heap.size, 0, none⟩ (.int .u32 (N : Int))) := (Frm.refl (fun k => k = w1.heap.size) V1).setCell (p := ⟨w1.heap.size, 0, none⟩) (fun _ => rfl) _
  have ra2 := RA1.out.frmX hfr (fun k hk => RA1.out.apartX BX1.out.blk (by decide) k hk)
  have rb2 := RB1.out.frmX hfr (fun k hk => RB1.out.apartX BX1.out.blk (by decide) k hk)
  have lw2 := LW1.out.trans (hfr.to_below LW1.out.size (fun k hk => by have := l1.size; omega))
  have z2 := Mc.size (m := (st (N : Int) 0 false).m) (st_ok false HNU.out u32_0).m v1 v2
  have f0 := BX1.out.fz 0
  have g0 := BX1.out.c0
  obtain ⟨V2, hV2⟩ : ∃ z, V1.setCell ⟨w1.heap.size, 0, none⟩ (.int .u32 (N : Int)) = z := ⟨_, rfl⟩
  rw [hV2] at hset ra2 rb2 lw2
  obtain ⟨c2, hc2⟩ : ∃ z, (st (N : Int) 0 false).m.cells v1 v2 = z := ⟨_, rfl⟩
  have hset2 : Blk V2 w1.heap.size 50 c2 := hc2 ▸ hset
  rw [hc2] at z2
  have rg2 : ∀ W, Below V2.heap.size V2 W → W.rangeAt w1.heap.size 0 c2.toList := fun W hW j u hu => by
    rw [Nat.zero_add, (hset2.below hW).cell j]
    simpa using hu
  have SL2 : Hid ((Try.prog.info? 50).map (·.size) = some c2.toList.length) := Lib.hid (by rw [Array.length_toList, z2]; exact size50)
  have RG2 := Lib.hid rg2
  have RA2 := Lib.hid ra2
  have RB2 := Lib.hid rb2
  have LW2 := Lib.hid lw2
  have HC2 := Lib.hid hc2
  clear l1 ob1 hset hset2 hfr ra2 rb2 lw2 z2 rg2 hc2
  go_wp2_with (first
    | (refine wpList_store_row rfl 50 (.tmp 3) (.tmp 18) rfl w1.heap.size c1 rfl rfl 50 _ (heap_alloc_new _ _) SI1.out SS1.out ONE1.out ?_; rw [World.setRow_alloc_new, HV1.out]; simp only [Act.put, List.setIfInBounds_toArray, List.set_cons_zero, List.set_cons_succ]))
  try rw [hV2]
  go_wp2_with fail
  refine (step37 3 1 _).mono ?_
  rintro e w2 ⟨rfl, hb2⟩
  have D2 := Lib.hid hb2
  clear hb2
  go_wp2_with fail
  refine (step37 4 0 _).mono ?_
  rintro e w3 ⟨rfl, hb3⟩
  have D3 := Lib.hid (ch0 D2.out hb3)
  clear hb3 hV2
  obtain ⟨W6, hW6, hb6, rd⟩ := rows_R w3
  have D6 := Lib.hid (ch0 D3.out hb6)
  have RD := Lib.hid rd
  have LW6 := Lib.hid (ch0 LW2.out D6.out)
  clear hb6 rd
  go_wp2_with (first
    | (refine wpList_load_midA rfl 50 (.tmp 3) rfl w1.heap.size 0 rfl c2 _ (RG2.out _ D6.out) Try.underlying50 rfl SL2.out ?_; simp only [Act.put, List.setIfInBounds_toArray, List.set_cons_zero, List.set_cons_succ]))
  try rw [hW6]
  clear hW6
  refine (runLitM fR (some ⟨w3.heap.size + 1, 0, none⟩) _ false (st (N : Int) 0 false) (st 0 (N : Int) false, [], 0) (st_ok false HNU.out u32_0).m (st_ok false HNU.out u32_0).hw (st_ok false HNU.out u32_0).mo _ v1 v2 (P : Int) 0 rfl (by decide) (by decide +kernel) (by show 1 ≤ 5000; omega) (by show 1 ≤ 5000; omega) HPL.out (by omega) V2 RA2.out RB2.out HR1.out c2 HC2.out W6 W6 RD.out D6.out (Below.refl _ _)).mono ?_
  rintro e w7 ⟨⟨y7a, y7b, y7c, rfl, o7a, o7b, _⟩, l7⟩
  have z7 := Mc.size (m := (st 0 (N : Int) false).m) (st_ok false u32_0 HNU.out).m y7a y7b
  have one7 := Mc.one (m := (st 0 (N : Int) false).m) (vh := y7a) (vm := y7b) o7a.one o7b.one
  have bx7 := MBox.new (m := (st 0 (N : Int) false).m) (st_ok false u32_0 HNU.out).m w7 y7a y7b
  have ob7 : Below w7.heap.size w7 (w7.alloc (.cells ((st 0 (N : Int) false).m.cells y7a y7b) 50)) := (Below.refl _ _).alloc (Nat.le_refl _) _
  have r7a := o7a.below ob7
  have r7b := o7b.below ob7
  obtain ⟨c7, hc7⟩ : ∃ x, (st 0 (N : Int) false).m.cells y7a y7b = x := ⟨_, rfl⟩
  rw [hc7] at z7 one7 bx7 ob7 r7a r7b ⊢
  obtain ⟨V7, hV7⟩ : ∃ x, w7.alloc (.cells c7 50) = x := ⟨_, rfl⟩
  rw [hV7] at bx7 ob7 r7a r7b
  have rg7 : ∀ W, Below V7.heap.size V7 W → W.rangeAt w7.heap.size 0 c7.toList := fun W hW j u hu => by
    rw [Nat.zero_add, (bx7.below hW).blk.cell j, hc7]
    simpa using hu
  have SI7 : Hid ((Try.prog.info? 50).map (·.size) = some c7.size) := Lib.hid (by rw [z7]; exact size50)
  have SL7 : Hid ((Try.prog.info? 50).map (·.size) = some c7.toList.length) := Lib.hid (by rw [Array.length_toList, z7]; exact size50)
  have SS7 : Hid (zs.size = c7.size) := Lib.hid (by rw [z7]; exact HZN.out)
  have ONE7 := Lib.hid one7
  have BX7 := Lib.hid bx7
  have RA7 := Lib.hid r7a
  have RB7 := Lib.hid r7b
  have RG7 := Lib.hid rg7
  have HC7 := Lib.hid hc7
  have HV7 := Lib.hid hV7
  clear z7 one7 bx7 r7a r7b rg7 hc7 hV7 o7a o7b
  have P7 := Lib.hid (ch0 l7 ob7)
  have D67 := P7
  have D27 := Lib.hid (ch0 D6.out P7.out)
  have LW7 := Lib.hid (ch0 LW6.out P7.out)
  clear l7 ob7
  go_wp2_with (first
    | (refine wpList_store_row rfl 50 (.tmp 7) (.tmp 40) rfl w7.heap.size c7 rfl rfl 50 _ (heap_alloc_new _ _) SI7.out SS7.out ONE7.out ?_; rw [World.setRow_alloc_new, HV7.out]; simp only [Act.put, List.setIfInBounds_toArray, List.set_cons_zero, List.set_cons_succ])
    | (refine wpList_load_midA rfl 50 (.tmp 3) rfl w1.heap.size 0 rfl c2 _ (RG2.out _ D27.out) Try.underlying50 rfl SL2.out ?_; simp only [Act.put, List.setIfInBounds_toArray, List.set_cons_zero, List.set_cons_succ]))
  refine (runLitM fR (some ⟨w3.heap.size + 1, 0, none⟩) _ false (st (N : Int) 0 false) (s3, [], z) (st_ok false HNU.out u32_0).m (st_ok false HNU.out u32_0).hw (st_ok false HNU.out u32_0).mo _ v1 v2 F2 0 rfl (by decide) (by decide +kernel) (by show 1 ≤ 5000; omega) (by show 1 ≤ 5000; omega) HF2.out (by omega) V2 RA2.out RB2.out HR2.out c2 HC2.out W6 V7 RD.out D27.out D67.out).mono ?_
  rintro e w9 ⟨⟨y9a, y9b, y9c, rfl, o9a, o9b, _⟩, l9⟩
  have z9 := Mc.size (m := s3.m) HS3.out y9a y9b
  have one9 := Mc.one (m := s3.m) (vh := y9a) (vm := y9b) o9a.one o9b.one
  have bx9 := MBox.new (m := s3.m) HS3.out w9 y9a y9b
  have ob9 : Below w9.heap.size w9 (w9.alloc (.cells (s3.m.cells y9a y9b) 50)) := (Below.refl _ _).alloc (Nat.le_refl _) _
  have r9a := o9a.below ob9
  have r9b := o9b.below ob9
  obtain ⟨c9, hc9⟩ : ∃ x, s3.m.cells y9a y9b = x := ⟨_, rfl⟩
  rw [hc9] at z9 one9 bx9 ob9 r9a r9b ⊢
  obtain ⟨V9, hV9⟩ : ∃ x, w9.alloc (.cells c9 50) = x := ⟨_, rfl⟩
  rw [hV9] at bx9 ob9 r9a r9b
  have rg9 : ∀ W, Below V9.heap.size V9 W → W.rangeAt w9.heap.size 0 c9.toList := fun W hW j u hu => by
    rw [Nat.zero_add, (bx9.below hW).blk.cell j, hc9]
    simpa using hu
  have SI9 : Hid ((Try.prog.info? 50).map (·.size) = some c9.size) := Lib.hid (by rw [z9]; exact size50)
  have SL9 : Hid ((Try.prog.info? 50).map (·.size) = some c9.toList.length) := Lib.hid (by rw [Array.length_toList, z9]; exact size50)
  have SS9 : Hid (zs.size = c9.size) := Lib.hid (by rw [z9]; exact HZN.out)
  have ONE9 := Lib.hid one9
  have BX9 := Lib.hid bx9
  have RA9 := Lib.hid r9a
  have RB9 := Lib.hid r9b
  have RG9 := Lib.hid rg9
  have HC9 := Lib.hid hc9
  have HV9 := Lib.hid hV9
  clear z9 one9 bx9 r9a r9b rg9 hc9 hV9 o9a o9b
  have P9 := Lib.hid (ch0 l9 ob9)
  have D79 := P9
  have LW9 := Lib.hid (ch0 LW7.out P9.out)
  clear l9 ob9
  have q0 : V9.cell? ⟨w7.heap.size, 0, none⟩ = some (.int .u32 0) := (BX7.out.below D79.out).c0
  have q1 : V9.cell? ⟨w7.heap.size, 1, none⟩ = some (.int .u32 (N : Int)) := (BX7.out.below D79.out).c1
  have q4 : V9.cell? ⟨w7.heap.size, 4, none⟩ = some (.bool false) := (BX7.out.below D79.out).c4
  have hbq := HBQ.out
  cases bq
  · obtain rfl : z = 111 := by rcases HZ.out with h | h; cases h; exact h
    go_wp2_with (first
        | (refine wpList_store_row rfl 50 (.tmp 10) (.tmp 49) rfl w9.heap.size c9 rfl rfl 50 _ (heap_alloc_new _ _) SI9.out SS9.out ONE9.out ?_; rw [World.setRow_alloc_new, HV9.out]; simp only [Act.put, List.setIfInBounds_toArray, List.set_cons_zero, List.set_cons_succ]))
    refine (awake35 _).mono ?_
    rintro e wz ⟨rfl, hbz⟩
    have FIN := Lib.hid (ch0 LW9.out hbz)
    clear hbz
    go_wp2_with fail
    go_ret
    exact ⟨rfl, FIN.out⟩
  · go_wp2_with (first
        | (refine wpList_store_row rfl 50 (.tmp 10) (.tmp 49) rfl w9.heap.size c9 rfl rfl 50 _ (heap_alloc_new _ _) SI9.out SS9.out ONE9.out ?_; rw [World.setRow_alloc_new, HV9.out]; simp only [Act.put, List.setIfInBounds_toArray, List.set_cons_zero, List.set_cons_succ]))
    refine (awake35 _).mono ?_
    rintro e wz ⟨rfl, hbz⟩
    have FIN := Lib.hid (ch0 LW9.out hbz)
    clear hbz
    go_wp2_with fail
    go_ret
    exact ⟨rfl, FIN.out⟩
theorem rounds8 (x : Int) (h0 : -9223372036854775808 ≤ x) (h1 : x ≤ 9223372036854775807) (w : World) : Calls Try.prog 8 #[.int .i64 x] w (Quiet (.bool true) w) := by
  have hpk := fun W => pick_any x 200 200 W rfl (by omega) (by omega) h0 h1
  have hl := pickI_lt x 200 (by omega)
  generalize pickI x 200 = p at hpk hl
  rcases p with _ | p
  · refine rounds_go x 0 1 (-1) true (st 0 1 false) 0 w hpk (by omega) rfl rfl rfl (.inl rfl) (st_ok false u32_0 ⟨by omega, by omega⟩).m (by omega) (fun r h => rounds1 (p := 0) (by omega) h) (fun r h => ?_)
    have hm : rightM 1 1 = true := by decide +kernel
    exact runM_of (s := st 1 0 false) (c := 0) (σ' := ⟨st 0 1 false, -1, [], false⟩) (by decide +kernel) hm (ev_sound 30 _ _ _ _ (by kernel_rfl)) h
  · exact rounds_go x (p + 1) (p + 1 + 1) (p : Int) false zS 111 w hpk (by omega) rfl (by omega) (by rw [beq_eq_false_iff_ne]; omega) (.inr rfl) zM_ok (by omega) (fun r h => rounds1 (p := p + 1) (by omega) h) (fun r h => rounds2 (by omega) h)
end Go.Proofs.Ytebmgladdgmmeaa
namespace Go.Proofs.Ytebmgladdgmmeaa
open Go.RowKit Go.WideShapes
theorem meaningRounds_law (n : Int) (w : World) (h : (Lit.int .i64 n).wf = true) : Calls Try.prog 8 #[.int .i64 n] w fun e w' => e = .returned (.bool true) ∧ Below w.heap.size w w' :=
  (rounds8 n (wf_i64 h).1 (wf_i64 h).2 w).mono fun _ _ h => ⟨h.1, h.2⟩
end Go.Proofs.Ytebmgladdgmmeaa
