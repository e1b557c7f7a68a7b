/- do, of vm: walks. Condition: a right machine, a right instruction. · do, of vm: walks. Condition: a right machine, a right instruction. · do, for every right instruction: plain. -/
import Derived.Test.YtebmgladdgmmeaaVdGPc
import Derived.Test.YtebmgladdgmmeaaVdSt
namespace Go.Proofs.Ytebmgladdgmmeaa
open Go.RowKit Go.WideShapes
set_option linter.unusedVariables false
set_option linter.unusedSimpArgs false
theorem Mc.set_r {m : Mc} (vh vm : Value) (k : Nat) (x : Int) (hk : k < m.r.length) : (m.cells vh vm).setIfInBounds (5 + k) (.int .u32 x) = ({ m with r := m.r.set k x } : Mc).cells vh vm := by
  simp only [Mc.cells, Mc.list, List.setIfInBounds_toArray]
  rw [List.set_append_right _ _ (by simp), List.set_append_left _ _ (by simp; omega)]
  simp [List.map_set]
/-- What an instruction does. -/
def doV (o d n v : Int) (s : St) : St :=
  if 8 ≤ o ∧ o ≤ 18 then { s with m := { s.m with a := calcV o s.m.a (operV n v s) } } else
  if 19 ≤ o ∧ o ≤ 21 then { s with m := { s.m with f := holdV o (operV n v s) s.m.a } } else
  if o = 1 then setP d (operV n v s) s else if o = 2 then setP d (v % 4294967296) s else if o = 3 then setP d ((getP d s + 1) % 4294967296) s else
  if o = 4 then setP d ((getP d s - 1) % 4294967296) s else if o = 5 then setP d (4294967295 - getP d s) s else if o = 6 then setP d 0 s else
  if o = 7 then { setP d s.m.a s with m := { (setP d s.m.a s).m with a := getP d s } } else
  if o = 22 then setP d (s.m.r.getD v.toNat 0) s else if o = 23 then { s with m := { s.m with r := s.m.r.set v.toNat s.m.a } } else
  if o = 24 then { s with m := { s.m with a := (s.m.a + getP 4 s + 512) * 773 % 4294967296 } } else
  if o = 25 then setP 6 ((getP 6 s + s.m.a + 512) * 773 % 4294967296) s else s
theorem not_u32 {y : Int} (hy : U32 y) : bits .xor .u32 IntKind.u32.max y = 4294967295 - y := by
  have e : BitVec.ofInt 32 IntKind.u32.max ^^^ BitVec.ofInt 32 y = ~~~ BitVec.ofInt 32 y := by
    have h : BitVec.ofInt 32 IntKind.u32.max = BitVec.allOnes 32 := by decide
    rw [h, BitVec.allOnes_xor]
  show IntKind.u32.wrap ((BitVec.ofInt 32 IntKind.u32.max ^^^ BitVec.ofInt 32 y).toNat : Int) = _
  rw [e, BitVec.toNat_not, BitVec.toNat_ofInt, IntKind.wrap_u32]
  obtain ⟨h0, h1⟩ := hy
  omega
def DoPost (g gh gm : Nat) (s' : St) (ch cm : Nat) (w0 : World) (e : Ending) (w : World) : Prop := e = .returned (.tuple #[]) ∧ Vm w g gh gm s' ch cm ∧ Frm (Sg g gh gm) w0 w
theorem frm3 {g gh gm : Nat} {w w1 w2 : World} (hb : Below w.heap.size w w1) (hf : Frm (Sg g gh gm) w1 w2) : Frm (Sg g gh gm) w w2 := (Frm.of_below hb).trans hf (fun _ _ h => h)
section
variable {w : World} {g gh gm ch cm : Nat} {s : St}
set_option maxRecDepth 100000 in
set_option maxHeartbeats 4000000 in
theorem do54_1 (d n v : Int) (hd : 0 ≤ d ∧ d ≤ 6) (hn : 0 ≤ n ∧ n ≤ 7) (hv : Vm w g gh gm s ch cm) : Calls Try.prog 54 #[.agg #[.int .u8 1, .int .i64 d, .int .i64 n, .int .i64 v], .pointer (some ⟨g, 0, none⟩)] w (DoPost g gh gm (doV 1 d n v s) ch cm w) := by
  have HV := Lib.hid (hv.below ((Below.refl _ _).alloc (Nat.le_refl _) (.cells #[.int .u8 1, .int .i64 d, .int .i64 n, .int .i64 v] 31)))
  have HBX := Lib.hid (Blk.new w 31 #[.int .u8 1, .int .i64 d, .int .i64 n, .int .i64 v])
  have hlt := hv.box.lt
  have hp := fun W hW => place_any d hd W (HV.out.below hW)
  have HP := Lib.hid hp
  have hok := hv.ok
  have HOK := Lib.hid hok
  clear hv hp hok
  go_enter Try.func54, Try.ntmps54
  go_wp2_with fail
  refine (HP.out _ (Below.refl _ _)).mono ?_
  rintro e w1 ⟨⟨fg, fp, q, rfl, hpl⟩, hl⟩
  have eg := hpl.eg
  have ep := hpl.ep
  have HG := Lib.hid hpl.get
  have HPU := Lib.hid hpl.put
  have HV1 := Lib.hid (HV.out.below hl)
  have F1 := Lib.hid (((Below.refl w.heap.size w).alloc (Nat.le_refl _) (.cells #[.int .u8 1, .int .i64 d, .int .i64 n, .int .i64 v] 31)).trans (hl.mono (by simp)))
  have b0 := (HBX.out.below hl).cell 0
  have b1 := (HBX.out.below hl).cell 1
  have b2 := (HBX.out.below hl).cell 2
  have b3 := (HBX.out.below hl).cell 3
  simp at b0 b1 b2 b3
  have ho := operand75 1 d n v hn (w := w1) HV1.out
  have HO := Lib.hid ho
  clear hpl hl ho
  go_wp2_with fail
  refine HO.out.mono ?_
  rintro e w2 ⟨rfl, hl2⟩
  have F2 := Lib.hid (F1.out.trans (hl2.mono F1.out.size))
  have L2 := Lib.hid hl2
  clear hl2
  go_wp2_with fail
  refine (HPU.out _ _ (operV_u32 HOK.out n v) L2.out).mono ?_
  rintro e w3 ⟨rfl, hv3, hf3⟩
  have HV3 := Lib.hid hv3
  have HF3 := Lib.hid hf3
  clear hv3 hf3
  go_wp2_with fail
  exact bodyPost_end (v := .tuple #[]) (by simp [results, Try.results54, go_sem]) rfl ⟨rfl, HV3.out, frm3 F2.out HF3.out⟩
set_option maxRecDepth 100000 in
set_option maxHeartbeats 4000000 in
theorem do54_2 (d n v : Int) (hd : 0 ≤ d ∧ d ≤ 6) (hv : Vm w g gh gm s ch cm) : Calls Try.prog 54 #[.agg #[.int .u8 2, .int .i64 d, .int .i64 n, .int .i64 v], .pointer (some ⟨g, 0, none⟩)] w (DoPost g gh gm (doV 2 d n v s) ch cm w) := by
  have HV := Lib.hid (hv.below ((Below.refl _ _).alloc (Nat.le_refl _) (.cells #[.int .u8 2, .int .i64 d, .int .i64 n, .int .i64 v] 31)))
  have HBX := Lib.hid (Blk.new w 31 #[.int .u8 2, .int .i64 d, .int .i64 n, .int .i64 v])
  have hlt := hv.box.lt
  have hp := fun W hW => place_any d hd W (HV.out.below hW)
  have HP := Lib.hid hp
  have hok := hv.ok
  have HOK := Lib.hid hok
  clear hv hp hok
  go_enter Try.func54, Try.ntmps54
  go_wp2_with fail
  refine (HP.out _ (Below.refl _ _)).mono ?_
  rintro e w1 ⟨⟨fg, fp, q, rfl, hpl⟩, hl⟩
  have eg := hpl.eg
  have ep := hpl.ep
  have HG := Lib.hid hpl.get
  have HPU := Lib.hid hpl.put
  have HV1 := Lib.hid (HV.out.below hl)
  have F1 := Lib.hid (((Below.refl w.heap.size w).alloc (Nat.le_refl _) (.cells #[.int .u8 2, .int .i64 d, .int .i64 n, .int .i64 v] 31)).trans (hl.mono (by simp)))
  have b0 := (HBX.out.below hl).cell 0
  have b1 := (HBX.out.below hl).cell 1
  have b2 := (HBX.out.below hl).cell 2
  have b3 := (HBX.out.below hl).cell 3
  simp at b0 b1 b2 b3
  clear hpl hl
  go_wp2_with fail
  refine (HPU.out _ _ (mod_range _) (Below.refl _ _)).mono ?_
  rintro e w3 ⟨rfl, hv3, hf3⟩
  have HV3 := Lib.hid hv3
  have HF3 := Lib.hid hf3
  clear hv3 hf3
  go_wp2_with fail
  exact bodyPost_end (v := .tuple #[]) (by simp [results, Try.results54, go_sem]) rfl ⟨rfl, HV3.out, frm3 F1.out HF3.out⟩
set_option maxRecDepth 100000 in
set_option maxHeartbeats 4000000 in
theorem do54_3 (d n v : Int) (hd : 0 ≤ d ∧ d ≤ 6) (hv : Vm w g gh gm s ch cm) : Calls Try.prog 54 #[.agg #[.int .u8 3, .int .i64 d, .int .i64 n, .int .i64 v], .pointer (some ⟨g, 0, none⟩)] w (DoPost g gh gm (doV 3 d n v s) ch cm w) := by
  have HV := Lib.hid (hv.below ((Below.refl _ _).alloc (Nat.le_refl _) (.cells #[.int .u8 3, .int .i64 d, .int .i64 n, .int .i64 v] 31)))
  have HBX := Lib.hid (Blk.new w 31 #[.int .u8 3, .int .i64 d, .int .i64 n, .int .i64 v])
  have hlt := hv.box.lt
  have hp := fun W hW => place_any d hd W (HV.out.below hW)
  have HP := Lib.hid hp
  have hok := hv.ok
  have HOK := Lib.hid hok
  clear hv hp hok
  go_enter Try.func54, Try.ntmps54
  go_wp2_with fail
  refine (HP.out _ (Below.refl _ _)).mono ?_
  rintro e w1 ⟨⟨fg, fp, q, rfl, hpl⟩, hl⟩
  have eg := hpl.eg
  have ep := hpl.ep
  have HG := Lib.hid hpl.get
  have HPU := Lib.hid hpl.put
  have HV1 := Lib.hid (HV.out.below hl)
  have F1 := Lib.hid (((Below.refl w.heap.size w).alloc (Nat.le_refl _) (.cells #[.int .u8 3, .int .i64 d, .int .i64 n, .int .i64 v] 31)).trans (hl.mono (by simp)))
  have b0 := (HBX.out.below hl).cell 0
  have b1 := (HBX.out.below hl).cell 1
  have b2 := (HBX.out.below hl).cell 2
  have b3 := (HBX.out.below hl).cell 3
  simp at b0 b1 b2 b3
  clear hpl hl
  go_wp2_with fail
  refine (HG.out _ (Below.refl _ _)).mono ?_
  rintro e w2 ⟨rfl, rfl⟩
  go_wp2_with fail
  refine (HPU.out ((getP d s + 1) % 4294967296) _ (mod_range _) (Below.refl _ _)).mono ?_
  rintro e w3 ⟨rfl, hv3, hf3⟩
  have HV3 := Lib.hid hv3
  have HF3 := Lib.hid hf3
  clear hv3 hf3
  go_wp2_with fail
  exact bodyPost_end (v := .tuple #[]) (by simp [results, Try.results54, go_sem]) rfl ⟨rfl, HV3.out, frm3 F1.out HF3.out⟩
set_option maxRecDepth 100000 in
set_option maxHeartbeats 4000000 in
theorem do54_4 (d n v : Int) (hd : 0 ≤ d ∧ d ≤ 6) (hv : Vm w g gh gm s ch cm) : Calls Try.prog 54 #[.agg #[.int .u8 4, .int .i64 d, .int .i64 n, .int .i64 v], .pointer (some ⟨g, 0, none⟩)] w (DoPost g gh gm (doV 4 d n v s) ch cm w) := by
  have HV := Lib.hid (hv.below ((Below.refl _ _).alloc (Nat.le_refl _) (.cells #[.int .u8 4, .int .i64 d, .int .i64 n, .int .i64 v] 31)))
  have HBX := Lib.hid (Blk.new w 31 #[.int .u8 4, .int .i64 d, .int .i64 n, .int .i64 v])
  have hlt := hv.box.lt
  have hp := fun W hW => place_any d hd W (HV.out.below hW)
  have HP := Lib.hid hp
  have hok := hv.ok
  have HOK := Lib.hid hok
  clear hv hp hok
  go_enter Try.func54, Try.ntmps54
  go_wp2_with fail
  refine (HP.out _ (Below.refl _ _)).mono ?_
  rintro e w1 ⟨⟨fg, fp, q, rfl, hpl⟩, hl⟩
  have eg := hpl.eg
  have ep := hpl.ep
  have HG := Lib.hid hpl.get
  have HPU := Lib.hid hpl.put
  have HV1 := Lib.hid (HV.out.below hl)
  have F1 := Lib.hid (((Below.refl w.heap.size w).alloc (Nat.le_refl _) (.cells #[.int .u8 4, .int .i64 d, .int .i64 n, .int .i64 v] 31)).trans (hl.mono (by simp)))
  have b0 := (HBX.out.below hl).cell 0
  have b1 := (HBX.out.below hl).cell 1
  have b2 := (HBX.out.below hl).cell 2
  have b3 := (HBX.out.below hl).cell 3
  simp at b0 b1 b2 b3
  clear hpl hl
  go_wp2_with fail
  refine (HG.out _ (Below.refl _ _)).mono ?_
  rintro e w2 ⟨rfl, rfl⟩
  go_wp2_with fail
  refine (HPU.out ((getP d s - 1) % 4294967296) _ (mod_range _) (Below.refl _ _)).mono ?_
  rintro e w3 ⟨rfl, hv3, hf3⟩
  have HV3 := Lib.hid hv3
  have HF3 := Lib.hid hf3
  clear hv3 hf3
  go_wp2_with fail
  exact bodyPost_end (v := .tuple #[]) (by simp [results, Try.results54, go_sem]) rfl ⟨rfl, HV3.out, frm3 F1.out HF3.out⟩
set_option maxRecDepth 100000 in
set_option maxHeartbeats 4000000 in
theorem do54_5 (d n v : Int) (hd : 0 ≤ d ∧ d ≤ 6) (hv : Vm w g gh gm s ch cm) : Calls Try.prog 54 #[.agg #[.int .u8 5, .int .i64 d, .int .i64 n, .int .i64 v], .pointer (some ⟨g, 0, none⟩)] w (DoPost g gh gm (doV 5 d n v s) ch cm w) := by
  have HV := Lib.hid (hv.below ((Below.refl _ _).alloc (Nat.le_refl _) (.cells #[.int .u8 5, .int .i64 d, .int .i64 n, .int .i64 v] 31)))
  have HBX := Lib.hid (Blk.new w 31 #[.int .u8 5, .int .i64 d, .int .i64 n, .int .i64 v])
  have hlt := hv.box.lt
  have hp := fun W hW => place_any d hd W (HV.out.below hW)
  have HP := Lib.hid hp
  have hok := hv.ok
  have HOK := Lib.hid hok
  have wnot := not_u32 (getP_u32 hok d)
  clear hv hp hok
  go_enter Try.func54, Try.ntmps54
  go_wp2_with fail
  refine (HP.out _ (Below.refl _ _)).mono ?_
  rintro e w1 ⟨⟨fg, fp, q, rfl, hpl⟩, hl⟩
  have eg := hpl.eg
  have ep := hpl.ep
  have HG := Lib.hid hpl.get
  have HPU := Lib.hid hpl.put
  have HV1 := Lib.hid (HV.out.below hl)
  have F1 := Lib.hid (((Below.refl w.heap.size w).alloc (Nat.le_refl _) (.cells #[.int .u8 5, .int .i64 d, .int .i64 n, .int .i64 v] 31)).trans (hl.mono (by simp)))
  have b0 := (HBX.out.below hl).cell 0
  have b1 := (HBX.out.below hl).cell 1
  have b2 := (HBX.out.below hl).cell 2
  have b3 := (HBX.out.below hl).cell 3
  simp at b0 b1 b2 b3
  clear hpl hl
  go_wp2_with fail
  refine (HG.out _ (Below.refl _ _)).mono ?_
  rintro e w2 ⟨rfl, rfl⟩
  go_wp2_with fail
  refine (HPU.out (4294967295 - getP d s) _ (by have := getP_u32 HOK.out d; unfold U32 at this ⊢; omega) (Below.refl _ _)).mono ?_
  rintro e w3 ⟨rfl, hv3, hf3⟩
  have HV3 := Lib.hid hv3
  have HF3 := Lib.hid hf3
  clear hv3 hf3
  go_wp2_with fail
  exact bodyPost_end (v := .tuple #[]) (by simp [results, Try.results54, go_sem]) rfl ⟨rfl, HV3.out, frm3 F1.out HF3.out⟩
set_option maxRecDepth 100000 in
set_option maxHeartbeats 4000000 in
theorem do54_6 (d n v : Int) (hd : 0 ≤ d ∧ d ≤ 6) (hv : Vm w g gh gm s ch cm) : Calls Try.prog 54 #[.agg #[.int .u8 6, .int .i64 d, .int .i64 n, .int .i64 v], .pointer (some ⟨g, 0, none⟩)] w (DoPost g gh gm (doV 6 d n v s) ch cm w) := by
  have HV := Lib.hid (hv.below ((Below.refl _ _).alloc (Nat.le_refl _) (.cells #[.int .u8 6, .int .i64 d, .int .i64 n, .int .i64 v] 31)))
  have HBX := Lib.hid (Blk.new w 31 #[.int .u8 6, .int .i64 d, .int .i64 n, .int .i64 v])
  have hlt := hv.box.lt
  have hp := fun W hW => place_any d hd W (HV.out.below hW)
  have HP := Lib.hid hp
  have hok := hv.ok
  have HOK := Lib.hid hok
  clear hv hp hok
  go_enter Try.func54, Try.ntmps54
  go_wp2_with fail
  refine (HP.out _ (Below.refl _ _)).mono ?_
  rintro e w1 ⟨⟨fg, fp, q, rfl, hpl⟩, hl⟩
  have eg := hpl.eg
  have ep := hpl.ep
  have HG := Lib.hid hpl.get
  have HPU := Lib.hid hpl.put
  have HV1 := Lib.hid (HV.out.below hl)
  have F1 := Lib.hid (((Below.refl w.heap.size w).alloc (Nat.le_refl _) (.cells #[.int .u8 6, .int .i64 d, .int .i64 n, .int .i64 v] 31)).trans (hl.mono (by simp)))
  have b0 := (HBX.out.below hl).cell 0
  have b1 := (HBX.out.below hl).cell 1
  have b2 := (HBX.out.below hl).cell 2
  have b3 := (HBX.out.below hl).cell 3
  simp at b0 b1 b2 b3
  clear hpl hl
  go_wp2_with fail
  refine (HPU.out _ _ u32_0 (Below.refl _ _)).mono ?_
  rintro e w3 ⟨rfl, hv3, hf3⟩
  have HV3 := Lib.hid hv3
  have HF3 := Lib.hid hf3
  clear hv3 hf3
  go_wp2_with fail
  exact bodyPost_end (v := .tuple #[]) (by simp [results, Try.results54, go_sem]) rfl ⟨rfl, HV3.out, frm3 F1.out HF3.out⟩
set_option maxRecDepth 100000 in
set_option maxHeartbeats 4000000 in
theorem do54_0 (d n v : Int) (hd : 0 ≤ d ∧ d ≤ 6) (hv : Vm w g gh gm s ch cm) : Calls Try.prog 54 #[.agg #[.int .u8 0, .int .i64 d, .int .i64 n, .int .i64 v], .pointer (some ⟨g, 0, none⟩)] w (DoPost g gh gm (doV 0 d n v s) ch cm w) := by
  have HV := Lib.hid (hv.below ((Below.refl _ _).alloc (Nat.le_refl _) (.cells #[.int .u8 0, .int .i64 d, .int .i64 n, .int .i64 v] 31)))
  have HBX := Lib.hid (Blk.new w 31 #[.int .u8 0, .int .i64 d, .int .i64 n, .int .i64 v])
  have hlt := hv.box.lt
  have hp := fun W hW => place_any d hd W (HV.out.below hW)
  have HP := Lib.hid hp
  have hok := hv.ok
  have HOK := Lib.hid hok
  clear hv hp hok
  go_enter Try.func54, Try.ntmps54
  go_wp2_with fail
  refine (HP.out _ (Below.refl _ _)).mono ?_
  rintro e w1 ⟨⟨fg, fp, q, rfl, hpl⟩, hl⟩
  have eg := hpl.eg
  have ep := hpl.ep
  have HG := Lib.hid hpl.get
  have HPU := Lib.hid hpl.put
  have HV1 := Lib.hid (HV.out.below hl)
  have F1 := Lib.hid (((Below.refl w.heap.size w).alloc (Nat.le_refl _) (.cells #[.int .u8 0, .int .i64 d, .int .i64 n, .int .i64 v] 31)).trans (hl.mono (by simp)))
  have b0 := (HBX.out.below hl).cell 0
  have b1 := (HBX.out.below hl).cell 1
  have b2 := (HBX.out.below hl).cell 2
  have b3 := (HBX.out.below hl).cell 3
  simp at b0 b1 b2 b3
  clear hpl hl
  go_wp2_with fail
  exact bodyPost_end (v := .tuple #[]) (by simp [results, Try.results54, go_sem]) rfl ⟨rfl, HV1.out, Frm.of_below F1.out⟩
set_option maxRecDepth 100000 in
set_option maxHeartbeats 4000000 in
theorem do54_calc (o d n v : Int) (ho : 8 ≤ o ∧ o ≤ 18) (hn : 0 ≤ n ∧ n ≤ 7) (hv : Vm w g gh gm s ch cm) : Calls Try.prog 54 #[.agg #[.int .u8 o, .int .i64 d, .int .i64 n, .int .i64 v], .pointer (some ⟨g, 0, none⟩)] w (DoPost g gh gm (doV o d n v s) ch cm w) := by
  have e : doV o d n v s = { s with m := { s.m with a := calcV o s.m.a (operV n v s) } } := by unfold doV; rw [if_pos ho]
  rw [e]
  have q1 : decide ((8 : Int) ≤ o) = true := by simpa using ho.1
  have q2 : decide (o ≤ (18 : Int)) = true := by simpa using ho.2
  have HV := Lib.hid (hv.below ((Below.refl _ _).alloc (Nat.le_refl _) (.cells #[.int .u8 o, .int .i64 d, .int .i64 n, .int .i64 v] 31)))
  have HBX := Lib.hid (Blk.new w 31 #[.int .u8 o, .int .i64 d, .int .i64 n, .int .i64 v])
  have hlt := hv.box.lt
  have hop := fun W hW => operand75 o d n v hn (w := W) (HV.out.below hW)
  have HO := Lib.hid hop
  have hok := hv.ok
  have HX := Lib.hid (operV_u32 hok n v)
  have HA := Lib.hid hok.m.a
  have HK := Lib.hid ho
  have c0 := hv.box.c0
  have hok2 := hok.m
  have HOK := Lib.hid hok2
  clear hv hop hok hok2 e ho
  go_enter Try.func54, Try.ntmps54
  go_wp2_with fail
  go_region_with (first
    | (go_at_call 75; (with_reducible refine (HO.out _ (Below.refl _ _).drew).mono ?_); rintro e w1 ⟨rfl, hl⟩; have HV1 := Lib.hid (HV.out.below ((of_drew hl))); have F1 := Lib.hid (((Below.refl w.heap.size w).alloc (Nat.le_refl _) (.cells #[.int .u8 o, .int .i64 d, .int .i64 n, .int .i64 v] 31)).trans ((of_drew hl).mono (by simp))); have c1 := HV1.out.box.c0; have fz := HV1.out.box.fz 0; have b0 := (HBX.out.below (of_drew hl)).cell 0; have b1 := (HBX.out.below (of_drew hl)).cell 1; have b2 := (HBX.out.below (of_drew hl)).cell 2; have b3 := (HBX.out.below (of_drew hl)).cell 3; simp at b0 b1 b2 b3; clear hl)
    | (go_at_call 74; (with_reducible refine (calc74 o _ _ HK.out HX.out _).mono ?_); rintro e w2 ⟨rfl, rfl⟩))
  all_goals
    go_wp2_with fail
    exact bodyPost_ret (v := .tuple #[]) (by simp [results, Try.results54, go_sem]) rfl ⟨rfl, HV1.out.reg 0 _ _ ⟨calcV_u32 o HA.out HX.out, HOK.out.b, HOK.out.c, HOK.out.d, HOK.out.len, HOK.out.r⟩ (fun _ _ => (Mc.set_reg _ _ _).1), frm3 F1.out (Frm.setCell (S := Sg g gh gm) (p := ⟨g, 0, none⟩) (Frm.refl _ _) (fun _ => .inl rfl) _)⟩
set_option maxRecDepth 100000 in
set_option maxHeartbeats 4000000 in
theorem do54_hold (o d n v : Int) (ho : 19 ≤ o ∧ o ≤ 21) (hn : 0 ≤ n ∧ n ≤ 7) (hv : Vm w g gh gm s ch cm) : Calls Try.prog 54 #[.agg #[.int .u8 o, .int .i64 d, .int .i64 n, .int .i64 v], .pointer (some ⟨g, 0, none⟩)] w (DoPost g gh gm (doV o d n v s) ch cm w) := by
  have e : doV o d n v s = { s with m := { s.m with f := holdV o (operV n v s) s.m.a } } := by unfold doV; rw [if_neg (by omega), if_pos ho]
  rw [e]
  have q1 : decide ((8 : Int) ≤ o) = true := by simp; omega
  have q2 : decide (o ≤ (18 : Int)) = false := by simp; omega
  have q3 : decide ((19 : Int) ≤ o) = true := by simpa using ho.1
  have q4 : decide (o ≤ (21 : Int)) = true := by simpa using ho.2
  have HV := Lib.hid (hv.below ((Below.refl _ _).alloc (Nat.le_refl _) (.cells #[.int .u8 o, .int .i64 d, .int .i64 n, .int .i64 v] 31)))
  have HBX := Lib.hid (Blk.new w 31 #[.int .u8 o, .int .i64 d, .int .i64 n, .int .i64 v])
  have hlt := hv.box.lt
  have hop := fun W hW => holds61 o d n v (by omega) hn (w := W) (HV.out.below hW)
  have HO := Lib.hid hop
  have hok2 := hv.ok.m
  have HOK := Lib.hid hok2
  clear hv hop hok2 e ho
  go_enter Try.func54, Try.ntmps54
  go_wp2_with fail
  refine (HO.out _ (Below.refl _ _)).mono ?_
  rintro e w1 ⟨rfl, hl⟩
  have HV1 := Lib.hid (HV.out.below hl)
  have F1 := Lib.hid (((Below.refl w.heap.size w).alloc (Nat.le_refl _) (.cells #[.int .u8 o, .int .i64 d, .int .i64 n, .int .i64 v] 31)).trans (hl.mono (by simp)))
  have c4 := HV1.out.box.c4
  have f4 := HV1.out.box.fz 4
  clear hl
  go_wp2_with fail
  exact bodyPost_ret (v := .tuple #[]) (by simp [results, Try.results54, go_sem]) rfl ⟨rfl, HV1.out.reg 4 _ _ ⟨HOK.out.a, HOK.out.b, HOK.out.c, HOK.out.d, HOK.out.len, HOK.out.r⟩ (fun _ _ => (Mc.set_reg _ _ 0).2.2.2.2 _), frm3 F1.out (Frm.setCell (S := Sg g gh gm) (p := ⟨g, 4, none⟩) (Frm.refl _ _) (fun _ => .inl rfl) _)⟩
end
end Go.Proofs.Ytebmgladdgmmeaa
namespace Go.Proofs.Ytebmgladdgmmeaa
open Go.RowKit Go.WideShapes
set_option linter.unusedVariables false
set_option linter.unusedSimpArgs false
section
variable {w : World} {g gh gm ch cm : Nat} {s : St}
theorem Vm.drew (h : Vm w g gh gm s ch cm) : Vm w.drew g gh gm s ch cm := h.below (Below.refl _ _).drew
theorem hash_wrap (z y : Int) : IntKind.u32.wrap (IntKind.u32.wrap (IntKind.u32.wrap (z + y) + 512) * 773) = (z + y + 512) * 773 % 4294967296 := by
  rw [IntKind.wrap_u32, IntKind.wrap_u32, IntKind.wrap_u32]
  omega
theorem r_at {m : Mc} (h : m.ok) (k : Nat) (hk : k ≤ 255) : m.r[k]? = some (m.r.getD k 0) ∧ U32 (m.r.getD k 0) := by
  have hl : k < m.r.length := by rw [h.len]; omega
  rw [List.getD_eq_getElem?_getD, List.getElem?_eq_getElem hl]
  exact ⟨rfl, h.r _ (List.getElem_mem hl)⟩
set_option maxRecDepth 100000 in
set_option maxHeartbeats 4000000 in
theorem do54_7 (d n v : Int) (hd : 0 ≤ d ∧ d ≤ 6) (hv : Vm w g gh gm s ch cm) : Calls Try.prog 54 #[.agg #[.int .u8 7, .int .i64 d, .int .i64 n, .int .i64 v], .pointer (some ⟨g, 0, none⟩)] w (DoPost g gh gm (doV 7 d n v s) ch cm w) := by
  have HV := Lib.hid (hv.below ((Below.refl _ _).alloc (Nat.le_refl _) (.cells #[.int .u8 7, .int .i64 d, .int .i64 n, .int .i64 v] 31)))
  have HBX := Lib.hid (Blk.new w 31 #[.int .u8 7, .int .i64 d, .int .i64 n, .int .i64 v])
  have hlt := hv.box.lt
  have hp := fun W hW => place_any d hd W (HV.out.below hW)
  have HP := Lib.hid hp
  have hok := hv.ok
  have HOK := Lib.hid hok
  clear hv hp hok
  go_enter Try.func54, Try.ntmps54
  go_wp2_with fail
  refine (HP.out _ (Below.refl _ _)).mono ?_
  rintro e w1 ⟨⟨fg, fp, q, rfl, hpl⟩, hl⟩
  have eg := hpl.eg
  have ep := hpl.ep
  have HG := Lib.hid hpl.get
  have HPU := Lib.hid hpl.put
  have HV1 := Lib.hid (HV.out.below hl)
  have F1 := Lib.hid (((Below.refl w.heap.size w).alloc (Nat.le_refl _) (.cells #[.int .u8 7, .int .i64 d, .int .i64 n, .int .i64 v] 31)).trans (hl.mono (by simp)))
  have b0 := (HBX.out.below hl).cell 0
  have b1 := (HBX.out.below hl).cell 1
  have b2 := (HBX.out.below hl).cell 2
  have b3 := (HBX.out.below hl).cell 3
  simp at b0 b1 b2 b3
  have c0 := HV1.out.box.c0
  have har := HOK.out.m.a
  have HAR := Lib.hid har
  clear hpl hl har
  go_wp2_with fail
  go_region_with ((with_reducible refine (HG.out _ (Below.refl _ _).drew).mono ?_); rintro e w2 ⟨rfl, rfl⟩)
  all_goals
    go_wp2_with fail
    refine (HPU.out _ _ HAR.out (Below.refl _ _).drew).mono ?_
    rintro e w3 ⟨rfl, hv3, hf3⟩
    have HV3 := Lib.hid hv3
    have HF3 := Lib.hid hf3
    have k0 := hv3.box.c0
    have f0 := hv3.box.fz 0
    have hr := getP_u32 HOK.out d
    have HRR := Lib.hid hr
    clear hv3 hf3 hr
    go_wp2_with fail
    exact bodyPost_end (v := .tuple #[]) (by simp [results, Try.results54, go_sem]) rfl ⟨rfl, HV3.out.reg 0 _ _ ⟨HRR.out, HV3.out.ok.m.b, HV3.out.ok.m.c, HV3.out.ok.m.d, HV3.out.ok.m.len, HV3.out.ok.m.r⟩ (fun _ _ => (Mc.set_reg _ _ _).1), frm3 (F1.out.trans ((Below.refl _ _).drew.mono F1.out.size)) (HF3.out.setCell (p := ⟨g, 0, none⟩) (fun _ => .inl rfl) _)⟩
set_option maxRecDepth 100000 in
set_option maxHeartbeats 4000000 in
theorem do54_22 (d n : Int) (k : Nat) (hk : k ≤ 255) (hd : 0 ≤ d ∧ d ≤ 6) (hv : Vm w g gh gm s ch cm) : Calls Try.prog 54 #[.agg #[.int .u8 22, .int .i64 d, .int .i64 n, .int .i64 (k : Int)], .pointer (some ⟨g, 0, none⟩)] w (DoPost g gh gm (doV 22 d n (k : Int) s) ch cm w) := by
  have HV := Lib.hid (hv.below ((Below.refl _ _).alloc (Nat.le_refl _) (.cells #[.int .u8 22, .int .i64 d, .int .i64 n, .int .i64 (k : Int)] 31)))
  have HBX := Lib.hid (Blk.new w 31 #[.int .u8 22, .int .i64 d, .int .i64 n, .int .i64 (k : Int)])
  have hlt := hv.box.lt
  have hp := fun W hW => place_any d hd W (HV.out.below hW)
  have HP := Lib.hid hp
  have hok := hv.ok
  have HOK := Lib.hid hok
  have hki : (k : Int) < 256 := by omega
  have hkn : k < 256 := by omega
  have hk0 : (0 : Int) ≤ (k : Int) := by omega
  clear hv hp hok
  go_enter Try.func54, Try.ntmps54
  go_wp2_with fail
  refine (HP.out _ (Below.refl _ _)).mono ?_
  rintro e w1 ⟨⟨fg, fp, q, rfl, hpl⟩, hl⟩
  have eg := hpl.eg
  have ep := hpl.ep
  have HG := Lib.hid hpl.get
  have HPU := Lib.hid hpl.put
  have HV1 := Lib.hid (HV.out.below hl)
  have F1 := Lib.hid (((Below.refl w.heap.size w).alloc (Nat.le_refl _) (.cells #[.int .u8 22, .int .i64 d, .int .i64 n, .int .i64 (k : Int)] 31)).trans (hl.mono (by simp)))
  have b0 := (HBX.out.below hl).cell 0
  have b1 := (HBX.out.below hl).cell 1
  have b2 := (HBX.out.below hl).cell 2
  have b3 := (HBX.out.below hl).cell 3
  simp at b0 b1 b2 b3
  obtain ⟨hx1, hx2⟩ := r_at HOK.out.m k hk
  have cx := HV1.out.box.cr hx1
  have he : doV 22 d n (k : Int) s = setP d (s.m.r.getD k 0) s := rfl
  obtain ⟨x, hx⟩ : ∃ x, s.m.r.getD k 0 = x := ⟨_, rfl⟩
  rw [hx] at cx hx2 he
  have HE := Lib.hid he
  clear hx he hx1
  have HX2 := Lib.hid hx2
  clear hpl hl hx2
  go_wp2_with fail
  go_region_with ((with_reducible refine (HPU.out _ _ HX2.out (Below.refl _ _).drew).mono ?_); rintro e w3 ⟨rfl, hv3, hf3⟩; have HV3 := Lib.hid hv3; have HF3 := Lib.hid hf3; clear hv3 hf3)
  all_goals
    go_wp2_with fail
    exact bodyPost_end (v := .tuple #[]) (by simp [results, Try.results54, go_sem]) rfl ⟨rfl, by rw [HE.out]; exact HV3.out, frm3 (F1.out.trans ((Below.refl _ _).drew.mono F1.out.size)) HF3.out⟩
set_option maxRecDepth 100000 in
set_option maxHeartbeats 4000000 in
theorem do54_23 (d n : Int) (k : Nat) (hk : k ≤ 255) (hd : 0 ≤ d ∧ d ≤ 6) (hv : Vm w g gh gm s ch cm) : Calls Try.prog 54 #[.agg #[.int .u8 23, .int .i64 d, .int .i64 n, .int .i64 (k : Int)], .pointer (some ⟨g, 0, none⟩)] w (DoPost g gh gm (doV 23 d n (k : Int) s) ch cm w) := by
  have HV := Lib.hid (hv.below ((Below.refl _ _).alloc (Nat.le_refl _) (.cells #[.int .u8 23, .int .i64 d, .int .i64 n, .int .i64 (k : Int)] 31)))
  have HBX := Lib.hid (Blk.new w 31 #[.int .u8 23, .int .i64 d, .int .i64 n, .int .i64 (k : Int)])
  have hlt := hv.box.lt
  have hp := fun W hW => place_any d hd W (HV.out.below hW)
  have HP := Lib.hid hp
  have hok := hv.ok
  have HOK := Lib.hid hok
  have hki : (k : Int) < 256 := by omega
  have hkn : k < 256 := by omega
  have hk0 : (0 : Int) ≤ (k : Int) := by omega
  clear hv hp hok
  go_enter Try.func54, Try.ntmps54
  go_wp2_with fail
  refine (HP.out _ (Below.refl _ _)).mono ?_
  rintro e w1 ⟨⟨fg, fp, q, rfl, hpl⟩, hl⟩
  have eg := hpl.eg
  have ep := hpl.ep
  have HG := Lib.hid hpl.get
  have HPU := Lib.hid hpl.put
  have HV1 := Lib.hid (HV.out.below hl)
  have F1 := Lib.hid (((Below.refl w.heap.size w).alloc (Nat.le_refl _) (.cells #[.int .u8 23, .int .i64 d, .int .i64 n, .int .i64 (k : Int)] 31)).trans (hl.mono (by simp)))
  have b0 := (HBX.out.below hl).cell 0
  have b1 := (HBX.out.below hl).cell 1
  have b2 := (HBX.out.below hl).cell 2
  have b3 := (HBX.out.below hl).cell 3
  simp at b0 b1 b2 b3
  obtain ⟨hx1, hx2⟩ := r_at HOK.out.m k hk
  have cx := HV1.out.box.cr hx1
  have fx := HV1.out.box.fz (5 + k)
  have c0 := HV1.out.box.c0
  clear hpl hl hx1 hx2
  go_wp2_with fail
  go_region
  all_goals
    go_wp2_with fail
    exact bodyPost_end (v := .tuple #[]) (by simp [results, Try.results54, go_sem]) rfl ⟨rfl, (HV1.out.reg (5 + k) _ { s.m with r := s.m.r.set k s.m.a } ⟨HOK.out.m.a, HOK.out.m.b, HOK.out.m.c, HOK.out.m.d, (by rw [List.length_set]; exact HOK.out.m.len), mem_set HOK.out.m.r HOK.out.m.a⟩ (fun _ _ => Mc.set_r _ _ _ _ (by rw [HOK.out.m.len]; omega))).drew, frm3 F1.out (Frm.setCell (S := Sg g gh gm) (p := ⟨g, 5 + k, none⟩) (Frm.refl _ _) (fun _ => .inl rfl) _).drew⟩
set_option maxRecDepth 100000 in
set_option maxHeartbeats 4000000 in
theorem do54_24 (d n v : Int) (hd : 0 ≤ d ∧ d ≤ 6) (hv : Vm w g gh gm s ch cm) : Calls Try.prog 54 #[.agg #[.int .u8 24, .int .i64 d, .int .i64 n, .int .i64 v], .pointer (some ⟨g, 0, none⟩)] w (DoPost g gh gm (doV 24 d n v s) ch cm w) := by
  have HV := Lib.hid (hv.below ((Below.refl _ _).alloc (Nat.le_refl _) (.cells #[.int .u8 24, .int .i64 d, .int .i64 n, .int .i64 v] 31)))
  have HBX := Lib.hid (Blk.new w 31 #[.int .u8 24, .int .i64 d, .int .i64 n, .int .i64 v])
  have hlt := hv.box.lt
  have hp := fun W hW => place_any d hd W (HV.out.below hW)
  have HP := Lib.hid hp
  have hok := hv.ok
  have HOK := Lib.hid hok
  clear hv hp hok
  go_enter Try.func54, Try.ntmps54
  go_wp2_with fail
  refine (HP.out _ (Below.refl _ _)).mono ?_
  rintro e w1 ⟨⟨fg, fp, q, rfl, hpl⟩, hl⟩
  have eg := hpl.eg
  have ep := hpl.ep
  have HG := Lib.hid hpl.get
  have HPU := Lib.hid hpl.put
  have HV1 := Lib.hid (HV.out.below hl)
  have F1 := Lib.hid (((Below.refl w.heap.size w).alloc (Nat.le_refl _) (.cells #[.int .u8 24, .int .i64 d, .int .i64 n, .int .i64 v] 31)).trans (hl.mono (by simp)))
  have b0 := (HBX.out.below hl).cell 0
  have b1 := (HBX.out.below hl).cell 1
  have b2 := (HBX.out.below hl).cell 2
  have b3 := (HBX.out.below hl).cell 3
  simp at b0 b1 b2 b3
  have hp2 := place_any 4 (by omega) w1 HV1.out
  have HP2 := Lib.hid hp2
  clear hpl hl hp2 eg ep
  go_wp2_with fail
  refine HP2.out.mono ?_
  rintro e w2 ⟨⟨fg2, fp2, q2, rfl, hpl2⟩, hl2⟩
  have eg := hpl2.eg
  have ep := hpl2.ep
  have HG2 := Lib.hid hpl2.get
  have HPU2 := Lib.hid hpl2.put
  have HV2 := Lib.hid (HV1.out.below hl2)
  have F2 := Lib.hid (F1.out.trans (hl2.mono F1.out.size))
  have c0 := HV2.out.box.c0
  have fz := HV2.out.box.fz 0
  clear hpl2 hl2
  go_wp2_with fail
  go_region_with ((with_reducible refine (HG2.out _ (Below.refl _ _).drew).mono ?_); rintro e w3 ⟨rfl, rfl⟩)
  all_goals
    go_wp2_with fail
    rw [hash_wrap]
    exact bodyPost_end (v := .tuple #[]) (by simp [results, Try.results54, go_sem]) rfl ⟨rfl, (HV2.out.reg 0 _ { s.m with a := (s.m.a + getP 4 s + 512) * 773 % 4294967296 } ⟨mod_range _, HOK.out.m.b, HOK.out.m.c, HOK.out.m.d, HOK.out.m.len, HOK.out.m.r⟩ (fun _ _ => (Mc.set_reg _ _ _).1)).drew, frm3 F2.out (Frm.setCell (S := Sg g gh gm) (p := ⟨g, 0, none⟩) (Frm.refl _ _) (fun _ => .inl rfl) _).drew⟩
set_option maxRecDepth 100000 in
set_option maxHeartbeats 4000000 in
theorem do54_25 (d n v : Int) (hd : 0 ≤ d ∧ d ≤ 6) (hv : Vm w g gh gm s ch cm) : Calls Try.prog 54 #[.agg #[.int .u8 25, .int .i64 d, .int .i64 n, .int .i64 v], .pointer (some ⟨g, 0, none⟩)] w (DoPost g gh gm (doV 25 d n v s) ch cm w) := by
  have HV := Lib.hid (hv.below ((Below.refl _ _).alloc (Nat.le_refl _) (.cells #[.int .u8 25, .int .i64 d, .int .i64 n, .int .i64 v] 31)))
  have HBX := Lib.hid (Blk.new w 31 #[.int .u8 25, .int .i64 d, .int .i64 n, .int .i64 v])
  have hlt := hv.box.lt
  have hp := fun W hW => place_any d hd W (HV.out.below hW)
  have HP := Lib.hid hp
  have hok := hv.ok
  have HOK := Lib.hid hok
  clear hv hp hok
  go_enter Try.func54, Try.ntmps54
  go_wp2_with fail
  refine (HP.out _ (Below.refl _ _)).mono ?_
  rintro e w1 ⟨⟨fg, fp, q, rfl, hpl⟩, hl⟩
  have eg := hpl.eg
  have ep := hpl.ep
  have HG := Lib.hid hpl.get
  have HPU := Lib.hid hpl.put
  have HV1 := Lib.hid (HV.out.below hl)
  have F1 := Lib.hid (((Below.refl w.heap.size w).alloc (Nat.le_refl _) (.cells #[.int .u8 25, .int .i64 d, .int .i64 n, .int .i64 v] 31)).trans (hl.mono (by simp)))
  have b0 := (HBX.out.below hl).cell 0
  have b1 := (HBX.out.below hl).cell 1
  have b2 := (HBX.out.below hl).cell 2
  have b3 := (HBX.out.below hl).cell 3
  simp at b0 b1 b2 b3
  have hp2 := place_any 6 (by omega) w1 HV1.out
  have HP2 := Lib.hid hp2
  clear hpl hl hp2 eg ep
  go_wp2_with fail
  refine HP2.out.mono ?_
  rintro e w2 ⟨⟨fg2, fp2, q2, rfl, hpl2⟩, hl2⟩
  have eg := hpl2.eg
  have ep := hpl2.ep
  have HG2 := Lib.hid hpl2.get
  have HPU2 := Lib.hid hpl2.put
  have HV2 := Lib.hid (HV1.out.below hl2)
  have F2 := Lib.hid (F1.out.trans (hl2.mono F1.out.size))
  have c0 := HV2.out.box.c0
  have fz := HV2.out.box.fz 0
  clear hpl2 hl2
  go_wp2_with fail
  go_region_with (first
    | ((with_reducible refine (HG2.out _ (Below.refl _ _).drew).mono ?_); rintro e w3 ⟨rfl, rfl⟩)
    | ((with_reducible refine (HPU2.out _ _ (wrap_range _) (Below.refl _ _).drew).mono ?_); rintro e w3 ⟨rfl, hv3, hf3⟩; rw [hash_wrap] at hv3; have HV3 := Lib.hid hv3; have HF3 := Lib.hid hf3; clear hv3 hf3))
  all_goals
    go_wp2_with fail
    exact bodyPost_end (v := .tuple #[]) (by simp [results, Try.results54, go_sem]) rfl ⟨rfl, HV3.out, frm3 (F2.out.trans ((Below.refl _ _).drew.mono F2.out.size)) HF3.out⟩
end
end Go.Proofs.Ytebmgladdgmmeaa
namespace Go.Proofs.Ytebmgladdgmmeaa
open Go.RowKit Go.WideShapes
set_option linter.unusedVariables false
set_option linter.unusedSimpArgs false
theorem inB_le {n most : Int} {b : Bool} (h : inB n 0 most b = true) (hm : 0 ≤ most) : 0 ≤ n ∧ n ≤ most := by
  unfold inB at h
  cases b
  · simp at h; omega
  · simp at h; omega
theorem right_in {o d n v : Int} (h : rightI ⟨o, d, n, v⟩ = true) : (0 ≤ d ∧ d ≤ 6) ∧ (0 ≤ n ∧ n ≤ 7) ∧ (o = 22 ∨ o = 23 → 0 ≤ v ∧ v ≤ 255) := by
  unfold rightI at h
  simp only [Bool.and_eq_true] at h
  obtain ⟨⟨⟨h1, h2⟩, h3⟩, h4⟩ := h
  refine ⟨?_, ?_, ?_⟩
  · rcases sh_cases o with ⟨_, e⟩ | ⟨_, e⟩ | ⟨_, e⟩ | ⟨_, e⟩ | ⟨_, e⟩ | ⟨_, e⟩ | ⟨_, e⟩ | ⟨_, e⟩ | ⟨_, e⟩ | ⟨_, e⟩ <;> rw [e] at h2 <;> simp [inB] at h2 <;> omega
  · have := inB_le h3 (by split <;> omega)
    split at this <;> omega
  · intro ho
    have hc : cls o = 6 ∨ cls o = 7 := by
      rcases ho with rfl | rfl
      · exact .inl (by decide)
      · exact .inr (by decide)
    rcases sh_cases o with ⟨c, e⟩ | ⟨c, e⟩ | ⟨c, e⟩ | ⟨c, e⟩ | ⟨c, e⟩ | ⟨c, e⟩ | ⟨c, e⟩ | ⟨c, e⟩ | ⟨c, e⟩ | ⟨c, e⟩ <;> first | (exfalso; omega) | skip
    · rw [e] at h4; exact inB_le h4 (by simp)
    · rw [e] at h4; exact inB_le h4 (by simp)
theorem do54 {w : World} {g gh gm ch cm : Nat} {s : St} (o d n v : Int) (h0 : 0 ≤ o) (h1 : o ≤ 25) (hr : rightI ⟨o, d, n, v⟩ = true) (hv : Vm w g gh gm s ch cm) : Calls Try.prog 54 #[.agg #[.int .u8 o, .int .i64 d, .int .i64 n, .int .i64 v], .pointer (some ⟨g, 0, none⟩)] w (DoPost g gh gm (doV o d n v s) ch cm w) := by
  obtain ⟨hd, hn, hk⟩ := right_in hr
  by_cases c1 : 8 ≤ o ∧ o ≤ 18
  · exact do54_calc o d n v c1 hn hv
  by_cases c2 : 19 ≤ o ∧ o ≤ 21
  · exact do54_hold o d n v c2 hn hv
  rcases (show o = 0 ∨ o = 1 ∨ o = 2 ∨ o = 3 ∨ o = 4 ∨ o = 5 ∨ o = 6 ∨ o = 7 ∨ o = 22 ∨ o = 23 ∨ o = 24 ∨ o = 25 from by omega) with rfl | rfl | rfl | rfl | rfl | rfl | rfl | rfl | rfl | rfl | rfl | rfl
  · exact do54_0 d n v hd hv
  · exact do54_1 d n v hd hn hv
  · exact do54_2 d n v hd hv
  · exact do54_3 d n v hd hv
  · exact do54_4 d n v hd hv
  · exact do54_5 d n v hd hv
  · exact do54_6 d n v hd hv
  · exact do54_7 d n v hd hv
  · obtain ⟨k, rfl⟩ := Int.eq_ofNat_of_zero_le (hk (.inl rfl)).1
    exact do54_22 d n k (by have := (hk (.inl rfl)).2; omega) hd hv
  · obtain ⟨k, rfl⟩ := Int.eq_ofNat_of_zero_le (hk (.inr rfl)).1
    exact do54_23 d n k (by have := (hk (.inr rfl)).2; omega) hd hv
  · exact do54_24 d n v hd hv
  · exact do54_25 d n v hd hv
/-- A memory handed back: none, or a block from base on. -/
def OwnR (w : World) (base : Nat) (v : Value) (e : TypeId) (xs : List Value) : Prop :=
  (v = .slice none 0 0 ∧ xs = []) ∨ ∃ g c, v = .slice (some ⟨g, 0, none⟩) xs.length c ∧ xs.length ≤ c ∧ base ≤ g ∧ RowAt w g e xs
theorem OwnR.of_own {w : World} {base n : Nat} {e : TypeId} {v : Value} {xs : List Value} (h : w.ownsRow base e 1 v n xs) : OwnR w base v e xs := by
  obtain ⟨hl, h⟩ := h
  rcases h with ⟨rfl, hx⟩ | ⟨g, cap, cur, rfl, hb, hg, hc, h1, h2, ht⟩
  · refine .inl ⟨rfl, ?_⟩
    exact List.eq_nil_of_length_eq_zero (by rw [hl, hx])
  · have hn : xs.length = n := by rw [hl]; omega
    exact .inr ⟨g, cap, by rw [hn], by omega, hb, cur, hg, by rw [hn]; simpa using ht⟩
theorem OwnR.frm {w w' : World} {base : Nat} {e : TypeId} {v : Value} {xs : List Value} {S : Nat → Prop} (h : OwnR w base v e xs) (hf : Frm S w w') (hn : ∀ k, base ≤ k → ¬ S k) : OwnR w' base v e xs := by
  rcases h with h | ⟨g, c, h1, h2, h3, h4⟩
  · exact .inl h
  · exact .inr ⟨g, c, h1, h2, h3, h4.frm hf (hn g h3)⟩
theorem OwnR.below {w w' : World} {base : Nat} {e : TypeId} {v : Value} {xs : List Value} (h : OwnR w base v e xs) (hb : Below w.heap.size w w') : OwnR w' base v e xs := by
  rcases h with h | ⟨g, c, h1, h2, h3, h4⟩
  · exact .inl h
  · exact .inr ⟨g, c, h1, h2, h3, h4.below hb⟩
theorem OwnR.base {w : World} {b b' : Nat} {e : TypeId} {v : Value} {xs : List Value} (h : OwnR w b v e xs) (hb : b' ≤ b) : OwnR w b' v e xs := by
  rcases h with h | ⟨g, c, h1, h2, h3, h4⟩
  · exact .inl h
  · exact .inr ⟨g, c, h1, h2, Nat.le_trans hb h3, h4⟩
theorem OwnR.one {w : World} {b : Nat} {e : TypeId} {v : Value} {xs : List Value} (h : OwnR w b v e xs) : v.oneCell' = true := by
  rcases h with ⟨rfl, _⟩ | ⟨g, c, rfl, _⟩ <;> rfl
/-- A machine handed back. -/
structure IsMachR (s : St) (w0 : World) (e : Ending) (w : World) : Prop where
  ex : ∃ vh vm, e = .returned (.agg (s.m.cells vh vm)) ∧ OwnR w w0.heap.size vh 45 (s.hs.map (.int .u32)) ∧ OwnR w w0.heap.size vm 5 (s.ms.map (.int .u8))
  low : Below w0.heap.size w0 w
/-- What Do comes to. -/
def DoS (o d n v : Int) (s : St) : St := if rightM s.hs.length s.ms.length = true ∧ rightI ⟨o, d, n, v⟩ = true ∧ o < 26 then doV o d n v s else s
end Go.Proofs.Ytebmgladdgmmeaa
