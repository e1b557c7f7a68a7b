/- Run, of vm, refused: the walks. Condition: memories of at most 5000 places. -/
import Derived.Test.YtebmgladdgmmeaaVdGRa
import Derived.Test.YtebmgladdgmmeaaVdGNc
namespace Go.Proofs.Ytebmgladdgmmeaa
open Go.RowKit Go.WideShapes
set_option linter.unusedVariables false
set_option linter.unusedSimpArgs false
theorem results_row_two {P : Program} {fn : Func} {p q q2 : Tmp} {ty : TypeId} (h : fn.results = #[.cell p ty, .tmp q, .tmp q2]) (tmps : Array Value) (w : World) (g : Nat) (t : TypeId) (cs : Array Value) (fr : Nat × Nat) (d : TypeDesc) (v v2 : Value)
    (hp : tmps.getD p undef = .pointer (some ⟨g, 0, none⟩)) (hq : tmps.getD q undef = v) (hq2 : tmps.getD q2 undef = v2) (hg : w.heap[g]? = some (.cells cs t fr))
    (hu : P.underlying ty = some d) (hd : (match d with | .struct _ | .array _ _ => true | _ => false) = true) (hi : (P.info? ty).map (·.size) = some cs.size) :
    (results fn tmps).run P w = .ok (.tuple #[.agg cs, v, v2]) w := by
  have hp' : tmps[p]?.getD undef = .pointer (some ⟨g, 0, none⟩) := by simpa using hp
  have hq' : tmps[q]?.getD undef = v := by simpa using hq
  have hq2' : tmps[q2]?.getD undef = v2 := by simpa using hq2
  have hl := run_loadVar_row w g t ty cs fr d hg hu hd hi
  simp [results, h, hp', hq', hq2', asAddr, hl]
/-- What Run hands back. -/
structure IsRan (r : St × List Int × Int) (w0 : World) (e : Ending) (w : World) : Prop where
  ex : ∃ vh vm vo, e = .returned (.tuple #[.agg (r.1.m.cells vh vm), vo, .int .i64 r.2.2]) ∧ OwnR w w0.heap.size vh 45 (r.1.hs.map (.int .u32)) ∧ OwnR w w0.heap.size vm 5 (r.1.ms.map (.int .u8)) ∧ OwnR w w0.heap.size vo 5 (r.2.1.map (.int .u8))
  low : Below w0.heap.size w0 w
theorem IsRan.zero {w0 w : World} (x : Int) (h : Below w0.heap.size w0 w) : IsRan (zS, [], x) w0 (.returned (.tuple #[.agg zCells, .slice none 0 0, .int .i64 x])) w :=
  ⟨⟨_, _, _, rfl, .inl ⟨rfl, rfl⟩, .inl ⟨rfl, rfl⟩, .inl ⟨rfl, rfl⟩⟩, h⟩
set_option maxRecDepth 100000 in
set_option maxHeartbeats 4000000 in
theorem run_bad (bs : List Int) (A : Option Addr) (n c : Nat) (post : Bool) (cs : Array Value) (fuel most : Int) (w : World) (hn : n = bs.length) (ho : Oct bs) (hr : Rd w A (octs bs)) (hnm : n ≤ 9223372036854775807) (hc : chk bs post ≠ 0) :
    Calls Try.prog 32 #[.slice A n c, .bool post, .agg cs, .int .i64 fuel, .int .i64 most] w (IsRan (zS, [], chk bs post) w) := by
  have hz := (zero_of_info zero50).1
  have HB0 := Lib.hid ((((Below.refl w.heap.size w).alloc (Nat.le_refl _) (.cells cs 50))).alloc (by simp) (.cells zCells 50))
  have br := Blk.new (w.alloc (.cells cs 50)) 50 zCells
  rw [World.size_alloc] at br
  have hck := chk_any bs A n c post _ hn ho (hr.below HB0.out rfl) hnm
  obtain ⟨x, hx⟩ : ∃ x, chk bs post = x := ⟨_, rfl⟩
  rw [hx] at hck hc ⊢
  have e0 : (x == 0) = false := by simpa using hc
  have HCK := Lib.hid hck
  have HBR := Lib.hid br
  have HSI : Hid ((Try.prog.info? 50).map (·.size) = some zCells.size) := Lib.hid (by rw [show zCells.size = 263 from Mc.size zM_ok _ _]; exact size50)
  have HZ := Lib.hid zone
  have HBL := Lib.hid built50e
  have HEND := Lib.hid (fun w' => @IsRan.zero w w' x)
  obtain ⟨zs, hzs⟩ : ∃ x, zCells = x := ⟨_, rfl⟩
  rw [hzs] at HSI HZ HBL HBR HB0 HCK
  simp only [hzs] at hz HEND
  clear hzs hck br hc hx ho hr hn
  go_enter Try.func32, Try.ntmps32
  go_wp2_with fail
  refine HCK.out.mono ?_
  rintro e w1 ⟨rfl, hb1⟩
  have BR := Lib.hid (HBR.out.below hb1)
  have B1 := Lib.hid (ch0 HB0.out hb1)
  clear hb1
  go_wp2_with (first
    | (refine wpList_build rfl 50 #[] rfl (by simp [HBL.out]) ?_; simp only [List.map_toArray, List.map_nil, HBL.out, Option.getD_some])
    | (refine wpList_store_row rfl 50 (.tmp 10) (.tmp 25) rfl (w.heap.size + 1) zs rfl rfl 50 _ BR.out HSI.out rfl HZ.out ?_))
  have hf := frm_setRow w1 (w.heap.size + 1) zs
  exact bodyPost_ret (v := .tuple #[.agg zs, .slice none 0 0, .int .i64 x]) (results_row_two rfl _ _ (w.heap.size + 1) 50 zs _ _ _ _ rfl rfl rfl (blk_setRow BR.out zs) Try.underlying50 rfl HSI.out) rfl (HEND.out _ (B1.out.trans (hf.to_below B1.out.size (fun k hk => by omega))))
set_option maxRecDepth 100000 in
set_option maxHeartbeats 4000000 in
theorem run_wrong (bs : List Int) (A : Option Addr) (n c : Nat) (post : Bool) (m : Mc) (hm : m.ok) (Ah Am : Option Addr) (nh ch nm cm : Nat) (fuel most : Int) (w : World) (hn : n = bs.length) (ho : Oct bs) (hr : Rd w A (octs bs)) (hnm : n ≤ 9223372036854775807) (hc : chk bs post = 0) (lh : nh ≤ 5000) (lm : nm ≤ 5000) (hrm : rightM nh nm = false) :
    Calls Try.prog 32 #[.slice A n c, .bool post, .agg (m.cells (.slice Ah nh ch) (.slice Am nm cm)), .int .i64 fuel, .int .i64 most] w (IsRan (zS, [], 2) w) := by
  have hz := (zero_of_info zero50).1
  have hbx := MBox.new hm w (.slice Ah nh ch) (.slice Am nm cm)
  obtain ⟨cs, hcs⟩ : ∃ x, m.cells (.slice Ah nh ch) (.slice Am nm cm) = x := ⟨_, rfl⟩
  rw [hcs] at hbx ⊢
  have HB0 := Lib.hid ((((Below.refl w.heap.size w).alloc (Nat.le_refl _) (.cells cs 50))).alloc (by simp) (.cells zCells 50))
  have hbb := hbx.below ((Below.refl _ _).alloc (Nat.le_refl _) (.cells zCells 50))
  have br := Blk.new (w.alloc (.cells cs 50)) 50 zCells
  rw [World.size_alloc] at br
  have hck := chk_any bs A n c post _ hn ho (hr.below HB0.out rfl) hnm
  rw [hc] at hck
  have HBX := Lib.hid hbb
  have HCK := Lib.hid hck
  have HBR := Lib.hid br
  have HRM := Lib.hid hrm
  have HLH := Lib.hid lh
  have HLM := Lib.hid lm
  have HSI : Hid ((Try.prog.info? 50).map (·.size) = some zCells.size) := Lib.hid (by rw [show zCells.size = 263 from Mc.size zM_ok _ _]; exact size50)
  have HZ := Lib.hid zone
  have HBL := Lib.hid built50e
  have HEND := Lib.hid (fun w' => @IsRan.zero w w' 2)
  obtain ⟨zs, hzs⟩ : ∃ x, zCells = x := ⟨_, rfl⟩
  rw [hzs] at HSI HZ HBL HBR HB0 HCK HBX
  simp only [hzs] at hz HEND
  clear hzs hck br hc hcs ho hr hn hbx hbb hrm lh lm
  go_enter Try.func32, Try.ntmps32
  go_wp2_with fail
  refine HCK.out.mono ?_
  rintro e w1 ⟨rfl, hb1⟩
  have BR := Lib.hid (HBR.out.below hb1)
  have B1 := Lib.hid (ch0 HB0.out hb1)
  have hrt := right_vm m w.heap.size Ah Am nh ch nm cm w1 (HBX.out.below hb1) HLH.out HLM.out
  rw [HRM.out] at hrt
  have HRT := Lib.hid hrt
  clear hb1 hrt
  go_wp2_with fail
  refine HRT.out.mono ?_
  rintro e w2 ⟨rfl, hb2⟩
  have BR2 := Lib.hid (BR.out.below hb2)
  have B2 := Lib.hid (ch0 B1.out hb2)
  clear hb2
  go_wp2_with (first
    | (refine wpList_build rfl 50 #[] rfl (by simp [HBL.out]) ?_; simp only [List.map_toArray, List.map_nil, HBL.out, Option.getD_some])
    | (refine wpList_store_row rfl 50 (.tmp 10) (.tmp 29) rfl (w.heap.size + 1) zs rfl rfl 50 _ BR2.out HSI.out rfl HZ.out ?_))
  have hf := frm_setRow w2 (w.heap.size + 1) zs
  exact bodyPost_ret (v := .tuple #[.agg zs, .slice none 0 0, .int .i64 2]) (results_row_two rfl _ _ (w.heap.size + 1) 50 zs _ _ _ _ rfl rfl rfl (blk_setRow BR2.out zs) Try.underlying50 rfl HSI.out) rfl (HEND.out _ (B2.out.trans (hf.to_below B2.out.size (fun k hk => by omega))))
end Go.Proofs.Ytebmgladdgmmeaa
