/- SameMachine, of two machines that are one: the walk. Condition: memories of at most 10^9 places. -/
import Derived.Test.YtebmgladdgmmeaaVdGPj
import Derived.DeepKeys
namespace Go.Proofs.Ytebmgladdgmmeaa
open Go.RowKit Go.WideShapes
set_option linter.unusedVariables false
set_option linter.unusedSimpArgs false
theorem mapM_has {α β : Type} {f : α → Option β} {g : α → β} : ∀ (l : List α), (∀ a ∈ l, f a = some (g a)) → l.mapM f = some (l.map g)
  | [], _ => rfl
  | a :: l, h => by
    rw [List.mapM_cons, h a (by simp), mapM_has l fun b hb => h b (by simp [hb])]
    rfl
theorem flat_one {α β : Type} (g : α → β) : ∀ l : List α, (l.map fun a => [g a]).flatten = l.map g
  | [] => rfl
  | a :: l => by simp [flat_one g l]
def wds (l : List Int) : List Value := l.map (.int .u32)
theorem range_getD (l : List Int) (n : Nat) (h : l.length = n) : (List.range n).map (fun i => Lit.int .u32 (l.getD i 0)) = l.map (Lit.int .u32) := by
  subst h
  apply List.ext_getElem
  · simp
  · intro i h1 h2
    simp at h1
    simp [List.getD_eq_getElem?_getD, List.getElem?_eq_getElem h1]
theorem keyLits256 (l : List Int) (hl : l.length = 256) (ho : Wds l) : Try.prog.keyLits 2 46 (wds l) = some (l.map (Lit.int .u32)) := by
  have c46 : Try.prog.cellsOf 46 = 256 := by kernel_rfl
  have c45 : Try.prog.cellsOf 45 = 1 := by kernel_rfl
  have u46 : Try.prog.underlying 46 = some (.array 256 45) := Try.underlying46
  have u45 : Try.prog.underlying 45 = some (.int .u32) := Try.underlying45
  have hm := mapM_has (f := fun i => Try.prog.keyLits 1 45 (((wds l).drop (i * 1)).take 1)) (g := fun i => [Lit.int .u32 (l.getD i 0)]) (List.range 256) (fun i hi => by
    have hi' : i < l.length := by rw [hl]; simpa using hi
    have e : ((wds l).drop (i * 1)).take 1 = [.int .u32 (l.getD i 0)] := by
      unfold wds
      rw [Nat.mul_one, ← List.map_drop, ← List.map_take]
      rw [List.take_one, List.head?_drop, List.getElem?_eq_getElem hi', List.getD_eq_getElem?_getD, List.getElem?_eq_getElem hi']
      rfl
    rw [e]
    have hb : U32 (l.getD i 0) := by
      rw [List.getD_eq_getElem?_getD, List.getElem?_eq_getElem hi']
      exact ho _ (List.getElem_mem hi')
    have hwf : (Lit.int .u32 (l.getD i 0)).wf = true := by
      generalize l.getD i 0 = x at hb
      obtain ⟨h0, h1⟩ := hb
      simp [Lit.wf, IntKind.min, IntKind.max, IntKind.signed, IntKind.bits]
      omega
    unfold Program.keyLits
    rw [u45]
    simp only
    rw [if_pos ⟨trivial, hwf⟩])
  unfold Program.keyLits
  rw [u46]
  simp only
  rw [if_pos (by unfold wds; rw [List.length_map, c46, hl]), c45, hm]
  simp only [Option.map_some]
  rw [flat_one, range_getD l 256 hl]
theorem eq256 (a : List Int) (ha : a.length = 256) (oa : Wds a) (w : World) : (Op.equalIn 10000 46 (.agg (wds a).toArray) (.agg (wds a).toArray)).run Try.prog w = .ok true w := by
  have hk : Try.prog.keyTypeAt 2 46 = true := by kernel_rfl
  have fm : (Value.agg (wds a).toArray).formed Try.prog 46 = true := by
    have c46 : Try.prog.cellsOf 46 = 256 := by kernel_rfl
    simp [Value.formed, Try.underlying46, c46, wds, ha]
  obtain ⟨r, hr, hi⟩ := run_equalIn_deep (P := Try.prog) 9998 2 46 hk w 2 2 (.agg (wds a).toArray) (.agg (wds a).toArray) _ _ fm fm (by simpa [Value.cells] using keyLits256 a ha oa) (by simpa [Value.cells] using keyLits256 a ha oa)
  rw [hr, hi.2 rfl]
theorem size46 : (Try.prog.info? 46).map (·.size) = some 256 := by kernel_rfl
theorem wpList_load_midG {P : Program} {ops : Array Oper} {rest : List Oper} {op : Oper} {a : Act} {w : World} {Q : Exit → Act → World → Prop} (hgd : Region.wanted op (yielded ops a.tmps) = true) (ty : TypeId) (x : Operand) (ho : op.op = .load ty x)
    (b o : Nat) (hx : a.eval x = .pointer (some ⟨b, o, none⟩)) (cs : List Value) (d : TypeDesc) (hc : w.rangeAt b o cs)
    (hu : P.underlying ty = some d) (hd : d.isRow = true) (hi : (P.info? ty).map (·.size) = some cs.length)
    (h : wpList P ops Q rest (a.put op.dst (.agg cs.toArray)) w) : wpList P ops Q (op :: rest) a w :=
  wpList_want hgd fun _ hK => wp_load_mid ty x ho b o hx cs d hc hu hd hi (hK _ _ h)
theorem wpList_load_midA {P : Program} {ops : Array Oper} {rest : List Oper} {op : Oper} {a : Act} {w : World} {Q : Exit → Act → World → Prop} (hgd : Region.wanted op (yielded ops a.tmps) = true) (ty : TypeId) (x : Operand) (ho : op.op = .load ty x)
    (b o : Nat) (hx : a.eval x = .pointer (some ⟨b, o, none⟩)) (arr : Array Value) (d : TypeDesc) (hc : w.rangeAt b o arr.toList)
    (hu : P.underlying ty = some d) (hd : d.isRow = true) (hi : (P.info? ty).map (·.size) = some arr.toList.length)
    (h : wpList P ops Q rest (a.put op.dst (.agg arr)) w) : wpList P ops Q (op :: rest) a w :=
  wpList_load_midG hgd ty x ho b o hx arr.toList d hc hu hd hi h
theorem eg46 (x y : Operand) (c d : Array Value) (w : World) : (eqGuard .eql 46 x y (.agg c) (.agg d)).run Try.prog w = .ok () w := by
  have h : Try.prog.eqGuardType Try.prog.depth 46 = false := by kernel_rfl
  simp [eqGuard, go_sem, h]
theorem eb46 (c d : Array Value) (w : World) (heq : ∀ w, (Op.equalIn 10000 46 (.agg c) (.agg d)).run Try.prog w = .ok true w) : (binOp .eql 46 (.agg c) (.agg d)).run Try.prog w = .ok (.bool true) w := by
  simp [binOp, go_sem, Op.equal]
  rw [show Op.maxDepth = 10000 from rfl, heq]
  rfl
theorem wpList_eq46 {ops : Array Oper} {rest : List Oper} {op : Oper} {a : Act} {w : World} {Q : Exit → Act → World → Prop} (hgd : Region.wanted op (yielded ops a.tmps) = true) (x y : Operand) (r : TypeId) (ho : op.op = .binOp .eql 46 x y r)
    (c : Array Value) (hx : a.eval x = .agg c) (hy : a.eval y = .agg c) (heq : ∀ w, (Op.equalIn 10000 46 (.agg c) (.agg c)).run Try.prog w = .ok true w)
    (h : wpList Try.prog ops Q rest (a.put op.dst (.bool true)) w) : wpList Try.prog ops Q (op :: rest) a w := by
  refine wpList_want hgd fun K hK => ?_
  unfold Oper.wp execOp
  simp only [ho, hx, hy, Sem.run_bind, Sem.run_pure, Result.andThen_ok, eg46, eb46 c c w heq]
  exact hK _ _ h
theorem MBox.rrange {w : World} {g : Nat} {m : Mc} {vh vm : Value} (h : MBox w g m vh vm) : w.rangeAt g 5 (wds m.r) := fun j v hv => by
  unfold wds at hv
  rw [List.getElem?_map] at hv
  obtain ⟨x, hx, rfl⟩ := Option.map_eq_some_iff.1 hv
  exact h.cr hx
set_option maxRecDepth 100000 in
set_option maxHeartbeats 8000000 in
theorem same26 (s : St) (hm : s.m.ok) (Ah Am Bh Bm : Option Addr) (ch cm dh dm nh nm : Nat) (w : World) (hnh : nh = s.hs.length) (hnm : nm = s.ms.length) (h1 : Rd w Ah (s.hs.map (.int .u32))) (h2 : Rd w Am (s.ms.map (.int .u8))) (h3 : Rd w Bh (s.hs.map (.int .u32))) (h4 : Rd w Bm (s.ms.map (.int .u8))) (lh : nh ≤ 1000000000) (lm : nm ≤ 1000000000) :
    Calls Try.prog 26 #[.agg (s.m.cells (.slice Ah nh ch) (.slice Am nm cm)), .agg (s.m.cells (.slice Bh nh dh) (.slice Bm nm dm))] w (Quiet (.bool true) w) := by
  have sw : ∀ W, Below w.heap.size w W → Calls Try.prog 55 #[.slice Ah nh ch, .slice Bh nh dh] W (Quiet (.bool true) W) := fun W hW => by
    have h := sameWords_any s.hs s.hs Ah Bh nh nh ch dh W hnh hnh (h1.below hW rfl) (h3.below hW rfl) (by omega)
    rw [show decide (s.hs = s.hs) = true from decide_eq_true rfl] at h
    exact h.mono fun e w' ⟨x, y⟩ => ⟨x, y⟩
  have sb : ∀ W, Below w.heap.size w W → Calls Try.prog 33 #[.slice Am nm cm, .slice Bm nm dm] W (Quiet (.bool true) W) := fun W hW => by
    have h := sameBytes_any s.ms s.ms Am Bm nm nm cm dm W hnm hnm (h2.below hW rfl) (h4.below hW rfl) (by omega)
    rw [show decide (s.ms = s.ms) = true from decide_eq_true rfl] at h
    exact h.mono fun e w' ⟨x, y⟩ => ⟨x, y⟩
  have bx := (MBox.new hm w (.slice Ah nh ch) (.slice Am nm cm)).below ((Below.refl _ _).alloc (Nat.le_refl _) (.cells (s.m.cells (.slice Bh nh dh) (.slice Bm nm dm)) 50))
  have by' := MBox.new hm (w.alloc (.cells (s.m.cells (.slice Ah nh ch) (.slice Am nm cm)) 50)) (.slice Bh nh dh) (.slice Bm nm dm)
  rw [World.size_alloc] at by'
  have hb2 : Below w.heap.size w ((w.alloc (.cells (s.m.cells (.slice Ah nh ch) (.slice Am nm cm)) 50)).alloc (.cells (s.m.cells (.slice Bh nh dh) (.slice Bm nm dm)) 50)) := ((Below.refl _ _).alloc (Nat.le_refl _) _).alloc (by simp) _
  have heq := eq256 s.m.r hm.len hm.r
  obtain ⟨c1, hc1⟩ : ∃ x, s.m.cells (.slice Ah nh ch) (.slice Am nm cm) = x := ⟨_, rfl⟩
  obtain ⟨c2, hc2⟩ : ∃ x, s.m.cells (.slice Bh nh dh) (.slice Bm nm dm) = x := ⟨_, rfl⟩
  rw [hc1, hc2] at bx by' hb2 ⊢
  obtain ⟨W0, hW0⟩ : ∃ x, (w.alloc (.cells c1 50)).alloc (.cells c2 50) = x := ⟨_, rfl⟩
  rw [hW0] at bx by' hb2
  have x0 := bx.c0
  have x1 := bx.c1
  have x2 := bx.c2
  have x3 := bx.c3
  have x4 := bx.c4
  have x5 := bx.ch
  have x6 := bx.cm
  have y0 := by'.c0
  have y1 := by'.c1
  have y2 := by'.c2
  have y3 := by'.c3
  have y4 := by'.c4
  have y5 := by'.ch
  have y6 := by'.cm
  have hl : (Try.prog.info? 46).map (·.size) = some (wds s.m.r).length := by unfold wds; rw [List.length_map, hm.len]; exact size46
  obtain ⟨rs, hrs⟩ : ∃ x, (wds s.m.r).toArray = x := ⟨_, rfl⟩
  have hrl : wds s.m.r = rs.toList := by rw [← hrs]
  have X := Lib.hid bx
  have Y := Lib.hid by'
  have RX := Lib.hid bx.rrange
  have RY := Lib.hid by'.rrange
  rw [hrl] at RX RY hl
  rw [hrs] at heq
  have HL := Lib.hid hl
  have HEQ := Lib.hid heq
  have HB2 := Lib.hid hb2
  have HSW := Lib.hid sw
  have HSB := Lib.hid sb
  clear bx by' hb2 hl sw sb h1 h2 h3 h4 hm hc1 hc2 hrs hrl heq hnh hnm
  go_enter Try.func26, Try.ntmps26
  go_wp2_with (first
    | (go_at_call 55; refine (HSW.out _ HB2.out).mono ?_; rintro e w1 ⟨rfl, hb⟩; have p6 := (X.out.below hb).cm; have r6 := (Y.out.below hb).cm; have B1 := Lib.hid (ch0 HB2.out hb); clear hb)
    | (go_at_call 33; refine (HSB.out _ B1.out).mono ?_; rintro e w2 ⟨rfl, hb⟩; have B2 := Lib.hid (ch0 B1.out hb); clear hb)
    | (refine wpList_eq46 rfl (.tmp 40) (.tmp 42) _ rfl rs rfl rfl HEQ.out ?_; simp only [Act.put, List.setIfInBounds_toArray, List.set_cons_zero, List.set_cons_succ])
    | (refine wpList_load_midA rfl 46 (.tmp 39) rfl w.heap.size 5 rfl rs _ RX.out Try.underlying46 rfl HL.out ?_; simp only [Act.put, List.setIfInBounds_toArray, List.set_cons_zero, List.set_cons_succ])
    | (refine wpList_load_midA rfl 46 (.tmp 41) rfl (w.heap.size + 1) 5 rfl rs _ RY.out Try.underlying46 rfl HL.out ?_; simp only [Act.put, List.setIfInBounds_toArray, List.set_cons_zero, List.set_cons_succ]))
  go_ret
  exact ⟨rfl, B2.out⟩
end Go.Proofs.Ytebmgladdgmmeaa
