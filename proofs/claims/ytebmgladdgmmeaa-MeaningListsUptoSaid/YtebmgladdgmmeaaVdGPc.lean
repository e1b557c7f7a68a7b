/- The closures of a place: walks. No condition but the memory's. · A place as a pair of closures, said of any of them: plain over the walks. Condition: a right machine, a place from 0 to 6. · calc, of both: walks; no condition but the numbers' kinds. · operand, holds, of vm: walks. Condition: a right machine, a right operand. -/
import Derived.Test.YtebmgladdgmmeaaVdGPl
import Derived.BigRegion
namespace Go.Proofs.Ytebmgladdgmmeaa
open Go.RowKit Go.WideShapes
set_option linter.unusedVariables false
set_option linter.unusedSimpArgs false
theorem get86 (q b k : Nat) (x : Int) (w : World) (hq : Blk w q 121 #[.pointer (some ⟨b, k, none⟩)]) (hp : w.cell? ⟨b, k, none⟩ = some (.int .u32 x)) : Calls Try.prog 86 #[.pointer (some ⟨q, 0, none⟩)] w (Same (.int .u32 x) w) := by
  have q0 := hq.cell 0
  simp at q0
  clear hq
  go_enter Try.func86, Try.ntmps86
  go_wp2_with fail
  go_ret
  exact ⟨rfl, rfl⟩
theorem put87 (q b k : Nat) (x y : Int) (w : World) (hq : Blk w q 121 #[.pointer (some ⟨b, k, none⟩)]) (hp : w.cell? ⟨b, k, none⟩ = some (.int .u32 y)) (hf : w.frozen? ⟨b, k, none⟩ = false) : Calls Try.prog 87 #[.int .u32 x, .pointer (some ⟨q, 0, none⟩)] w (fun e w' => e = .returned (.tuple #[]) ∧ w' = w.setCell ⟨b, k, none⟩ (.int .u32 x)) := by
  have q0 := hq.cell 0
  simp at q0
  clear hq
  go_enter Try.func87, Try.ntmps87
  go_wp2_with fail
  exact bodyPost_end (v := .tuple #[]) (by simp [results, Try.results87, go_sem]) rfl ⟨rfl, rfl⟩
theorem get89 (q b k : Nat) (x : Int) (w : World) (hx : 0 ≤ x ∧ x ≤ 255) (hq : Blk w q 123 #[.pointer (some ⟨b, k, none⟩)]) (hp : w.cell? ⟨b, k, none⟩ = some (.int .u8 x)) : Calls Try.prog 89 #[.pointer (some ⟨q, 0, none⟩)] w (Same (.int .u32 x) w) := by
  have q0 := hq.cell 0
  have wx : IntKind.u32.wrap x = x := by rw [IntKind.wrap_u32]; omega
  simp at q0
  clear hq
  go_enter Try.func89, Try.ntmps89
  go_wp2_with fail
  go_ret
  exact ⟨rfl, rfl⟩
theorem put90 (q b k : Nat) (x y : Int) (w : World) (hx : U32 x) (hq : Blk w q 123 #[.pointer (some ⟨b, k, none⟩)]) (hp : w.cell? ⟨b, k, none⟩ = some (.int .u8 y)) (hf : w.frozen? ⟨b, k, none⟩ = false) : Calls Try.prog 90 #[.int .u32 x, .pointer (some ⟨q, 0, none⟩)] w (fun e w' => e = .returned (.tuple #[]) ∧ w' = w.setCell ⟨b, k, none⟩ (.int .u8 (x % 256))) := by
  have q0 := hq.cell 0
  have wx : IntKind.u8.wrap x = x % 256 := by rw [IntKind.wrap_u8]
  simp at q0
  clear hq
  go_enter Try.func90, Try.ntmps90
  go_wp2_with fail
  exact bodyPost_end (v := .tuple #[]) (by simp [results, Try.results90, go_sem]) rfl ⟨rfl, rfl⟩
/-- A pair of closures on one cell. -/
structure IsPair (fg fp : Nat) (t : TypeId) (p : Addr) (w0 : World) (e : Ending) (w : World) : Prop where
  ex : ∃ q, e = .returned (.tuple #[.func (.func fg) #[] #[.pointer (some ⟨q, 0, none⟩)], .func (.func fp) #[] #[.pointer (some ⟨q, 0, none⟩)]]) ∧ w0.heap.size ≤ q ∧ Blk w q t #[.pointer (some p)]
  low : Below w0.heap.size w0 w
theorem word85 (p : Addr) (w : World) : Calls Try.prog 85 #[.pointer (some p)] w (IsPair 86 87 121 p w) := by
  have hmf : ∀ (fn : Fn) (first cap : Array Value) (w : World), (Instr.makeFunc fn first cap).run Try.prog w = .ok (.func fn first cap) w := fun _ _ _ _ => rfl
  have HB := Lib.hid (Blk.new w 121 #[.pointer (some p)])
  go_enter Try.func85, Try.ntmps85
  go_wp2_with fail
  exact bodyPost_ret (v := .tuple #[.func (.func 86) #[] #[.pointer (some ⟨w.heap.size, 0, none⟩)], .func (.func 87) #[] #[.pointer (some ⟨w.heap.size, 0, none⟩)]]) (by simp [results, Try.results85, go_sem]) rfl ⟨⟨_, rfl, Nat.le_refl _, HB.out⟩, (Below.refl _ _).alloc (Nat.le_refl _) _⟩
set_option maxRecDepth 100000 in
set_option maxHeartbeats 2000000 in
theorem small88 (a : Int) (q0 g gh gm : Nat) (s : St) (ch cm : Nat) (w : World) (ha : U32 a) (hq : Blk w q0 89 #[.pointer (some ⟨g, 0, none⟩)]) (hv : Vm w g gh gm s ch cm) : Calls Try.prog 88 #[.int .u32 a, .pointer (some ⟨q0, 0, none⟩)] w (IsPair 89 90 123 ⟨gm, idx a s.ms.length, none⟩ w) := by
  have hmf : ∀ (fn : Fn) (first cap : Array Value) (w : World), (Instr.makeFunc fn first cap).run Try.prog w = .ok (.func fn first cap) w := fun _ _ _ _ => rfl
  have hp := hv.ok.p12
  have hle := pow_le hp
  have hpos := pow_pos hp
  have hmm := mask_mod a s.ms.length ha hp
  have hlt := idx_lt a hpos
  have c0 := hq.cell 0
  simp at c0
  have cm262 := hv.box.cm
  obtain ⟨n, hn⟩ : ∃ n, s.ms.length = n := ⟨_, rfl⟩
  rw [hn] at hle hpos hmm hlt cm262 ⊢
  obtain ⟨k, hk⟩ : ∃ k, idx a n = k := ⟨_, rfl⟩
  rw [hk] at hmm hlt ⊢
  have wn : IntKind.u32.wrap ((n : Int) - 1) = (n : Int) - 1 := by rw [IntKind.wrap_u32]; omega
  have hkn : (k : Int) < (n : Int) := by omega
  have HB := Lib.hid (Blk.new w.drew 123 #[.pointer (some ⟨gm, k, none⟩)])
  have HB2 := Lib.hid (Blk.new w 123 #[.pointer (some ⟨gm, k, none⟩)])
  have lt1 := hq.lt
  have lt2 := hv.box.lt
  clear hq hv hn hk hp
  go_enter Try.func88, Try.ntmps88
  go_wp2_with fail
  go_region
  go_wp2_with fail
  exact bodyPost_ret (v := .tuple #[.func (.func 89) #[] #[.pointer (some ⟨w.heap.size, 0, none⟩)], .func (.func 90) #[] #[.pointer (some ⟨w.heap.size, 0, none⟩)]]) (by simp [results, Try.results88, go_sem]) rfl ⟨⟨_, rfl, Nat.le_refl _, HB2.out.drew⟩, ((Below.refl _ _).alloc (Nat.le_refl _) _).drew⟩
theorem MBox.drew {w : World} {g : Nat} {m : Mc} {vh vm : Value} (h : MBox w g m vh vm) : MBox w.drew g m vh vm := ⟨h.blk.drew, h.ok⟩
/-- Which closures a place has, and where it lies. -/
def kindP (n : Int) : Bool := n == 4 || n == 5
def addrP (g gh gm : Nat) (n : Int) (s : St) : Addr :=
  if n = 0 then ⟨g, 0, none⟩ else if n = 1 then ⟨g, 1, none⟩ else if n = 2 then ⟨g, 2, none⟩ else if n = 3 then ⟨g, 3, none⟩ else
  if n = 4 then ⟨gm, idx s.m.b s.ms.length, none⟩ else if n = 5 then ⟨gm, idx s.m.c s.ms.length, none⟩ else ⟨gh, idx s.m.d s.hs.length, none⟩
def PairP (n : Int) (g gh gm : Nat) (s : St) (w0 : World) (e : Ending) (w : World) : Prop :=
  IsPair (if kindP n then 89 else 86) (if kindP n then 90 else 87) (if kindP n then 123 else 121) (addrP g gh gm n s) w0 e w
set_option maxRecDepth 100000 in
set_option maxHeartbeats 4000000 in
theorem place76_0 (g gh gm : Nat) (s : St) (w : World) : Calls Try.prog 76 #[.pointer (some ⟨g, 0, none⟩), .int .i64 0] w (PairP 0 g gh gm s w) := by
  have hmf : ∀ (fn : Fn) (first cap : Array Value) (w : World), (Instr.makeFunc fn first cap).run Try.prog w = .ok (.func fn first cap) w := fun _ _ _ _ => rfl
  go_enter Try.func76, Try.ntmps76
  go_wp2_with fail
  refine (word85 _ _).mono ?_
  rintro e w1 ⟨⟨q, rfl, hq, hb⟩, hl⟩
  have HB := Lib.hid hb
  have HQ := Lib.hid hq
  have HL := Lib.hid (((Below.refl w.heap.size w).alloc (Nat.le_refl _) (.cells #[.pointer (some ⟨g, 0, none⟩)] 89)).trans (hl.mono (by simp)))
  clear hb hl hq
  go_wp2_with fail
  exact bodyPost_ret (v := .tuple #[.func (.func 86) #[] #[.pointer (some ⟨q, 0, none⟩)], .func (.func 87) #[] #[.pointer (some ⟨q, 0, none⟩)]]) (by simp [results, Try.results76, go_sem]) rfl ⟨⟨q, rfl, by have := HQ.out; simp at this; omega, HB.out⟩, HL.out⟩
set_option maxRecDepth 100000 in
set_option maxHeartbeats 4000000 in
theorem place76_1 (g gh gm : Nat) (s : St) (w : World) : Calls Try.prog 76 #[.pointer (some ⟨g, 0, none⟩), .int .i64 1] w (PairP 1 g gh gm s w) := by
  have hmf : ∀ (fn : Fn) (first cap : Array Value) (w : World), (Instr.makeFunc fn first cap).run Try.prog w = .ok (.func fn first cap) w := fun _ _ _ _ => rfl
  go_enter Try.func76, Try.ntmps76
  go_wp2_with fail
  refine (word85 _ _).mono ?_
  rintro e w1 ⟨⟨q, rfl, hq, hb⟩, hl⟩
  have HB := Lib.hid hb
  have HQ := Lib.hid hq
  have HL := Lib.hid (((Below.refl w.heap.size w).alloc (Nat.le_refl _) (.cells #[.pointer (some ⟨g, 0, none⟩)] 89)).trans (hl.mono (by simp)))
  clear hb hl hq
  go_wp2_with fail
  exact bodyPost_ret (v := .tuple #[.func (.func 86) #[] #[.pointer (some ⟨q, 0, none⟩)], .func (.func 87) #[] #[.pointer (some ⟨q, 0, none⟩)]]) (by simp [results, Try.results76, go_sem]) rfl ⟨⟨q, rfl, by have := HQ.out; simp at this; omega, HB.out⟩, HL.out⟩
set_option maxRecDepth 100000 in
set_option maxHeartbeats 4000000 in
theorem place76_2 (g gh gm : Nat) (s : St) (w : World) : Calls Try.prog 76 #[.pointer (some ⟨g, 0, none⟩), .int .i64 2] w (PairP 2 g gh gm s w) := by
  have hmf : ∀ (fn : Fn) (first cap : Array Value) (w : World), (Instr.makeFunc fn first cap).run Try.prog w = .ok (.func fn first cap) w := fun _ _ _ _ => rfl
  go_enter Try.func76, Try.ntmps76
  go_wp2_with fail
  refine (word85 _ _).mono ?_
  rintro e w1 ⟨⟨q, rfl, hq, hb⟩, hl⟩
  have HB := Lib.hid hb
  have HQ := Lib.hid hq
  have HL := Lib.hid (((Below.refl w.heap.size w).alloc (Nat.le_refl _) (.cells #[.pointer (some ⟨g, 0, none⟩)] 89)).trans (hl.mono (by simp)))
  clear hb hl hq
  go_wp2_with fail
  exact bodyPost_ret (v := .tuple #[.func (.func 86) #[] #[.pointer (some ⟨q, 0, none⟩)], .func (.func 87) #[] #[.pointer (some ⟨q, 0, none⟩)]]) (by simp [results, Try.results76, go_sem]) rfl ⟨⟨q, rfl, by have := HQ.out; simp at this; omega, HB.out⟩, HL.out⟩
set_option maxRecDepth 100000 in
set_option maxHeartbeats 4000000 in
theorem place76_3 (g gh gm : Nat) (s : St) (w : World) : Calls Try.prog 76 #[.pointer (some ⟨g, 0, none⟩), .int .i64 3] w (PairP 3 g gh gm s w) := by
  have hmf : ∀ (fn : Fn) (first cap : Array Value) (w : World), (Instr.makeFunc fn first cap).run Try.prog w = .ok (.func fn first cap) w := fun _ _ _ _ => rfl
  go_enter Try.func76, Try.ntmps76
  go_wp2_with fail
  refine (word85 _ _).mono ?_
  rintro e w1 ⟨⟨q, rfl, hq, hb⟩, hl⟩
  have HB := Lib.hid hb
  have HQ := Lib.hid hq
  have HL := Lib.hid (((Below.refl w.heap.size w).alloc (Nat.le_refl _) (.cells #[.pointer (some ⟨g, 0, none⟩)] 89)).trans (hl.mono (by simp)))
  clear hb hl hq
  go_wp2_with fail
  exact bodyPost_ret (v := .tuple #[.func (.func 86) #[] #[.pointer (some ⟨q, 0, none⟩)], .func (.func 87) #[] #[.pointer (some ⟨q, 0, none⟩)]]) (by simp [results, Try.results76, go_sem]) rfl ⟨⟨q, rfl, by have := HQ.out; simp at this; omega, HB.out⟩, HL.out⟩
set_option maxRecDepth 100000 in
set_option maxHeartbeats 4000000 in
theorem place76_4 (g gh gm : Nat) (s : St) (ch cm : Nat) (w : World) (hv : Vm w g gh gm s ch cm) : Calls Try.prog 76 #[.pointer (some ⟨g, 0, none⟩), .int .i64 4] w (PairP 4 g gh gm s w) := by
  have hmf : ∀ (fn : Fn) (first cap : Array Value) (w : World), (Instr.makeFunc fn first cap).run Try.prog w = .ok (.func fn first cap) w := fun _ _ _ _ => rfl
  have hbx := Blk.new w 89 #[.pointer (some ⟨g, 0, none⟩)]
  have hc := small88 s.m.b w.heap.size g gh gm s ch cm (w.alloc (.cells #[.pointer (some ⟨g, 0, none⟩)] 89)) hv.ok.m.b hbx (hv.below ((Below.refl _ _).alloc (Nat.le_refl _) _))
  have c1 := hv.box.c1
  have lt := hv.box.lt
  have HC := Lib.hid hc
  clear hbx hc hv
  go_enter Try.func76, Try.ntmps76
  go_wp2_with fail
  refine HC.out.mono ?_
  rintro e w1 ⟨⟨q, rfl, hq, hb⟩, hl⟩
  have HB := Lib.hid hb
  have HQ := Lib.hid hq
  have HL := Lib.hid (((Below.refl w.heap.size w).alloc (Nat.le_refl _) (.cells #[.pointer (some ⟨g, 0, none⟩)] 89)).trans (hl.mono (by simp)))
  clear hb hl hq HC
  go_wp2_with fail
  exact bodyPost_ret (v := .tuple #[.func (.func 89) #[] #[.pointer (some ⟨q, 0, none⟩)], .func (.func 90) #[] #[.pointer (some ⟨q, 0, none⟩)]]) (by simp [results, Try.results76, go_sem]) rfl ⟨⟨q, rfl, by have := HQ.out; simp at this; omega, HB.out⟩, HL.out⟩
set_option maxRecDepth 100000 in
set_option maxHeartbeats 4000000 in
theorem place76_5 (g gh gm : Nat) (s : St) (ch cm : Nat) (w : World) (hv : Vm w g gh gm s ch cm) : Calls Try.prog 76 #[.pointer (some ⟨g, 0, none⟩), .int .i64 5] w (PairP 5 g gh gm s w) := by
  have hmf : ∀ (fn : Fn) (first cap : Array Value) (w : World), (Instr.makeFunc fn first cap).run Try.prog w = .ok (.func fn first cap) w := fun _ _ _ _ => rfl
  have hbx := Blk.new w 89 #[.pointer (some ⟨g, 0, none⟩)]
  have hc := small88 s.m.c w.heap.size g gh gm s ch cm (w.alloc (.cells #[.pointer (some ⟨g, 0, none⟩)] 89)) hv.ok.m.c hbx (hv.below ((Below.refl _ _).alloc (Nat.le_refl _) _))
  have c1 := hv.box.c2
  have lt := hv.box.lt
  have HC := Lib.hid hc
  clear hbx hc hv
  go_enter Try.func76, Try.ntmps76
  go_wp2_with fail
  refine HC.out.mono ?_
  rintro e w1 ⟨⟨q, rfl, hq, hb⟩, hl⟩
  have HB := Lib.hid hb
  have HQ := Lib.hid hq
  have HL := Lib.hid (((Below.refl w.heap.size w).alloc (Nat.le_refl _) (.cells #[.pointer (some ⟨g, 0, none⟩)] 89)).trans (hl.mono (by simp)))
  clear hb hl hq HC
  go_wp2_with fail
  exact bodyPost_ret (v := .tuple #[.func (.func 89) #[] #[.pointer (some ⟨q, 0, none⟩)], .func (.func 90) #[] #[.pointer (some ⟨q, 0, none⟩)]]) (by simp [results, Try.results76, go_sem]) rfl ⟨⟨q, rfl, by have := HQ.out; simp at this; omega, HB.out⟩, HL.out⟩
set_option maxRecDepth 100000 in
set_option maxHeartbeats 4000000 in
theorem place76_6 (g gh gm : Nat) (s : St) (ch cm : Nat) (w : World) (hv : Vm w g gh gm s ch cm) : Calls Try.prog 76 #[.pointer (some ⟨g, 0, none⟩), .int .i64 6] w (PairP 6 g gh gm s w) := by
  have hmf : ∀ (fn : Fn) (first cap : Array Value) (w : World), (Instr.makeFunc fn first cap).run Try.prog w = .ok (.func fn first cap) w := fun _ _ _ _ => rfl
  have hp := pow_up hv.ok.p8
  have hle := pow_le hp
  have hpos := pow_pos hp
  have hmm := mask_mod s.m.d s.hs.length hv.ok.m.d hp
  have hlt := idx_lt s.m.d hpos
  have c3 := hv.box.c3
  have ch261 := hv.box.ch
  have lt := hv.box.lt
  have hpp : PairP 6 g gh gm s = IsPair 86 87 121 ⟨gh, idx s.m.d s.hs.length, none⟩ := rfl
  rw [hpp]
  obtain ⟨n, hn⟩ : ∃ n, s.hs.length = n := ⟨_, rfl⟩
  rw [hn] at hle hpos hmm hlt ch261 ⊢
  obtain ⟨k, hk⟩ : ∃ k, idx s.m.d n = k := ⟨_, rfl⟩
  rw [hk] at hmm hlt ⊢
  obtain ⟨dd, hdd⟩ : ∃ x, s.m.d = x := ⟨_, rfl⟩
  rw [hdd] at hmm c3
  have HDD := Lib.hid hdd
  have hk0 : (0 : Int) ≤ (k : Int) := by omega
  have hkl : (k : Int) ≤ (n : Int) := by omega
  have hk1 : (1 : Int) ≤ (n : Int) := by omega
  have wi : IntKind.i64.wrap ((n : Int) - 1) = (n : Int) - 1 := IntWalk.i64_in _ (by omega)
  have ktn : ((k : Int)).toNat = k := by omega
  have wn : IntKind.u32.wrap ((n : Int) - 1) = (n : Int) - 1 := by rw [IntKind.wrap_u32]; omega
  have hkn : (k : Int) < (n : Int) := by omega
  have cq : (w.alloc (.cells #[.pointer (some ⟨g, 0, none⟩)] 89)).cell? ⟨w.heap.size, 0, none⟩ = some (.pointer (some ⟨g, 0, none⟩)) := (Blk.new w 89 #[.pointer (some ⟨g, 0, none⟩)]).cell 0
  have HBX := Lib.hid (Blk.new w 89 #[.pointer (some ⟨g, 0, none⟩)])
  have HV := Lib.hid (hv.box.below ((Below.refl w.heap.size w).alloc (Nat.le_refl _) (.cells #[.pointer (some ⟨g, 0, none⟩)] 89)))
  have HN := Lib.hid hn
  clear hv hn hk hp hpp cq hdd
  go_enter Try.func76, Try.ntmps76
  go_wp2_with fail
  go_region_held3 (fun w' => w'.cell? ⟨w.heap.size, 0, none⟩ = some (.pointer (some ⟨g, 0, none⟩)) ∧ w'.cell? ⟨g, 261, none⟩ = some (.slice (some ⟨gh, 0, none⟩) n ch) ∧ w'.cell? ⟨g, 3, none⟩ = some (.int .u32 dd)) (first | exact ⟨k0, k1, k2⟩ | go_keep) ((go_at_call 85; refine (word85 _ _).mono ?_; rintro e w1 ⟨⟨q, rfl, hq, hb⟩, hl⟩; have k0 := ((HBX.out.drew).below hl).cell 0; have k1 := ((HV.out.drew).below hl).ch; have k2 := ((HV.out.drew).below hl).c3; rw [HN.out] at k1; rw [HDD.out] at k2; simp at k0; have HB := Lib.hid hb; have HQ := Lib.hid hq; have HL := Lib.hid (((Below.refl w.heap.size w).alloc (Nat.le_refl _) (.cells #[.pointer (some ⟨g, 0, none⟩)] 89)).drew.trans (hl.mono (by simp))); clear hb hl hq))
  all_goals
    go_wp2_with fail
    exact bodyPost_ret (v := .tuple #[.func (.func 86) #[] #[.pointer (some ⟨q, 0, none⟩)], .func (.func 87) #[] #[.pointer (some ⟨q, 0, none⟩)]]) (by simp [results, Try.results76, go_sem]) rfl ⟨⟨q, rfl, by have := HQ.out; simp at this; omega, HB.out⟩, HL.out⟩
end Go.Proofs.Ytebmgladdgmmeaa
namespace Go.Proofs.Ytebmgladdgmmeaa
open Go.RowKit Go.WideShapes
set_option linter.unusedVariables false
set_option linter.unusedSimpArgs false
theorem run_enter {P : Program} {f : FuncId} {fn : Func} {c : Code} (hf : P.funcs[f]? = some fn) (hname : (fn.name == "runtime.NumGoroutine") = false) (hb : fn.body = some c) (args : Array Value) (w : World) :
    (callFunc f args).run P w = .ok (.enter f args) w := by
  simp [callFunc, go_sem, hf, hb]
  simp at hname
  simp [hname, go_sem]
theorem enter86 (args : Array Value) (w : World) : (callFunc 86 args).run Try.prog w = .ok (.enter 86 args) w := run_enter (fn := Try.f86) (by kernel_rfl) (by kernel_rfl) rfl args w
theorem enter87 (args : Array Value) (w : World) : (callFunc 87 args).run Try.prog w = .ok (.enter 87 args) w := run_enter (fn := Try.f87) (by kernel_rfl) (by kernel_rfl) rfl args w
theorem enter89 (args : Array Value) (w : World) : (callFunc 89 args).run Try.prog w = .ok (.enter 89 args) w := run_enter (fn := Try.f89) (by kernel_rfl) (by kernel_rfl) rfl args w
theorem enter90 (args : Array Value) (w : World) : (callFunc 90 args).run Try.prog w = .ok (.enter 90 args) w := run_enter (fn := Try.f90) (by kernel_rfl) (by kernel_rfl) rfl args w
structure Placed (g gh gm : Nat) (s : St) (ch cm : Nat) (n : Int) (fg fp q : Nat) (w : World) : Prop where
  get : ∀ W, Below w.heap.size w W → Calls Try.prog fg #[.pointer (some ⟨q, 0, none⟩)] W (Same (.int .u32 (getP n s)) W)
  eg : ∀ args W, (callFunc fg args).run Try.prog W = .ok (.enter fg args) W
  ep : ∀ args W, (callFunc fp args).run Try.prog W = .ok (.enter fp args) W
  put : ∀ x W, U32 x → Below w.heap.size w W → Calls Try.prog fp #[.int .u32 x, .pointer (some ⟨q, 0, none⟩)] W (fun e w' => e = .returned (.tuple #[]) ∧ Vm w' g gh gm (setP n x s) ch cm ∧ Frm (Sg g gh gm) W w')
structure IsPlaced (g gh gm : Nat) (s : St) (ch cm : Nat) (n : Int) (w0 : World) (e : Ending) (w : World) : Prop where
  ex : ∃ fg fp q, e = .returned (.tuple #[.func (.func fg) #[] #[.pointer (some ⟨q, 0, none⟩)], .func (.func fp) #[] #[.pointer (some ⟨q, 0, none⟩)]]) ∧ Placed g gh gm s ch cm n fg fp q w
  low : Below w0.heap.size w0 w
section
variable {w : World} {g gh gm ch cm : Nat} {s : St}
theorem Vm.gh_ne (h : Vm w g gh gm s ch cm) : gh ≠ g := h.hrow.ne h.box.blk (by decide)
theorem Vm.gm_ne (h : Vm w g gh gm s ch cm) : gm ≠ g := h.mrow.ne h.box.blk (by decide)
theorem Vm.hm_ne (h : Vm w g gh gm s ch cm) : gh ≠ gm := by
  obtain ⟨cur, h1, _⟩ := h.mrow
  exact h.hrow.ne h1 (by decide)
/-- A cell of the box is written. -/
theorem Vm.reg (h : Vm w g gh gm s ch cm) (k : Nat) (u : Value) (m' : Mc) (hm : m'.ok) (he : ∀ vh vm, (s.m.cells vh vm).setIfInBounds k u = m'.cells vh vm) : Vm (w.setCell ⟨g, k, none⟩ u) g gh gm { s with m := m' } ch cm := by
  have hf : Frm (fun k => k = g) w (w.setCell ⟨g, k, none⟩ u) := Frm.setCell (S := fun k => k = g) (p := ⟨g, k, none⟩) (Frm.refl _ _) (fun _ => rfl) u
  exact ⟨⟨by rw [← he]; exact h.box.blk.set k u, hm⟩, h.hrow.frm hf h.gh_ne, h.mrow.frm hf h.gm_ne, ⟨hm, h.ok.hw, h.ok.mo, h.ok.right⟩⟩
theorem Vm.setH (h : Vm w g gh gm s ch cm) (k : Nat) (x : Int) (hx : U32 x) : Vm (w.setCell ⟨gh, k, none⟩ (.int .u32 x)) g gh gm { s with hs := s.hs.set k x } ch cm := by
  have hf : Frm (fun k => k = gh) w (w.setCell ⟨gh, k, none⟩ (.int .u32 x)) := Frm.setCell (S := fun k => k = gh) (p := ⟨gh, k, none⟩) (Frm.refl _ _) (fun _ => rfl) _
  refine ⟨⟨?_, h.ok.m⟩, ?_, h.mrow.frm hf (fun e => h.hm_ne e.symm), ⟨h.ok.m, mem_set h.ok.hw hx, h.ok.mo, by simpa using h.ok.right⟩⟩
  · simpa using h.box.blk.frm hf (fun e => h.gh_ne e.symm)
  · have := h.hrow.set k (.int .u32 x)
    rw [← List.map_set] at this
    exact this
theorem Vm.setM (h : Vm w g gh gm s ch cm) (k : Nat) (x : Int) (hx : 0 ≤ x ∧ x ≤ 255) : Vm (w.setCell ⟨gm, k, none⟩ (.int .u8 x)) g gh gm { s with ms := s.ms.set k x } ch cm := by
  have hf : Frm (fun k => k = gm) w (w.setCell ⟨gm, k, none⟩ (.int .u8 x)) := Frm.setCell (S := fun k => k = gm) (p := ⟨gm, k, none⟩) (Frm.refl _ _) (fun _ => rfl) _
  refine ⟨⟨?_, h.ok.m⟩, h.hrow.frm hf h.hm_ne, ?_, ⟨h.ok.m, h.ok.hw, mem_set h.ok.mo hx, by simpa using h.ok.right⟩⟩
  · simpa using h.box.blk.frm hf (fun e => h.gm_ne e.symm)
  · have := h.mrow.set k (.int .u8 x)
    rw [← List.map_set] at this
    exact this
theorem Vm.hcell (h : Vm w g gh gm s ch cm) (x : Int) : w.cell? ⟨gh, idx x s.hs.length, none⟩ = some (.int .u32 (s.hs.getD (idx x s.hs.length) 0)) := by
  have hl := idx_lt x (pow_pos h.ok.p8)
  refine h.hrow.cell ?_
  rw [List.getElem?_map, List.getD_eq_getElem?_getD, List.getElem?_eq_getElem hl]
  rfl
theorem Vm.mcell (h : Vm w g gh gm s ch cm) (x : Int) : w.cell? ⟨gm, idx x s.ms.length, none⟩ = some (.int .u8 (s.ms.getD (idx x s.ms.length) 0)) := by
  have hl := idx_lt x (pow_pos h.ok.p12)
  refine h.mrow.cell ?_
  rw [List.getElem?_map, List.getD_eq_getElem?_getD, List.getElem?_eq_getElem hl]
  rfl
theorem getD_oct {l : List Int} (h : Oct l) (k : Nat) : 0 ≤ l.getD k 0 ∧ l.getD k 0 ≤ 255 := by
  rw [List.getD_eq_getElem?_getD]
  rcases hx : l[k]? with _ | x
  · simp
  · exact h x (List.mem_of_getElem? hx)
theorem placed_word (hv : Vm w g gh gm s ch cm) (n : Int) (q b k : Nat) (hq : Blk w q 121 #[.pointer (some ⟨b, k, none⟩)]) (hs : Sg g gh gm b) (hlt : b < w.heap.size)
    (hc : w.cell? ⟨b, k, none⟩ = some (.int .u32 (getP n s))) (hf : w.frozen? ⟨b, k, none⟩ = false) (hset : ∀ x W, U32 x → Vm W g gh gm s ch cm → Vm (W.setCell ⟨b, k, none⟩ (.int .u32 x)) g gh gm (setP n x s) ch cm) : Placed g gh gm s ch cm n 86 87 q w := by
  refine ⟨fun W hW => get86 q b k _ W (hq.below hW) ?_, enter86, enter87, fun x W hx hW => ?_⟩
  · rw [(bcell hW).1 b k hlt]; exact hc
  · refine (put87 q b k x _ W (hq.below hW) (by rw [(bcell hW).1 b k hlt]; exact hc) (by rw [(bcell hW).2 b k hlt]; exact hf)).mono ?_
    rintro e w' ⟨rfl, rfl⟩
    exact ⟨rfl, hset x W hx (hv.below hW), Frm.setCell (S := Sg g gh gm) (p := ⟨b, k, none⟩) (Frm.refl _ _) (fun _ => hs) _⟩
theorem placed_small (hv : Vm w g gh gm s ch cm) (n : Int) (q k : Nat) (hq : Blk w q 123 #[.pointer (some ⟨gm, k, none⟩)])
    (hr : 0 ≤ getP n s ∧ getP n s ≤ 255) (hc : w.cell? ⟨gm, k, none⟩ = some (.int .u8 (getP n s))) (he : ∀ x, setP n x s = { s with ms := s.ms.set k (x % 256) }) : Placed g gh gm s ch cm n 89 90 q w := by
  have hlt := hv.mrow.lt
  refine ⟨fun W hW => get89 q gm k _ W hr (hq.below hW) ?_, enter89, enter90, fun x W hx hW => ?_⟩
  · rw [(bcell hW).1 gm k hlt]; exact hc
  · refine (put90 q gm k x _ W hx (hq.below hW) (by rw [(bcell hW).1 gm k hlt]; exact hc) (by rw [(bcell hW).2 gm k hlt]; exact hv.mrow.fz k)).mono ?_
    rintro e w' ⟨rfl, rfl⟩
    refine ⟨rfl, ?_, Frm.setCell (S := Sg g gh gm) (p := ⟨gm, k, none⟩) (Frm.refl _ _) (fun _ => .inr (.inr rfl)) _⟩
    rw [he]
    exact (hv.below hW).setM k (x % 256) (by omega)
/-- place, for any place. -/
theorem place_any (n : Int) (hn : 0 ≤ n ∧ n ≤ 6) (w : World) (hv : Vm w g gh gm s ch cm) : Calls Try.prog 76 #[.pointer (some ⟨g, 0, none⟩), .int .i64 n] w (IsPlaced g gh gm s ch cm n w) := by
  have hw : ∀ k : Nat, k ≤ 3 → (n = (k : Int)) → addrP g gh gm n s = ⟨g, k, none⟩ := fun k hk e => by
    subst e
    rcases (show k = 0 ∨ k = 1 ∨ k = 2 ∨ k = 3 from by omega) with rfl | rfl | rfl | rfl <;> rfl
  rcases (show n = 0 ∨ n = 1 ∨ n = 2 ∨ n = 3 ∨ n = 4 ∨ n = 5 ∨ n = 6 from by omega) with rfl | rfl | rfl | rfl | rfl | rfl | rfl
  · refine (place76_0 g gh gm s w).mono ?_
    rintro e w' ⟨⟨q, rfl, _, hb⟩, hl⟩
    exact ⟨⟨_, _, q, rfl, placed_word (hv.below hl) 0 q g 0 hb (.inl rfl) (hv.below hl).box.lt (hv.below hl).box.c0 ((hv.below hl).box.fz 0) (fun x W hx hW => hW.reg 0 _ _ (setP_ok hW.ok 0 hx).m (fun _ _ => (Mc.set_reg _ _ x).1))⟩, hl⟩
  · refine (place76_1 g gh gm s w).mono ?_
    rintro e w' ⟨⟨q, rfl, _, hb⟩, hl⟩
    exact ⟨⟨_, _, q, rfl, placed_word (hv.below hl) 1 q g 1 hb (.inl rfl) (hv.below hl).box.lt (hv.below hl).box.c1 ((hv.below hl).box.fz 1) (fun x W hx hW => hW.reg 1 _ _ (setP_ok hW.ok 1 hx).m (fun _ _ => (Mc.set_reg _ _ x).2.1))⟩, hl⟩
  · refine (place76_2 g gh gm s w).mono ?_
    rintro e w' ⟨⟨q, rfl, _, hb⟩, hl⟩
    exact ⟨⟨_, _, q, rfl, placed_word (hv.below hl) 2 q g 2 hb (.inl rfl) (hv.below hl).box.lt (hv.below hl).box.c2 ((hv.below hl).box.fz 2) (fun x W hx hW => hW.reg 2 _ _ (setP_ok hW.ok 2 hx).m (fun _ _ => (Mc.set_reg _ _ x).2.2.1))⟩, hl⟩
  · refine (place76_3 g gh gm s w).mono ?_
    rintro e w' ⟨⟨q, rfl, _, hb⟩, hl⟩
    exact ⟨⟨_, _, q, rfl, placed_word (hv.below hl) 3 q g 3 hb (.inl rfl) (hv.below hl).box.lt (hv.below hl).box.c3 ((hv.below hl).box.fz 3) (fun x W hx hW => hW.reg 3 _ _ (setP_ok hW.ok 3 hx).m (fun _ _ => (Mc.set_reg _ _ x).2.2.2.1))⟩, hl⟩
  · refine (place76_4 g gh gm s ch cm w hv).mono ?_
    rintro e w' ⟨⟨q, rfl, _, hb⟩, hl⟩
    exact ⟨⟨_, _, q, rfl, placed_small (hv.below hl) 4 q _ hb (getD_oct hv.ok.mo _) ((hv.below hl).mcell _) (fun _ => rfl)⟩, hl⟩
  · refine (place76_5 g gh gm s ch cm w hv).mono ?_
    rintro e w' ⟨⟨q, rfl, _, hb⟩, hl⟩
    exact ⟨⟨_, _, q, rfl, placed_small (hv.below hl) 5 q _ hb (getD_oct hv.ok.mo _) ((hv.below hl).mcell _) (fun _ => rfl)⟩, hl⟩
  · refine (place76_6 g gh gm s ch cm w hv).mono ?_
    rintro e w' ⟨⟨q, rfl, _, hb⟩, hl⟩
    exact ⟨⟨_, _, q, rfl, placed_word (hv.below hl) 6 q gh _ hb (.inr (.inl rfl)) (hv.below hl).hrow.lt ((hv.below hl).hcell _) ((hv.below hl).hrow.fz _) (fun x W hx hW => hW.setH _ x hx)⟩, hl⟩
end
end Go.Proofs.Ytebmgladdgmmeaa
namespace Go.Proofs.Ytebmgladdgmmeaa
open Go.RowKit Go.WideShapes
set_option linter.unusedVariables false
set_option linter.unusedSimpArgs false
/-- OAdd to OShr. -/
def calcV (k a x : Int) : Int :=
  if k = 8 then (a + x) % 4294967296 else if k = 9 then (a - x) % 4294967296 else if k = 10 then a * x % 4294967296 else
  if k = 11 then (if x = 0 then 0 else a.tdiv x % 4294967296) else if k = 12 then (if x = 0 then 0 else a.tmod x) else
  if k = 13 then bits .and .u32 a x else if k = 14 then bits .andNot .u32 a x else if k = 15 then bits .or .u32 a x else if k = 16 then bits .xor .u32 a x else
  if k = 17 then a * 2 ^ (x % 32).toNat % 4294967296 else a / 2 ^ (x % 32).toNat
theorem bits_u32 (op : BinOp) (a x : Int) : ∃ n : Int, bits op .u32 a x = IntKind.u32.wrap n := by
  unfold bits
  exact ⟨_, rfl⟩
theorem wrap_range (n : Int) : U32 (IntKind.u32.wrap n) := by
  rw [IntKind.wrap_u32]
  unfold U32
  omega
theorem bits_range (op : BinOp) (a x : Int) : U32 (bits op .u32 a x) := by
  obtain ⟨n, h⟩ := bits_u32 op a x
  rw [h]
  exact wrap_range n
theorem mod_range (n : Int) : U32 (n % 4294967296) := by unfold U32; omega
theorem calcV_u32 (k : Int) {a x : Int} (ha : U32 a) (hx : U32 x) : U32 (calcV k a x) := by
  unfold calcV
  split
  · exact mod_range _
  split
  · exact mod_range _
  split
  · exact mod_range _
  split
  · split
    · exact u32_0
    · exact mod_range _
  split
  · split
    · exact u32_0
    · rename_i h
      have h1 := Int.tmod_nonneg x ha.1
      have h2 := Int.tmod_lt_of_pos a (show 0 < x by have := hx.1; omega)
      have := hx.2
      exact ⟨h1, by omega⟩
  split
  · exact bits_range _ _ _
  split
  · exact bits_range _ _ _
  split
  · exact bits_range _ _ _
  split
  · exact bits_range _ _ _
  split
  · exact mod_range _
  · have h1 : (0 : Int) < 2 ^ (x % 32).toNat := Int.pow_pos (by omega)
    have h2 := Int.ediv_le_self (2 ^ (x % 32).toNat) ha.1
    have h3 := Int.ediv_nonneg ha.1 (Int.le_of_lt h1)
    have := ha.2
    exact ⟨h3, by omega⟩
theorem mask31 {x : Int} (hx : U32 x) : bits .and .u32 x 31 = x % 32 := by
  have h := bits_mask .u32 32 (by decide) (fun n h0 h1 => by rw [IntKind.wrap_u32]; omega) 5 (by decide) x hx.1 (by have := hx.2; omega)
  simpa using h
theorem andnot_eq {a x : Int} (hx : U32 x) : bits .and .u32 a ((4294967295 - x) % 4294967296) = bits .andNot .u32 a x := by
  have e : BitVec.ofInt 32 ((4294967295 - x) % 4294967296) = ~~~ BitVec.ofInt 32 x := by
    apply BitVec.eq_of_toNat_eq
    rw [BitVec.toNat_not, BitVec.toNat_ofInt, BitVec.toNat_ofInt]
    obtain ⟨h0, h1⟩ := hx
    omega
  show IntKind.u32.wrap ((BitVec.ofInt 32 a &&& BitVec.ofInt 32 ((4294967295 - x) % 4294967296)).toNat : Int) = IntKind.u32.wrap ((BitVec.ofInt 32 a &&& ~~~ BitVec.ofInt 32 x).toNat : Int)
  rw [e]
theorem c74_8 (a : Int) (x : Int) (w : World) : Calls Try.prog 74 #[.int .u8 8, .int .u32 a, .int .u32 x] w (fun e w' => e = .returned (.int .u32 (calcV 8 a x)) ∧ w = w') := by
  go_enter Try.func74, Try.ntmps74
  go_wp2_with fail
  go_ret
  exact ⟨by rfl, rfl⟩
theorem c74_9 (a : Int) (x : Int) (w : World) : Calls Try.prog 74 #[.int .u8 9, .int .u32 a, .int .u32 x] w (fun e w' => e = .returned (.int .u32 (calcV 9 a x)) ∧ w = w') := by
  go_enter Try.func74, Try.ntmps74
  go_wp2_with fail
  go_ret
  exact ⟨by rfl, rfl⟩
theorem c74_10 (a : Int) (x : Int) (w : World) : Calls Try.prog 74 #[.int .u8 10, .int .u32 a, .int .u32 x] w (fun e w' => e = .returned (.int .u32 (calcV 10 a x)) ∧ w = w') := by
  go_enter Try.func74, Try.ntmps74
  go_wp2_with fail
  go_ret
  exact ⟨by rfl, rfl⟩
theorem c74_11z (a : Int) (x : Int) (h0 : x = 0) (w : World) : Calls Try.prog 74 #[.int .u8 11, .int .u32 a, .int .u32 x] w (fun e w' => e = .returned (.int .u32 (calcV 11 a x)) ∧ w = w') := by
  subst h0
  go_enter Try.func74, Try.ntmps74
  go_wp2_with fail
  go_ret
  exact ⟨by rfl, rfl⟩
theorem c74_11n (a : Int) (x : Int) (h0 : ¬ x = 0) (w : World) : Calls Try.prog 74 #[.int .u8 11, .int .u32 a, .int .u32 x] w (fun e w' => e = .returned (.int .u32 (calcV 11 a x)) ∧ w = w') := by
  have h1 : (x == 0) = false := by simpa using h0
  go_enter Try.func74, Try.ntmps74
  go_wp2_with fail
  go_ret
  exact ⟨by unfold calcV; simp [h0], rfl⟩
theorem c74_12z (a : Int) (x : Int) (h0 : x = 0) (w : World) : Calls Try.prog 74 #[.int .u8 12, .int .u32 a, .int .u32 x] w (fun e w' => e = .returned (.int .u32 (calcV 12 a x)) ∧ w = w') := by
  subst h0
  go_enter Try.func74, Try.ntmps74
  go_wp2_with fail
  go_ret
  exact ⟨by rfl, rfl⟩
theorem c74_12n (a : Int) (x : Int) (h0 : ¬ x = 0) (w : World) : Calls Try.prog 74 #[.int .u8 12, .int .u32 a, .int .u32 x] w (fun e w' => e = .returned (.int .u32 (calcV 12 a x)) ∧ w = w') := by
  have h1 : (x == 0) = false := by simpa using h0
  go_enter Try.func74, Try.ntmps74
  go_wp2_with fail
  go_ret
  exact ⟨by unfold calcV; simp [h0], rfl⟩
theorem c74_13 (a : Int) (x : Int) (w : World) : Calls Try.prog 74 #[.int .u8 13, .int .u32 a, .int .u32 x] w (fun e w' => e = .returned (.int .u32 (calcV 13 a x)) ∧ w = w') := by
  go_enter Try.func74, Try.ntmps74
  go_wp2_with fail
  go_ret
  exact ⟨by rfl, rfl⟩
theorem c74_14 (a : Int) (x : Int) (w : World) : Calls Try.prog 74 #[.int .u8 14, .int .u32 a, .int .u32 x] w (fun e w' => e = .returned (.int .u32 (calcV 14 a x)) ∧ w = w') := by
  go_enter Try.func74, Try.ntmps74
  go_wp2_with fail
  go_ret
  exact ⟨by rfl, rfl⟩
theorem c74_15 (a : Int) (x : Int) (w : World) : Calls Try.prog 74 #[.int .u8 15, .int .u32 a, .int .u32 x] w (fun e w' => e = .returned (.int .u32 (calcV 15 a x)) ∧ w = w') := by
  go_enter Try.func74, Try.ntmps74
  go_wp2_with fail
  go_ret
  exact ⟨by rfl, rfl⟩
theorem c74_16 (a : Int) (x : Int) (w : World) : Calls Try.prog 74 #[.int .u8 16, .int .u32 a, .int .u32 x] w (fun e w' => e = .returned (.int .u32 (calcV 16 a x)) ∧ w = w') := by
  go_enter Try.func74, Try.ntmps74
  go_wp2_with fail
  go_ret
  exact ⟨by rfl, rfl⟩
theorem c74_17 (a : Int) (x : Int) (hx : U32 x) (w : World) : Calls Try.prog 74 #[.int .u8 17, .int .u32 a, .int .u32 x] w (fun e w' => e = .returned (.int .u32 (calcV 17 a x)) ∧ w = w') := by
  have hm := mask31 hx
  have hc : calcV 17 a x = a * 2 ^ (x % 32).toNat % 4294967296 := rfl
  obtain ⟨y, hy⟩ : ∃ y, x % 32 = y := ⟨_, rfl⟩
  have hy0 : 0 ≤ y := by omega
  have hy1 : y ≤ 31 := by omega
  have hy2 : y ≤ 32 := by omega
  rw [hy] at hm hc
  clear hy
  go_enter Try.func74, Try.ntmps74
  go_wp2_with fail
  go_ret
  exact ⟨by rw [hc]; rfl, rfl⟩
theorem c74_18 (a : Int) (x : Int) (hx : U32 x) (w : World) : Calls Try.prog 74 #[.int .u8 18, .int .u32 a, .int .u32 x] w (fun e w' => e = .returned (.int .u32 (calcV 18 a x)) ∧ w = w') := by
  have hm := mask31 hx
  have hc : calcV 18 a x = a / 2 ^ (x % 32).toNat := rfl
  obtain ⟨y, hy⟩ : ∃ y, x % 32 = y := ⟨_, rfl⟩
  have hy0 : 0 ≤ y := by omega
  have hy1 : y ≤ 31 := by omega
  have hy2 : y ≤ 32 := by omega
  rw [hy] at hm hc
  clear hy
  go_enter Try.func74, Try.ntmps74
  go_wp2_with fail
  go_ret
  exact ⟨by rw [hc]; rfl, rfl⟩
theorem c60_8 (a : Int) (x : Int) (w : World) : Calls Try.prog 60 #[.int .u8 8, .int .u32 a, .int .u32 x] w (fun e w' => e = .returned (.int .u32 (calcV 8 a x)) ∧ w = w') := by
  go_enter Try.func60, Try.ntmps60
  go_wp2_with fail
  go_ret
  exact ⟨by rfl, rfl⟩
theorem c60_9 (a : Int) (x : Int) (w : World) : Calls Try.prog 60 #[.int .u8 9, .int .u32 a, .int .u32 x] w (fun e w' => e = .returned (.int .u32 (calcV 9 a x)) ∧ w = w') := by
  go_enter Try.func60, Try.ntmps60
  go_wp2_with fail
  go_ret
  exact ⟨by rfl, rfl⟩
theorem c60_10 (a : Int) (x : Int) (w : World) : Calls Try.prog 60 #[.int .u8 10, .int .u32 a, .int .u32 x] w (fun e w' => e = .returned (.int .u32 (calcV 10 a x)) ∧ w = w') := by
  go_enter Try.func60, Try.ntmps60
  go_wp2_with fail
  go_ret
  exact ⟨by rfl, rfl⟩
theorem c60_11z (a : Int) (x : Int) (h0 : x = 0) (w : World) : Calls Try.prog 60 #[.int .u8 11, .int .u32 a, .int .u32 x] w (fun e w' => e = .returned (.int .u32 (calcV 11 a x)) ∧ w = w') := by
  subst h0
  go_enter Try.func60, Try.ntmps60
  go_wp2_with fail
  go_ret
  exact ⟨by rfl, rfl⟩
theorem c60_11n (a : Int) (x : Int) (h0 : ¬ x = 0) (w : World) : Calls Try.prog 60 #[.int .u8 11, .int .u32 a, .int .u32 x] w (fun e w' => e = .returned (.int .u32 (calcV 11 a x)) ∧ w = w') := by
  have h1 : (x == 0) = false := by simpa using h0
  go_enter Try.func60, Try.ntmps60
  go_wp2_with fail
  go_ret
  exact ⟨by unfold calcV; simp [h0], rfl⟩
theorem c60_12z (a : Int) (x : Int) (h0 : x = 0) (w : World) : Calls Try.prog 60 #[.int .u8 12, .int .u32 a, .int .u32 x] w (fun e w' => e = .returned (.int .u32 (calcV 12 a x)) ∧ w = w') := by
  subst h0
  go_enter Try.func60, Try.ntmps60
  go_wp2_with fail
  go_ret
  exact ⟨by rfl, rfl⟩
theorem c60_12n (a : Int) (x : Int) (h0 : ¬ x = 0) (w : World) : Calls Try.prog 60 #[.int .u8 12, .int .u32 a, .int .u32 x] w (fun e w' => e = .returned (.int .u32 (calcV 12 a x)) ∧ w = w') := by
  have h1 : (x == 0) = false := by simpa using h0
  go_enter Try.func60, Try.ntmps60
  go_wp2_with fail
  go_ret
  exact ⟨by unfold calcV; simp [h0], rfl⟩
theorem c60_13 (a : Int) (x : Int) (w : World) : Calls Try.prog 60 #[.int .u8 13, .int .u32 a, .int .u32 x] w (fun e w' => e = .returned (.int .u32 (calcV 13 a x)) ∧ w = w') := by
  go_enter Try.func60, Try.ntmps60
  go_wp2_with fail
  go_ret
  exact ⟨by rfl, rfl⟩
theorem c60_14 (a : Int) (x : Int) (hx : U32 x) (w : World) : Calls Try.prog 60 #[.int .u8 14, .int .u32 a, .int .u32 x] w (fun e w' => e = .returned (.int .u32 (calcV 14 a x)) ∧ w = w') := by
  have hm := andnot_eq (a := a) hx
  go_enter Try.func60, Try.ntmps60
  go_wp2_with fail
  go_ret
  exact ⟨by rfl, rfl⟩
theorem c60_15 (a : Int) (x : Int) (w : World) : Calls Try.prog 60 #[.int .u8 15, .int .u32 a, .int .u32 x] w (fun e w' => e = .returned (.int .u32 (calcV 15 a x)) ∧ w = w') := by
  go_enter Try.func60, Try.ntmps60
  go_wp2_with fail
  go_ret
  exact ⟨by rfl, rfl⟩
theorem c60_16 (a : Int) (x : Int) (w : World) : Calls Try.prog 60 #[.int .u8 16, .int .u32 a, .int .u32 x] w (fun e w' => e = .returned (.int .u32 (calcV 16 a x)) ∧ w = w') := by
  go_enter Try.func60, Try.ntmps60
  go_wp2_with fail
  go_ret
  exact ⟨by rfl, rfl⟩
theorem c60_17 (a : Int) (x : Int) (hx : U32 x) (w : World) : Calls Try.prog 60 #[.int .u8 17, .int .u32 a, .int .u32 x] w (fun e w' => e = .returned (.int .u32 (calcV 17 a x)) ∧ w = w') := by
  have hm : x.tmod 32 = x % 32 := Int.tmod_eq_emod_of_nonneg hx.1
  have hc : calcV 17 a x = a * 2 ^ (x % 32).toNat % 4294967296 := rfl
  obtain ⟨y, hy⟩ : ∃ y, x % 32 = y := ⟨_, rfl⟩
  have hy0 : 0 ≤ y := by omega
  have hy1 : y ≤ 31 := by omega
  have hy2 : y ≤ 32 := by omega
  rw [hy] at hm hc
  clear hy
  go_enter Try.func60, Try.ntmps60
  go_wp2_with fail
  go_ret
  exact ⟨by rw [hc]; rfl, rfl⟩
theorem c60_18 (a : Int) (x : Int) (hx : U32 x) (w : World) : Calls Try.prog 60 #[.int .u8 18, .int .u32 a, .int .u32 x] w (fun e w' => e = .returned (.int .u32 (calcV 18 a x)) ∧ w = w') := by
  have hm : x.tmod 32 = x % 32 := Int.tmod_eq_emod_of_nonneg hx.1
  have hc : calcV 18 a x = a / 2 ^ (x % 32).toNat := rfl
  obtain ⟨y, hy⟩ : ∃ y, x % 32 = y := ⟨_, rfl⟩
  have hy0 : 0 ≤ y := by omega
  have hy1 : y ≤ 31 := by omega
  have hy2 : y ≤ 32 := by omega
  rw [hy] at hm hc
  clear hy
  go_enter Try.func60, Try.ntmps60
  go_wp2_with fail
  go_ret
  exact ⟨by rw [hc]; rfl, rfl⟩
theorem calc74 (k a x : Int) (hk : 8 ≤ k ∧ k ≤ 18) (hx : U32 x) (w : World) : Calls Try.prog 74 #[.int .u8 k, .int .u32 a, .int .u32 x] w (fun e w' => e = .returned (.int .u32 (calcV k a x)) ∧ w = w') := by
  rcases (show k = 8 ∨ k = 9 ∨ k = 10 ∨ k = 11 ∨ k = 12 ∨ k = 13 ∨ k = 14 ∨ k = 15 ∨ k = 16 ∨ k = 17 ∨ k = 18 from by omega) with rfl | rfl | rfl | rfl | rfl | rfl | rfl | rfl | rfl | rfl | rfl
  · exact c74_8 a x w
  · exact c74_9 a x w
  · exact c74_10 a x w
  · by_cases h : x = 0
    · exact c74_11z a x h w
    · exact c74_11n a x h w
  · by_cases h : x = 0
    · exact c74_12z a x h w
    · exact c74_12n a x h w
  · exact c74_13 a x w
  · exact c74_14 a x w
  · exact c74_15 a x w
  · exact c74_16 a x w
  · exact c74_17 a x hx w
  · exact c74_18 a x hx w
theorem calc60 (k a x : Int) (hk : 8 ≤ k ∧ k ≤ 18) (hx : U32 x) (w : World) : Calls Try.prog 60 #[.int .u8 k, .int .u32 a, .int .u32 x] w (fun e w' => e = .returned (.int .u32 (calcV k a x)) ∧ w = w') := by
  rcases (show k = 8 ∨ k = 9 ∨ k = 10 ∨ k = 11 ∨ k = 12 ∨ k = 13 ∨ k = 14 ∨ k = 15 ∨ k = 16 ∨ k = 17 ∨ k = 18 from by omega) with rfl | rfl | rfl | rfl | rfl | rfl | rfl | rfl | rfl | rfl | rfl
  · exact c60_8 a x w
  · exact c60_9 a x w
  · exact c60_10 a x w
  · by_cases h : x = 0
    · exact c60_11z a x h w
    · exact c60_11n a x h w
  · by_cases h : x = 0
    · exact c60_12z a x h w
    · exact c60_12n a x h w
  · exact c60_13 a x w
  · exact c60_14 a x hx w
  · exact c60_15 a x w
  · exact c60_16 a x w
  · exact c60_17 a x hx w
  · exact c60_18 a x hx w
end Go.Proofs.Ytebmgladdgmmeaa
namespace Go.Proofs.Ytebmgladdgmmeaa
open Go.RowKit Go.WideShapes
set_option linter.unusedVariables false
set_option linter.unusedSimpArgs false
/-- What an instruction's S says. -/
def operV (n v : Int) (s : St) : Int := if n = 7 then v % 4294967296 else getP n s
theorem operV_u32 {s : St} (h : s.ok) (n v : Int) : U32 (operV n v s) := by
  unfold operV
  split
  · exact mod_range _
  · exact getP_u32 h _
section
variable {w : World} {g gh gm ch cm : Nat} {s : St}
set_option maxRecDepth 100000 in
set_option maxHeartbeats 2000000 in
theorem operand75 (o d n v : Int) (hn : 0 ≤ n ∧ n ≤ 7) (hv : Vm w g gh gm s ch cm) : Calls Try.prog 75 #[.agg #[.int .u8 o, .int .i64 d, .int .i64 n, .int .i64 v], .pointer (some ⟨g, 0, none⟩)] w (Quiet (.int .u32 (operV n v s)) w) := by
  have HV := Lib.hid (hv.below ((Below.refl _ _).alloc (Nat.le_refl _) (.cells #[.int .u8 o, .int .i64 d, .int .i64 n, .int .i64 v] 31)))
  clear hv
  by_cases h7 : n = 7
  · subst h7
    have e : operV 7 v s = v % 4294967296 := rfl
    rw [e]
    clear e
    go_enter Try.func75, Try.ntmps75
    go_wp2_with fail
    go_ret
    exact ⟨rfl, (Below.refl _ _).alloc (Nat.le_refl _) _⟩
  · have e : operV n v s = getP n s := by unfold operV; rw [if_neg h7]
    have h7b : (n == 7) = false := by simpa using h7
    rw [e]
    have hp := fun W hW => place_any n (by omega) W (HV.out.below hW)
    have HP := Lib.hid hp
    clear e hp
    go_enter Try.func75, Try.ntmps75
    go_wp2_with fail
    refine (HP.out _ (Below.refl _ _)).mono ?_
    rintro e w1 ⟨⟨fg, fp, q, rfl, hpl⟩, hl⟩
    have HL := Lib.hid (((Below.refl w.heap.size w).alloc (Nat.le_refl _) (.cells #[.int .u8 o, .int .i64 d, .int .i64 n, .int .i64 v] 31)).trans (hl.mono (by simp)))
    have HG := Lib.hid hpl.get
    have hcf := hpl.eg
    clear hpl hl
    go_wp2_with fail
    refine (HG.out _ (Below.refl _ _)).mono ?_
    rintro e w2 ⟨rfl, rfl⟩
    go_wp2_with fail
    go_ret
    exact ⟨rfl, HL.out⟩
/-- A comparison. -/
def holdV (o x a : Int) : Bool := if o = 19 then a == x else if o = 20 then decide (a < x) else if o = 21 then decide (x < a) else false
set_option maxRecDepth 100000 in
set_option maxHeartbeats 2000000 in
theorem holds61_19 (d n v : Int) (hn : 0 ≤ n ∧ n ≤ 7) (hv : Vm w g gh gm s ch cm) : Calls Try.prog 61 #[.agg #[.int .u8 19, .int .i64 d, .int .i64 n, .int .i64 v], .pointer (some ⟨g, 0, none⟩)] w (Quiet (.bool (holdV 19 (operV n v s) s.m.a)) w) := by
  have HV := Lib.hid (hv.below ((Below.refl _ _).alloc (Nat.le_refl _) (.cells #[.int .u8 19, .int .i64 d, .int .i64 n, .int .i64 v] 31)))
  have ho := fun W hW => operand75 19 d n v hn (w := W) (HV.out.below hW)
  have HO := Lib.hid ho
  have hbx := Blk.new w 31 #[.int .u8 19, .int .i64 d, .int .i64 n, .int .i64 v]
  have HBX := Lib.hid hbx
  have hlt := hv.box.lt
  clear hv ho hbx
  obtain ⟨x, hx⟩ : ∃ x, operV n v s = x := ⟨_, rfl⟩
  rw [hx] at HO ⊢
  clear hx
  go_enter Try.func61, Try.ntmps61
  go_wp2_with fail
  refine (HO.out _ (Below.refl _ _)).mono ?_
  rintro e w1 ⟨rfl, hl⟩
  have HL := Lib.hid (((Below.refl w.heap.size w).alloc (Nat.le_refl _) (.cells #[.int .u8 19, .int .i64 d, .int .i64 n, .int .i64 v] 31)).trans (hl.mono (by simp)))
  have c0 := (HV.out.below hl).box.c0
  have b0 := (HBX.out.below hl).cell 0
  simp at b0
  clear hl
  go_wp2_with fail
  go_ret
  exact ⟨rfl, HL.out⟩
set_option maxRecDepth 100000 in
set_option maxHeartbeats 2000000 in
theorem holds61_20 (d n v : Int) (hn : 0 ≤ n ∧ n ≤ 7) (hv : Vm w g gh gm s ch cm) : Calls Try.prog 61 #[.agg #[.int .u8 20, .int .i64 d, .int .i64 n, .int .i64 v], .pointer (some ⟨g, 0, none⟩)] w (Quiet (.bool (holdV 20 (operV n v s) s.m.a)) w) := by
  have HV := Lib.hid (hv.below ((Below.refl _ _).alloc (Nat.le_refl _) (.cells #[.int .u8 20, .int .i64 d, .int .i64 n, .int .i64 v] 31)))
  have ho := fun W hW => operand75 20 d n v hn (w := W) (HV.out.below hW)
  have HO := Lib.hid ho
  have hbx := Blk.new w 31 #[.int .u8 20, .int .i64 d, .int .i64 n, .int .i64 v]
  have HBX := Lib.hid hbx
  have hlt := hv.box.lt
  clear hv ho hbx
  obtain ⟨x, hx⟩ : ∃ x, operV n v s = x := ⟨_, rfl⟩
  rw [hx] at HO ⊢
  clear hx
  go_enter Try.func61, Try.ntmps61
  go_wp2_with fail
  refine (HO.out _ (Below.refl _ _)).mono ?_
  rintro e w1 ⟨rfl, hl⟩
  have HL := Lib.hid (((Below.refl w.heap.size w).alloc (Nat.le_refl _) (.cells #[.int .u8 20, .int .i64 d, .int .i64 n, .int .i64 v] 31)).trans (hl.mono (by simp)))
  have c0 := (HV.out.below hl).box.c0
  have b0 := (HBX.out.below hl).cell 0
  simp at b0
  clear hl
  go_wp2_with fail
  go_ret
  exact ⟨rfl, HL.out⟩
set_option maxRecDepth 100000 in
set_option maxHeartbeats 2000000 in
theorem holds61_21 (d n v : Int) (hn : 0 ≤ n ∧ n ≤ 7) (hv : Vm w g gh gm s ch cm) : Calls Try.prog 61 #[.agg #[.int .u8 21, .int .i64 d, .int .i64 n, .int .i64 v], .pointer (some ⟨g, 0, none⟩)] w (Quiet (.bool (holdV 21 (operV n v s) s.m.a)) w) := by
  have HV := Lib.hid (hv.below ((Below.refl _ _).alloc (Nat.le_refl _) (.cells #[.int .u8 21, .int .i64 d, .int .i64 n, .int .i64 v] 31)))
  have ho := fun W hW => operand75 21 d n v hn (w := W) (HV.out.below hW)
  have HO := Lib.hid ho
  have hbx := Blk.new w 31 #[.int .u8 21, .int .i64 d, .int .i64 n, .int .i64 v]
  have HBX := Lib.hid hbx
  have hlt := hv.box.lt
  clear hv ho hbx
  obtain ⟨x, hx⟩ : ∃ x, operV n v s = x := ⟨_, rfl⟩
  rw [hx] at HO ⊢
  clear hx
  go_enter Try.func61, Try.ntmps61
  go_wp2_with fail
  refine (HO.out _ (Below.refl _ _)).mono ?_
  rintro e w1 ⟨rfl, hl⟩
  have HL := Lib.hid (((Below.refl w.heap.size w).alloc (Nat.le_refl _) (.cells #[.int .u8 21, .int .i64 d, .int .i64 n, .int .i64 v] 31)).trans (hl.mono (by simp)))
  have c0 := (HV.out.below hl).box.c0
  have b0 := (HBX.out.below hl).cell 0
  simp at b0
  clear hl
  go_wp2_with fail
  go_ret
  exact ⟨rfl, HL.out⟩
theorem holds61 (o d n v : Int) (ho : o = 19 ∨ o = 20 ∨ o = 21) (hn : 0 ≤ n ∧ n ≤ 7) (hv : Vm w g gh gm s ch cm) : Calls Try.prog 61 #[.agg #[.int .u8 o, .int .i64 d, .int .i64 n, .int .i64 v], .pointer (some ⟨g, 0, none⟩)] w (Quiet (.bool (holdV o (operV n v s) s.m.a)) w) := by
  rcases ho with rfl | rfl | rfl
  · exact holds61_19 d n v hn hv
  · exact holds61_20 d n v hn hv
  · exact holds61_21 d n v hn hv
end
end Go.Proofs.Ytebmgladdgmmeaa
