/- A Config argument opened. Plain. -/
import Derived.Test.YtebmgladdgmmeaaGFo
namespace Go.Proofs.Ytebmgladdgmmeaa
open Go.RowKit Go.WideShapes Go.ChangeShapes Go.Deep
set_option linter.unusedVariables false
set_option linter.unusedSimpArgs false
section
variable {H : Type} {enc : TypeId × Value → H} {w : World}
set_option maxRecDepth 100000 in
theorem sized_w {ts : List TypeId} {ds : List (DataW H)} {d : DataW H} {t : TypeId} {j : Nat} (hsz : (DataW.weightsEach Try.prog ts ds).all (· ≤ reachBytes) = true) (ht : ts[j]? = some t) (hd : ds[j]? = some d) : (d.weights Try.prog t).all (· ≤ reachBytes) = true := by
  rw [List.all_eq_true] at hsz ⊢
  intro q hq
  exact hsz q (DataW.weights_mem_each ht hd q hq)
set_option maxRecDepth 100000 in
theorem open_list {base : Nat} {d : DataW H} {ps : List MemPlace} {v : Value} (hv : Value.okWide Try.prog w .any base 22 v) (hk : DataW.Trod enc Try.prog w 0 (fun _ => true) true 22 v d ps) (hw : (d.weights Try.prog 22).all (· ≤ reachBytes) = true) :
    ∃ (f : Fo) (A : Option Addr) (c : Nat), v = .slice A f.len c ∧ (f.len ≤ c ∧ c ≤ maxLen ∧ f.len ≤ lenMost) ∧ RdS w.heap.size w A f := by
  obtain ⟨fuel, hf⟩ := hk
  obtain ⟨f, A, c, hcs, h1, h2⟩ := (open_fo fuel _ _ hf hw).ex
  obtain ⟨a, len, cap, rfl⟩ := okWide_slice Try.underlying22 hv
  simp [Value.cells] at hcs
  obtain ⟨rfl, rfl, rfl⟩ := hcs
  exact ⟨f, _, _, rfl, h1, h2⟩
/-- The parts of a Config. -/
structure Cf where
  h : Int
  m : Int
  ph : Int
  pm : Int
  Ap : Option Addr
  np : Nat
  cp : Nat
  fc : Fo
  Ac : Option Addr
  cc : Nat
  fp : Fo
  Ao : Option Addr
  co : Nat
  hp : Bool
def Cf.cells (t : Cf) : Array Value := #[.int .i64 t.h, .int .i64 t.m, .int .i64 t.ph, .int .i64 t.pm, .slice t.Ap t.np t.cp, .slice t.Ac t.fc.len t.cc, .slice t.Ao t.fp.len t.co, .bool t.hp]
structure Cf.ok (t : Cf) (w : World) : Prop where
  h : (Lit.int .i64 t.h).wf = true
  m : (Lit.int .i64 t.m).wf = true
  ph : (Lit.int .i64 t.ph).wf = true
  pm : (Lit.int .i64 t.pm).wf = true
  cl : t.fc.len ≤ t.cc ∧ t.cc ≤ maxLen ∧ t.fc.len ≤ lenMost
  c : RdS w.heap.size w t.Ac t.fc
  ol : t.fp.len ≤ t.co ∧ t.co ≤ maxLen ∧ t.fp.len ≤ lenMost
  o : RdS w.heap.size w t.Ao t.fp
set_option maxRecDepth 100000 in
theorem open_config {base : Nat} {d : DataW H} {ps : List MemPlace} {v : Value} (hv : Value.okWide Try.prog w .any base 40 v) (hk : DataW.Trod enc Try.prog w 0 (fun _ => true) true 40 v d ps) (hw : (d.weights Try.prog 40).all (· ≤ reachBytes) = true) :
    ∃ t : Cf, v = .agg t.cells ∧ t.ok w := by
  obtain ⟨cs, rfl, hcsz⟩ := okWide_struct Try.underlying40 hv
  obtain ⟨fuel, hf⟩ := hk
  obtain ⟨xs, n, hm, hy, hl, hxl, hf⟩ := DataW.trod_struct Try.underlying40 hf
  have hcc : (Value.agg cs).cells.toList = cs.toList := rfl
  rw [hcc] at hl hf
  have c3 : Try.prog.cellsOf 3 = 1 := by kernel_rfl
  have c4 : Try.prog.cellsOf 4 = 1 := by kernel_rfl
  have c22 : Try.prog.cellsOf 22 = 1 := by kernel_rfl
  have c38 : Try.prog.cellsOf 38 = 1 := by kernel_rfl
  have c40 : Try.prog.cellsOf 40 = 8 := by kernel_rfl
  rw [c40] at hl
  have hx : ∀ i, i < 8 → ∃ y, xs[i]? = some y := fun i hi => ⟨_, List.getElem?_eq_getElem (by rw [hxl]; exact hi)⟩
  have h0 : DataW.trod enc Try.prog w 0 (fun _ => true) true n 3 ((cs.toList.drop 0).take (Try.prog.cellsOf 3)) = xs[0]? := hf 0 _ rfl
  have h1 : DataW.trod enc Try.prog w 0 (fun _ => true) true n 3 ((cs.toList.drop 1).take (Try.prog.cellsOf 3)) = xs[1]? := hf 1 _ rfl
  have h2 : DataW.trod enc Try.prog w 0 (fun _ => true) true n 3 ((cs.toList.drop 2).take (Try.prog.cellsOf 3)) = xs[2]? := hf 2 _ rfl
  have h3 : DataW.trod enc Try.prog w 0 (fun _ => true) true n 3 ((cs.toList.drop 3).take (Try.prog.cellsOf 3)) = xs[3]? := hf 3 _ rfl
  have h4 : DataW.trod enc Try.prog w 0 (fun _ => true) true n 38 ((cs.toList.drop 4).take (Try.prog.cellsOf 38)) = xs[4]? := hf 4 _ rfl
  have h5 : DataW.trod enc Try.prog w 0 (fun _ => true) true n 22 ((cs.toList.drop 5).take (Try.prog.cellsOf 22)) = xs[5]? := hf 5 _ rfl
  have h6 : DataW.trod enc Try.prog w 0 (fun _ => true) true n 22 ((cs.toList.drop 6).take (Try.prog.cellsOf 22)) = xs[6]? := hf 6 _ rfl
  have h7 : DataW.trod enc Try.prog w 0 (fun _ => true) true n 4 ((cs.toList.drop 7).take (Try.prog.cellsOf 4)) = xs[7]? := hf 7 _ rfl
  rw [c3] at h0
  rw [c3] at h1
  rw [c3] at h2
  rw [c3] at h3
  rw [c38] at h4
  rw [c22] at h5
  rw [c22] at h6
  rw [c4] at h7
  obtain ⟨y0, e0⟩ := hx 0 (by omega)
  obtain ⟨y1, e1⟩ := hx 1 (by omega)
  obtain ⟨y2, e2⟩ := hx 2 (by omega)
  obtain ⟨y3, e3⟩ := hx 3 (by omega)
  obtain ⟨y4, e4⟩ := hx 4 (by omega)
  obtain ⟨y5, e5⟩ := hx 5 (by omega)
  obtain ⟨y6, e6⟩ := hx 6 (by omega)
  obtain ⟨y7, e7⟩ := hx 7 (by omega)
  have hmem : ∀ (i : Nat) (t : TypeId) (z : DataW H × List MemPlace), xs[i]? = some z → ([3, 3, 3, 3, 38, 22, 22, 4] : List TypeId)[i]? = some t → (z.1.weights Try.prog t).all (· ≤ reachBytes) = true := by
    intro i t z hz ht
    rw [show d = .agg (xs.map (·.1)) from congrArg Prod.fst hy] at hw
    have e : DataW.weights Try.prog 40 (.agg (xs.map (·.1))) = DataW.weightsEach Try.prog [3, 3, 3, 3, 38, 22, 22, 4] (xs.map (·.1)) := by
      unfold DataW.weights
      rw [Try.underlying40]
      rfl
    rw [e] at hw
    rw [List.all_eq_true] at hw ⊢
    intro q hq
    exact hw q (DataW.weights_mem_each ht (by rw [List.getElem?_map, hz]; rfl) q hq)
  have w5 := hmem 5 22 y5 e5 rfl
  have w6 := hmem 6 22 y6 e6 rfl
  rw [e0] at h0
  rw [e1] at h1
  rw [e2] at h2
  rw [e3] at h3
  rw [e4] at h4
  rw [e5] at h5
  rw [e6] at h6
  rw [e7] at h7
  obtain ⟨n0, q0, _, wf0⟩ := DataW.trod_int Try.underlying3 h0
  obtain ⟨n1, q1, _, wf1⟩ := DataW.trod_int Try.underlying3 h1
  obtain ⟨n2, q2, _, wf2⟩ := DataW.trod_int Try.underlying3 h2
  obtain ⟨n3, q3, _, wf3⟩ := DataW.trod_int Try.underlying3 h3
  have q4 : ∃ Ap np cp, (cs.toList.drop 4).take 1 = [.slice Ap np cp] := by
    rcases DataW.trod_slice Try.underlying38 h4 with ⟨hcs, _⟩ | ⟨a, len, cap, elems, rest, n, hn, hcs, _⟩
    · exact ⟨_, _, _, hcs⟩
    · exact ⟨_, _, _, hcs⟩
  obtain ⟨Ap, np, cp, q4⟩ := q4
  obtain ⟨fc, Ac, cc, q5, hc1, hc2⟩ := (open_fo _ _ _ h5 w5).ex
  obtain ⟨fp, Ao, co, q6, ho1, ho2⟩ := (open_fo _ _ _ h6 w6).ex
  obtain ⟨hp, q7, _⟩ := DataW.trod_bool Try.underlying4 h7
  refine ⟨⟨n0, n1, n2, n3, Ap, np, cp, fc, Ac, cc, fp, Ao, co, hp⟩, ?_, wf0, wf1, wf2, wf3, hc1, hc2, ho1, ho2⟩
  obtain ⟨l⟩ := cs
  simp only at *
  rcases l with _ | ⟨v0, _ | ⟨v1, _ | ⟨v2, _ | ⟨v3, _ | ⟨v4, _ | ⟨v5, _ | ⟨v6, _ | ⟨v7, _ | ⟨v8, l⟩⟩⟩⟩⟩⟩⟩⟩⟩ <;> simp at hl
  simp at q0 q1 q2 q3 q4 q5 q6 q7
  subst q0 q1 q2 q3 q4 q5 q6 q7
  rfl
end
end Go.Proofs.Ytebmgladdgmmeaa
