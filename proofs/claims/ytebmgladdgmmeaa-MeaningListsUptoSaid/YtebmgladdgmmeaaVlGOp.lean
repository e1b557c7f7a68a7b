/- A Config argument opened. Plain. -/
import Derived.Test.YtebmgladdgmmeaaVlGFo
namespace Go.Proofs.Ytebmgladdgmmeaa
open Go.RowKit Go.WideShapes Go.ChangeShapes Go.Deep
set_option linter.unusedVariables false
set_option linter.unusedSimpArgs false
section
variable {H : Type} {enc : TypeId × Value → H} {w : World}
set_option maxRecDepth 100000 in
theorem sized_w {ts : List TypeId} {ds : List (DataW H)} {d : DataW H} {t : TypeId} {j : Nat} (hsz : (DataW.weightsEach Try.prog ts ds).all (· ≤ reachBytes) = true) (ht : ts[j]? = some t) (hd : ds[j]? = some d) : (d.weights Try.prog t).all (· ≤ reachBytes) = true := by
  rw [List.all_eq_true] at hsz ⊢
  intro q hq
  exact hsz q (DataW.weights_mem_each ht hd q hq)
set_option maxRecDepth 100000 in
theorem open_list {base : Nat} {d : DataW H} {ps : List MemPlace} {v : Value} (hv : Value.okWide Try.prog w .any base 22 v) (hk : DataW.Trod enc Try.prog w 0 (fun _ => true) true 22 v d ps) (hw : (d.weights Try.prog 22).all (· ≤ reachBytes) = true) :
    ∃ (f : Fo) (A : Option Addr) (c : Nat), v = .slice A f.len c ∧ (f.len ≤ c ∧ c ≤ maxLen ∧ f.len ≤ lenMost) ∧ RdS w.heap.size w A f := by
  obtain ⟨fuel, hf⟩ := hk
  obtain ⟨f, A, c, hcs, h1, h2⟩ := (open_fo fuel _ _ hf hw).ex
  obtain ⟨a, len, cap, rfl⟩ := okWide_slice Try.underlying22 hv
  simp [Value.cells] at hcs
  obtain ⟨rfl, rfl, rfl⟩ := hcs
  exact ⟨f, _, _, rfl, h1, h2⟩
/-- The parts of a Config. -/
structure Cf where
  h : Int
  m : Int
  ph : Int
  pm : Int
  Ap : Option Addr
  np : Nat
  cp : Nat
  fc : Fo
  Ac : Option Addr
  cc : Nat
  fp : Fo
  Ao : Option Addr
  co : Nat
  hp : Bool
def Cf.cells (t : Cf) : Array Value := #[.int .i64 t.h, .int .i64 t.m, .int .i64 t.ph, .int .i64 t.pm, .slice t.Ap t.np t.cp, .slice t.Ac t.fc.len t.cc, .slice t.Ao t.fp.len t.co, .bool t.hp]
structure Cf.ok (t : Cf) (w : World) : Prop where
  h : (Lit.int .i64 t.h).wf = true
  m : (Lit.int .i64 t.m).wf = true
  ph : (Lit.int .i64 t.ph).wf = true
  pm : (Lit.int .i64 t.pm).wf = true
  cl : t.fc.len ≤ t.cc ∧ t.cc ≤ maxLen ∧ t.fc.len ≤ lenMost
  c : RdS w.heap.size w t.Ac t.fc
  ol : t.fp.len ≤ t.co ∧ t.co ≤ maxLen ∧ t.fp.len ≤ lenMost
  o : RdS w.heap.size w t.Ao t.fp
end
end Go.Proofs.Ytebmgladdgmmeaa
