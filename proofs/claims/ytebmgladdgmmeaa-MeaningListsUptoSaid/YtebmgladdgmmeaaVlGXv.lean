/- MeaningLists' law: arguments opened. Condition: their bulk is at most 1048576. -/
import Derived.Test.YtebmgladdgmmeaaVlGXr
import Derived.Test.YtebmgladdgmmeaaVlGOp
import Derived.Test.YtebmgladdgmmeaaVlGMo
import Derived.Test.YtebmgladdgmmeaaRows
namespace Go.Proofs.Ytebmgladdgmmeaa
open Go.RowKit Go.WideShapes Go.ChangeShapes Go.Deep
theorem bulk_one {H : Type} (d : DataW H) : 1 ≤ Rows.uptoBulk d := by
  cases d with
  | lit l => cases l <;> simp [Rows.uptoBulk]
  | nil => simp [Rows.uptoBulk]
  | ptr d => simp [Rows.uptoBulk]
  | slice elems spare => simp [Rows.uptoBulk]
  | agg parts => simp [Rows.uptoBulk]
  | iface t d => simp [Rows.uptoBulk]
  | map entries => simp [Rows.uptoBulk]
  | held h => simp [Rows.uptoBulk]
theorem bulk_all {H : Type} : ∀ (l : List (DataW H)), l.length ≤ Rows.uptoBulkAll l
  | [] => by simp [Rows.uptoBulkAll]
  | x :: r => by
    have := bulk_one x
    have := bulk_all r
    simp only [Rows.uptoBulkAll, List.length_cons]
    omega
/-- A list's length is at most its reading's bulk. -/
theorem bulk_list {H : Type} {enc : TypeId × Value → H} {w : World} {d : DataW H} {ps : List MemPlace} {A : Option Addr} {n c : Nat} (hk : DataW.Trod enc Try.prog w 0 (fun _ => true) true 22 (.slice A n c) d ps) : n ≤ Rows.uptoBulk d := by
  obtain ⟨fuel, hf⟩ := hk
  rcases DataW.trod_slice Try.underlying22 hf with ⟨hcs, _⟩ | ⟨a, len, cap, elems, rest, m, hn, hcs, hx, hb, hl, hm, hlen, _⟩
  · simp [Value.cells] at hcs
    omega
  · simp [Value.cells] at hcs
    obtain ⟨_, rfl, _⟩ := hcs
    obtain ⟨rfl, _⟩ := Prod.mk.inj hx
    have := bulk_all (elems.map (·.1))
    rw [List.length_map, hlen] at this
    simp only [Rows.uptoBulk]
    omega
set_option maxRecDepth 100000 in
theorem lists_law {H : Type} {enc : TypeId × Value → H} {base0 base1 base2 : Nat} {d0 d1 d2 : DataW H} {gs : List (DataW H)} {p0 p1 p2 : List MemPlace} (v0 v1 v2 : Value) (w : World) (hbk : Rows.uptoBulkAll ([d0, d1, d2] ++ gs) ≤ 1048576)
    (h0 : Value.okWide Try.prog w .any base0 22 v0) (k0 : DataW.Trod enc Try.prog w 0 (fun _ => true) true 22 v0 d0 p0) (w0 : (d0.weights Try.prog 22).all (· ≤ reachBytes) = true)
    (h1 : Value.okWide Try.prog w .any base1 22 v1) (k1 : DataW.Trod enc Try.prog w 0 (fun _ => true) true 22 v1 d1 p1) (w1 : (d1.weights Try.prog 22).all (· ≤ reachBytes) = true)
    (h2 : Value.okWide Try.prog w .any base2 50 v2) (k2 : DataW.Trod enc Try.prog w 0 (fun _ => true) true 50 v2 d2 p2) :
    Calls Try.prog 7 #[v0, v1, v2] w fun e w' => e = .returned (.bool true) ∧ Below w.heap.size w w' := by
  obtain ⟨a, A, ca, rfl, ⟨ha1, _, ha3⟩, hra⟩ := open_list h0 k0 w0
  obtain ⟨b, B, cb, rfl, ⟨hb1, _, hb3⟩, hrb⟩ := open_list h1 k1 w1
  obtain ⟨s, Ah, Am, ch, cm, rfl, hin⟩ := open_machine h2 k2
  have l0 := bulk_list k0
  have l1 := bulk_list k1
  simp only [List.cons_append, List.nil_append, Rows.uptoBulkAll] at hbk
  exact (lists7 a b A B ca cb s Ah Am ch cm w hra hrb ha1 hb1 ha3 hb3 (by omega) hin).mono fun _ _ h => ⟨h.1, h.2⟩
end Go.Proofs.Ytebmgladdgmmeaa
