/- append of zeros ('append(s, make([]byte, m)...)', slices.Grow's) onto whatever slice that must move; append with a finer bound on bytes. Plain laws over any program. -/
import Derived.Test.YtbmhfefbfocelaaWords
namespace Go.Proofs.Ytbmhfefbfocelaa
open Go.RowKit Go.WideShapes
set_option linter.unusedVariables false
theorem growBy_le (need : Nat) : ∀ (r c : Nat), c ≤ need + need / 4 + 192 → Builtin.growBy need r c ≤ need + need / 4 + 192
  | 0, c, h => h
  | r + 1, c, h => by
    unfold Builtin.growBy
    split
    · exact h
    · exact growBy_le need r _ (by omega)
theorem nextcap_le {need old : Nat} (h : old < need) : Builtin.nextslicecap need old ≤ need + need / 4 + 512 := by
  unfold Builtin.nextslicecap
  split
  · omega
  · split
    · omega
    · have := growBy_le need 4 old (by omega)
      omega
section
variable {P : Program} {t e : TypeId} {z : Value} {bytes : Nat}
theorem zeroCells_list (z : Value) (n : Nat) : (Builtin.zeroCells #[z] n).toList = List.replicate n z := by
  simp [Builtin.zeroCells]
  apply List.ext_getElem
  · simp
  · intro i h1 h2
    simp [Nat.mod_one]
/-- 's[:cap(s)]' at a slice without spare, grown by m zeros: a row of its own. -/
theorem run_app_zeros (T : SlT P t e z bytes) (hz1 : z.cells = #[z]) (u : TypeId) (hu : P.underlying u = some (.int .i64)) (w : World) (ty : TypeId) (A : Option Addr) (n m : Nat) (xs : List Value) (hn : n = xs.length) (hr : Rd w A xs) (hm : 0 < m)
    (hfit : Builtin.nextslicecap (n + m) n * bytes ≤ 281474976710656) (hmb : m * bytes ≤ 281474976710656) (h63 : n + m ≤ 9223372036854775807) :
    ∃ g c w', (Builtin.append_ #[t, u] ty #[.slice A n n, .int .i64 m]).run P w = .ok (.slice (some ⟨g, 0, none⟩) (n + m) c) w' ∧ w'.ownsRow w.heap.size e 1 (.slice (some ⟨g, 0, none⟩) (n + m) c) (n + m) (xs ++ List.replicate m z) ∧ Below w.heap.size w w' := by
  obtain ⟨i, hi, hz, hs, hby⟩ := info_parts T.i
  subst hn
  have hw : IntKind.i64.wrap (m : Int) = (m : Int) := IntWalk.i64_in _ (by omega)
  have h0 : ¬ ((m : Int) < 0) := by omega
  have h2 : ¬ ((281474976710656 : Int) < (m : Int) * (i.bytes : Int)) := by
    have h : ((m * bytes : Nat) : Int) ≤ 281474976710656 := by omega
    rw [Int.natCast_mul] at h
    rw [hby]
    omega
  have h3 : ¬ (xs.length + m ≤ xs.length) := by omega
  have h4 : ¬ ((9223372036854775807 : Int) < ((xs.length : Int) + (m : Int))) := by omega
  have h5 : ¬ (281474976710656 < Builtin.nextslicecap (xs.length + m) xs.length * i.bytes) := by rw [hby]; omega
  have h6 : m ≠ 0 := by omega
  have hfo : (Builtin.firstCells 1 xs.length (.slice A xs.length xs.length)).run P w.drew = .ok xs.toArray w.drew := by
    rcases xs with _ | ⟨x, r⟩
    · cases A <;> simp [Builtin.firstCells, loadCells, loadCellsFrom]
    · obtain ⟨b, off, rfl, _, hc⟩ := hr (by simp)
      exact run_firstCells_some (P := P) w.drew 1 _ ⟨b, off, none⟩ _ _ (x :: r) (by simp) (fun j v hv => by rw [addr_add]; exact hc j v hv)
  have hai : ∀ w' : World, (asIntOf (.int .i64 (m : Int))).run P w' = .ok (.i64, (m : Int)) w' := fun _ => rfl
  refine ⟨w.heap.size, grownCap w (xs.length + m) xs.length e, w.drew.alloc (.cells (xs.toArray ++ Builtin.zeroCells z.cells m ++ Builtin.zeroCells z.cells (grownCap w (xs.length + m) xs.length e - (xs.length + m))) e), ?_, ?_, ?_⟩
  · simp [Builtin.append_, run_underlying T.u, run_underlying hu, sizeOf, typeInfo, zeroValue, hi, hz, hs, Builtin.lenOf, asInt, hai, hw, h0, h2, h3, h4, h5, h6, Question.forced, hfo, newRow, grownCap]
  · have hge := grownCap_ge w (xs.length + m) xs.length e
    have hcm : grownCap w (xs.length + m) xs.length e ≤ maxLen := grownCap_le_maxLen w _ _ e (by unfold maxLen; omega)
    refine ⟨by simp, .inr ⟨w.heap.size, _, _, rfl, Nat.le_refl _, heap_alloc_new w.drew _, hge, hcm, ?_, ?_⟩⟩
    · simp only [Array.size_append, List.size_toArray, size_zeroCells, hz1]
      simp
      omega
    · simp only [Array.toList_append, hz1, zeroCells_list]
      rw [List.take_left' (by simp)]
  · exact (Below.refl _ _).drew.alloc (by simp) _
theorem wpList_app_zeros {ops : Array Oper} {rest : List Oper} {o : Oper} {a : Act} {w : World} {Q : Exit → Act → World → Prop} (T : SlT P t e z bytes) (hz1 : z.cells = #[z]) (u : TypeId) (hu : P.underlying u = some (.int .i64)) (hgd : Region.wanted o (yielded ops a.tmps) = true) (s x : Operand)
    (ho : o.op = .call { callee := .builtin .append, args := #[s, x], argTypes := #[t, u] })
    (A : Option Addr) (n m : Nat) (M : Int) (xs : List Value) (hs : a.eval s = .slice A n n) (hx : a.eval x = .int .i64 M) (hM : M = (m : Int)) (hn : n = xs.length) (hr : Rd w A xs) (hm : 0 < m)
    (hfit : Builtin.nextslicecap (n + m) n * bytes ≤ 281474976710656) (hmb : m * bytes ≤ 281474976710656) (h63 : n + m ≤ 9223372036854775807)
    (h : ∀ g c w', n + m ≤ c → w'.ownsRow w.heap.size e 1 (.slice (some ⟨g, 0, none⟩) (n + m) c) (n + m) (xs ++ List.replicate m z) → Below w.heap.size w w' → wpList P ops Q rest (a.put o.dst (.slice (some ⟨g, 0, none⟩) (n + m) c)) w') : wpList P ops Q (o :: rest) a w := by
  subst hM
  obtain ⟨g, c, w', hrun, h2, h3⟩ := run_app_zeros T hz1 u hu w o.type A n m xs hn hr hm hfit hmb h63
  have hc : n + m ≤ c := by
    obtain ⟨_, _, hv, hle⟩ := own_slice h2
    injection hv with _ _ hc
    omega
  refine wpList_want hgd fun K hK => ?_
  unfold Oper.wp execOp
  simp only [ho, resolve, invoke, builtin, Sem.run_bind, Sem.run_pure, Result.andThen_ok, List.map_toArray, List.map_cons, List.map_nil, hs, hx, hrun]
  exact hK _ _ (h g c w' hc h2 h3)
end
end Go.Proofs.Ytbmhfefbfocelaa
