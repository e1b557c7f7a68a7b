/- Append of one element to a row of one's own, the old slice read on. Condition: none. -/
import Derived.Test.YtlhhkmpidnegcaaVeSb
namespace Go.Proofs.Ytlhhkmpidnegcaa
open Go.RowKit Go.WideShapes
set_option linter.unusedVariables false
set_option linter.unusedSimpArgs false
theorem run_appK {P : Program} {t e : TypeId} {z : Value} {bytes : Nat} (T : SlT P t e z bytes) (w : World) (ty : TypeId) (base : Nat) (A : Option Addr) (n c : Nat) (xs : List Value) (hown : w.ownsRow base e 1 (.slice A n c) n xs) (g0 : Nat) (u : Value) (hc : Blk w g0 e #[u]) (h1 : u.oneCell' = true)
    (hby : (n + 1) * bytes ≤ 140737488355328) (h63 : n + 1 ≤ maxLen) (hbase : base ≤ w.heap.size) :
    ∃ A' c' w', (Builtin.append_ #[t, t] ty #[.slice A n c, .slice (some ⟨g0, 0, none⟩) 1 1]).run P w = .ok (.slice A' (n + 1) c') w' ∧ w'.ownsRow base e 1 (.slice A' (n + 1) c') (n + 1) (xs ++ [u]) ∧ Rd w' A xs ∧ Below base w w' := by
  obtain ⟨v', w', hrun, h2, h3, h5⟩ := run_app T w ty base (.slice A n c) n xs hown (some ⟨g0, 0, none⟩) 1 [u] (rd_one hc) (by simpa using h1) hby h63 hbase
  obtain ⟨i, hi, hz, hs, hb⟩ := info_parts T.i
  have hrun' : (Builtin.append_ #[t, t] ty #[.slice A n c, .slice (some ⟨g0, 0, none⟩) 1 1]).run P w = .ok v' w' := hrun
  obtain ⟨A', c', rfl, hcc⟩ := own_slice h2
  refine ⟨A', c', w', hrun', h2, ?_, h5⟩
  rcases hown.2 with ⟨hv, hn⟩ | ⟨g, cap, cur, hv, hbg, hg, hnc, hcm, hcs, htake⟩
  · have hx : xs = [] := List.eq_nil_of_length_eq_zero (by rw [hown.1, hn])
    subst hx
    exact Rd.nil _ _
  · injection hv with hv hv2 hv3
    subst hv hv3
    by_cases hroom : n + 1 ≤ c
    · have hr := run_append_room (P := P) w t ty e i T.u hi g n c cur hg ⟨g0, 0, none⟩ 1 1 [u] (by rw [hs]; rfl) (fun j y hy => by rw [addr_add, Nat.zero_add, hc.cell]; simpa using hy) (by simpa using h1) hroom (by rw [hs]; simp at hcs ⊢; omega)
      rw [hr] at hrun'
      injection hrun' with q1 q2
      injection q1 with q1
      subst q1
      have hl := hown.1
      have := (Rd.of_own h2).take n
      rwa [List.take_left' (by omega)] at this
    · have holds : ∀ j y, xs[j]? = some y → w.cell? ((⟨g, 0, none⟩ : Addr).add j) = some y := hown.cells (g := g) rfl
      have hr := run_append_grow (P := P) w t ty e i z T.u hi hz ⟨g, 0, none⟩ n c xs (by rw [hs]; exact hown.1) holds ⟨g0, 0, none⟩ 1 1 [u] (by rw [hs]; rfl) (fun j y hy => by rw [addr_add, Nat.zero_add, hc.cell]; simpa using hy) (by omega) (by unfold maxLen at h63; omega) (by rw [hb]; exact growslice_fits (by omega) hby)
      rw [hr] at hrun'
      injection hrun' with q1 q2
      rw [← q2]
      exact (Rd.of_own hown).below (((Below.refl w.heap.size w).drew).alloc (by simp) _) rfl
theorem wpList_appK {P : Program} {t e : TypeId} {z : Value} {bytes : Nat} {ops : Array Oper} {rest : List Oper} {o : Oper} {a : Act} {w : World} {Q : Exit → Act → World → Prop} (T : SlT P t e z bytes) (hgd : Region.wanted o (yielded ops a.tmps) = true) (s x : Operand)
    (ho : o.op = .call { callee := .builtin .append, args := #[s, x], argTypes := #[t, t] })
    (base : Nat) (A : Option Addr) (n c : Nat) (xs : List Value) (hs : a.eval s = .slice A n c) (hown : w.ownsRow base e 1 (.slice A n c) n xs) (g0 : Nat) (u : Value) (hx : a.eval x = .slice (some ⟨g0, 0, none⟩) 1 1) (hc : Blk w g0 e #[u]) (h1 : u.oneCell' = true)
    (hby : (n + 1) * bytes ≤ 140737488355328) (h63 : n + 1 ≤ maxLen) (hbase : base ≤ w.heap.size)
    (h : ∀ A' c' w', w'.ownsRow base e 1 (.slice A' (n + 1) c') (n + 1) (xs ++ [u]) → Rd w' A xs → Below base w w' → wpList P ops Q rest (a.put o.dst (.slice A' (n + 1) c')) w') : wpList P ops Q (o :: rest) a w := by
  obtain ⟨A', c', w', hrun, h2, h3, h4⟩ := run_appK T w o.type base A n c xs hown g0 u hc h1 hby h63 hbase
  refine wpList_want hgd fun K hK => ?_
  unfold Oper.wp execOp
  simp only [ho, resolve, invoke, builtin, Sem.run_bind, Sem.run_pure, Result.andThen_ok, List.map_toArray, List.map_cons, List.map_nil, hs, hx, hrun]
  exact hK _ _ (h A' c' w' h2 h3 h4)
end Go.Proofs.Ytlhhkmpidnegcaa
