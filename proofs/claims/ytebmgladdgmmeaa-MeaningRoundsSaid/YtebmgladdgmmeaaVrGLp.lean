/- What VmDoes' walk asks of Do's and New's answers. Plain, over their contracts. · A right program with more rounds and more room: plain. · Pick; VmEnds' argument of numbers opened: the walk of Pick. No condition. -/
import Derived.Test.YtebmgladdgmmeaaVdGRe
import Derived.Test.YtebmgladdgmmeaaVdGQd
import Derived.Test.YtebmgladdgmmeaaVdGQa
import Derived.Test.YtebmgladdgmmeaaVdHeld
import Derived.BigRegion
import Derived.Test.YtebmgladdgmmeaaVdGPl
import Derived.Deep.Slices
import Derived.Deep.Fields
import Derived.Deep.Grids
import Derived.OpenShut
namespace Go.Proofs.Ytebmgladdgmmeaa
open Go.RowKit Go.WideShapes
section
theorem wf_i64 {x : Int} (h : (Lit.int .i64 x).wf = true) : -9223372036854775808 ≤ x ∧ x ≤ 9223372036854775807 := by
  simp [Lit.wf, IntKind.min, IntKind.max, IntKind.signed, IntKind.bits] at h
  exact ⟨by omega, by omega⟩
end
section
variable {P : Program} {t e : TypeId} {z : Value} {bytes : Nat}
/-- 'append(own, x, y, ..)': the elements were laid in a block of their own just ahead; the row stays in its block or moves to a new one. -/
theorem wpList_lit {ops : Array Oper} {rest : List Oper} {o : Oper} {a : Act} {w : World} {Q : Exit → Act → World → Prop} (T : SlT P t e z bytes) (hgd : Region.wanted o (yielded ops a.tmps) = true) (s x : Operand)
    (ho : o.op = .call { callee := .builtin .append, args := #[s, x], argTypes := #[t, t] })
    (base : Nat) (v : Value) (n : Nat) (xs : List Value) (hs : a.eval s = v) (hown : w.ownsRow base e 1 v n xs) (us : List Value) (h1 : ∀ u ∈ us, u.oneCell' = true) (m : Nat) (hm : m = us.length)
    (g0 : Nat) (hx : a.eval x = .slice (some ⟨g0, 0, none⟩) m m) (hg0 : g0 = w.heap.size)
    (hby : (n + m) * bytes ≤ 140737488355328) (h63 : n + m ≤ maxLen) (hbase : base ≤ w.heap.size)
    (h : ∀ v' w', w'.ownsRow base e 1 v' (n + m) (xs ++ us) → w.grownBy w' v.ownBlock → (v'.ownBlock = v.ownBlock ∨ v'.ownBlock = some (w.heap.size + 1)) → Below base w w' → wpList P ops Q rest (a.put o.dst v') w') : wpList P ops Q (o :: rest) a (w.alloc (.cells us.toArray e)) := by
  subst hm
  subst hg0
  obtain ⟨i, hi, hz, hsz, hb⟩ := info_parts T.i
  have hbase' : base ≤ (w.alloc (.cells us.toArray e)).heap.size := by simp; omega
  obtain ⟨v', w', hrun, h2, h3, _, h5⟩ := run_append_own_at (P := P) (w.alloc (.cells us.toArray e)) base t o.type e i z 1 bytes T.u hi hz hsz hb T.z (by omega) v n xs (hown.alloc _) ⟨w.heap.size, 0, none⟩ us.length us.length us (by simp)
    (fun j u hu => by rw [addr_add, Nat.zero_add, cell_of_row _ _ _ _ _ _ (heap_alloc_new _ _)]; simpa using hu) h1 h63 hby hbase'
  refine wpList_want hgd fun K hK => ?_
  unfold Oper.wp execOp
  simp only [ho, resolve, invoke, builtin, Sem.run_bind, Sem.run_pure, Result.andThen_ok, List.map_toArray, List.map_cons, List.map_nil, hs, hx, hrun]
  refine hK _ _ (h v' w' h2 ⟨h3.os, h3.tape, h3.output, Nat.le_trans (by simp) h3.size, fun k hk hne => (h3.block k (by simp; omega) hne).trans (Below.heap_alloc w _ k hk)⟩ ?_ (((Below.refl _ _).alloc hbase _).grown h3 hbase' (own_ge hown)))
  rcases h5 with h | h
  · exact .inl h
  · right; rw [h]; simp
end
end Go.Proofs.Ytebmgladdgmmeaa
namespace Go.Proofs.Ytebmgladdgmmeaa
open Go.RowKit Go.WideShapes
set_option linter.unusedVariables false
set_option linter.unusedSimpArgs false
theorem ok_a {s : St} (h : s.ok) {x : Int} (hx : U32 x) : ({ s with m := { s.m with a := x } } : St).ok := ⟨⟨hx, h.m.b, h.m.c, h.m.d, h.m.len, h.m.r⟩, h.hw, h.mo, h.right⟩
theorem ok_f {s : St} (h : s.ok) (b : Bool) : ({ s with m := { s.m with f := b } } : St).ok := ⟨⟨h.m.a, h.m.b, h.m.c, h.m.d, h.m.len, h.m.r⟩, h.hw, h.mo, h.right⟩
theorem ok_r {s : St} (h : s.ok) (k : Nat) {x : Int} (hx : U32 x) : ({ s with m := { s.m with r := s.m.r.set k x } } : St).ok := ⟨⟨h.m.a, h.m.b, h.m.c, h.m.d, by rw [List.length_set]; exact h.m.len, fun y hy => mem_set h.m.r hx y hy⟩, h.hw, h.mo, h.right⟩
theorem r_u32 {s : St} (h : s.ok) (k : Nat) : U32 (s.m.r.getD k 0) := by
  rw [List.getD_eq_getElem?_getD]
  rcases Nat.lt_or_ge k s.m.r.length with hk | hk
  · rw [List.getElem?_eq_getElem hk]
    exact h.m.r _ (List.getElem_mem hk)
  · rw [List.getElem?_eq_none hk]
    exact u32_0
theorem ite_ok {c : Prop} [Decidable c] {a b : St} (ha : a.ok) (hb : b.ok) : (if c then a else b).ok := by
  by_cases h : c
  · rw [if_pos h]
    exact ha
  · rw [if_neg h]
    exact hb
theorem doV_ok {s : St} (h : s.ok) (o d n v : Int) : (doV o d n v s).ok := by
  have hg := getP_u32 h d
  unfold doV
  exact ite_ok (ok_a h (calcV_u32 o h.m.a (operV_u32 h n v))) (ite_ok (ok_f h _) (ite_ok (setP_ok h d (operV_u32 h n v)) (ite_ok (setP_ok h d (mod_range _)) (ite_ok (setP_ok h d (mod_range _))
    (ite_ok (setP_ok h d (mod_range _)) (ite_ok (setP_ok h d ⟨by have := hg.2; omega, by have := hg.1; omega⟩) (ite_ok (setP_ok h d u32_0) (ite_ok (ok_a (setP_ok h d h.m.a) hg)
    (ite_ok (setP_ok h d (r_u32 h _)) (ite_ok (ok_r h _ h.m.a) (ite_ok (ok_a h (mod_range _)) (ite_ok (setP_ok h 6 (mod_range _)) h))))))))))))
theorem DoS_ok (o d n v : Int) {s : St} (hm : s.m.ok) (hw : Wds s.hs) (mo : Oct s.ms) : (DoS o d n v s).m.ok ∧ Wds (DoS o d n v s).hs ∧ Oct (DoS o d n v s).ms := by
  unfold DoS
  split
  · rename_i h
    have hk := doV_ok (⟨hm, hw, mo, h.1⟩ : s.ok) o d n v
    exact ⟨hk.m, hk.hw, hk.mo⟩
  · exact ⟨hm, hw, mo⟩
theorem DoS_len (o d n v : Int) (s : St) : (DoS o d n v s).hs.length = s.hs.length ∧ (DoS o d n v s).ms.length = s.ms.length := by
  unfold DoS
  split
  · exact doV_len o d n v s
  · exact ⟨rfl, rfl⟩
end Go.Proofs.Ytebmgladdgmmeaa
namespace Go.Proofs.Ytebmgladdgmmeaa
open Go.RowKit Go.WideShapes
set_option linter.unusedVariables false
set_option linter.unusedSimpArgs false
theorem stepI_end {i : In} {nx : Nat} {most : Int} {p : Rp} {r : St × List Int × Int} (h : stepI i nx most p = .inl r) : (r = (p.s, p.out, 0) ∧ i.o = 0) ∨ r = (zS, [], 112) ∨ r = (zS, [], 111) := by
  unfold stepI at h
  by_cases h0 : i.o = 0
  · rw [if_pos h0] at h
    injection h with h
    exact .inl ⟨h.symm, h0⟩
  rw [if_neg h0] at h
  by_cases h1 : i.o = 26
  · rw [if_pos h1] at h
    by_cases h2 : most ≤ (p.out.length : Int)
    · rw [if_pos h2] at h
      injection h with h
      exact .inr (.inl h.symm)
    · rw [if_neg h2] at h
      cases h
  rw [if_neg h1] at h
  by_cases h2 : goesB i.o p.s.m.f = true
  · rw [if_pos h2] at h
    by_cases h3 : i.n ≤ (p.at_ : Int)
    · rw [if_pos h3] at h
      by_cases h4 : p.fuel < 1
      · rw [if_pos h4] at h
        injection h with h
        exact .inr (.inr h.symm)
      · rw [if_neg h4] at h
        cases h
    · rw [if_neg h3] at h
      cases h
  rw [if_neg h2] at h
  by_cases h3 : i.o < 26
  · rw [if_pos h3] at h
    cases h
  · rw [if_neg h3] at h
    cases h
theorem stepI_keeps {i : In} {nx : Nat} {most : Int} {p q : Rp} (h : stepI i nx most p = .inr q) (hs : p.s.ok) (hl : (p.out.length : Int) ≤ most) : q.s.ok ∧ q.s.hs.length = p.s.hs.length ∧ q.s.ms.length = p.s.ms.length ∧ (q.out.length : Int) ≤ most := by
  unfold stepI at h
  by_cases h0 : i.o = 0
  · rw [if_pos h0] at h
    cases h
  rw [if_neg h0] at h
  by_cases h1 : i.o = 26
  · rw [if_pos h1] at h
    by_cases h2 : most ≤ (p.out.length : Int)
    · rw [if_pos h2] at h
      cases h
    · rw [if_neg h2] at h
      injection h with h
      subst h
      exact ⟨hs, rfl, rfl, by simp; omega⟩
  rw [if_neg h1] at h
  by_cases h2 : goesB i.o p.s.m.f = true
  · rw [if_pos h2] at h
    by_cases h3 : i.n ≤ (p.at_ : Int)
    · rw [if_pos h3] at h
      by_cases h4 : p.fuel < 1
      · rw [if_pos h4] at h
        cases h
      · rw [if_neg h4] at h
        injection h with h
        subst h
        exact ⟨hs, rfl, rfl, hl⟩
    · rw [if_neg h3] at h
      injection h with h
      subst h
      exact ⟨hs, rfl, rfl, hl⟩
  rw [if_neg h2] at h
  by_cases h3 : i.o < 26
  · rw [if_pos h3] at h
    injection h with h
    subst h
    exact ⟨doV_ok hs _ _ _ _, (doV_len _ _ _ _ _).1, (doV_len _ _ _ _ _).2, hl⟩
  · rw [if_neg h3] at h
    injection h with h
    subst h
    exact ⟨hs, rfl, rfl, hl⟩
/-- How a program ends. -/
structure Ended (most : Int) (s : St) (r : St × List Int × Int) : Prop where
  m : r.1.m.ok
  hs : r.1.hs.length = s.hs.length
  ms : r.1.ms.length = s.ms.length
  len : (r.2.1.length : Int) ≤ most
theorem Runs.ends {bs : List Int} {most : Int} {p : Rp} {r : St × List Int × Int} (h : Runs bs most p r) : p.s.ok → (p.out.length : Int) ≤ most → (r.2.2 = 0 ∧ Ended most p.s r) ∨ ((r.2.2 = 111 ∨ r.2.2 = 112) ∧ r.2.1 = [] ∧ r.1 = zS) := by
  induction h with
  | @done p r h =>
    intro hs hl
    rcases stepI_end h with ⟨rfl, ho⟩ | rfl | rfl
    · exact .inl ⟨rfl, hs.m, rfl, rfl, hl⟩
    · exact .inr ⟨.inr rfl, rfl, rfl⟩
    · exact .inr ⟨.inl rfl, rfl, rfl⟩
  | @more p q r h _ ih =>
    intro hs hl
    obtain ⟨k1, k2, k3, k4⟩ := stepI_keeps h hs hl
    rcases ih k1 k4 with ⟨e, h2⟩ | h2
    · exact .inl ⟨e, h2.m, h2.hs.trans k2, h2.ms.trans k3, h2.len⟩
    · exact .inr h2
end Go.Proofs.Ytebmgladdgmmeaa
namespace Go.Proofs.Ytebmgladdgmmeaa
open Go.RowKit Go.WideShapes Go.ChangeShapes Go.Deep
set_option linter.unusedVariables false
set_option linter.unusedSimpArgs false
theorem tmod_bd (x : Int) (n : Nat) (hn : 0 < n) : -(n : Int) < x.tmod n ∧ x.tmod n < n := by
  rcases Int.le_total 0 x with h | h
  · rw [Int.tmod_eq_emod_of_nonneg h]
    have := Int.emod_nonneg x (b := (n : Int)) (by omega)
    have := Int.emod_lt_of_pos x (b := (n : Int)) (by omega)
    omega
  · have e : x.tmod n = -((-x) % n) := by rw [← Int.tmod_eq_emod_of_nonneg (by omega), Int.neg_tmod, Int.neg_neg]
    have := Int.emod_nonneg (-x) (b := (n : Int)) (by omega)
    have := Int.emod_lt_of_pos (-x) (b := (n : Int)) (by omega)
    omega
/-- Pick: a place from 0 to n - 1. -/
def pickI (x : Int) (n : Nat) : Nat := (if x.tmod n < 0 then x.tmod n + n else x.tmod n).toNat
theorem pickI_lt (x : Int) (n : Nat) (hn : 0 < n) : pickI x n < n := by
  have h := tmod_bd x n hn
  unfold pickI
  split <;> omega
theorem pick_any (x N : Int) (n : Nat) (w : World) (hN : N = n) (hn : 0 < n) (hm : n ≤ 1000000000) (h0 : -9223372036854775808 ≤ x) (h1 : x ≤ 9223372036854775807) :
    Calls Try.prog 31 #[.int .i64 x, .int .i64 N] w (Same (.int .i64 (pickI x n)) w) := by
  have h := tmod_bd x n hn
  have e : ((pickI x n : Nat) : Int) = if x.tmod N < 0 then x.tmod N + N else x.tmod N := by
    subst hN
    unfold pickI
    split <;> omega
  rw [e]
  rw [← hN] at h
  have gN : 1 ≤ N := by omega
  have gM : N ≤ 1000000000 := by omega
  clear hN e
  by_cases hx : x.tmod N < 0
  · rw [if_pos hx]
    go_enter Try.func31, Try.ntmps31
    go_wp2
    go_ret
    exact ⟨rfl, rfl⟩
  · rw [if_neg hx]
    go_enter Try.func31, Try.ntmps31
    go_wp2
    go_ret
    exact ⟨rfl, rfl⟩
end Go.Proofs.Ytebmgladdgmmeaa
