/- What VmDoes' walk asks of Do's and New's answers. Plain, over their contracts. · A right program with more rounds and more room: plain. · Pick; VmEnds' argument of numbers opened: the walk of Pick. No condition. -/
import Derived.Test.YtebmgladdgmmeaaVdGRe
import Derived.Test.YtebmgladdgmmeaaVdGQd
import Derived.Test.YtebmgladdgmmeaaVdGQa
import Derived.Test.YtebmgladdgmmeaaVdHeld
import Derived.BigRegion
import Derived.Test.YtebmgladdgmmeaaVdGMo
namespace Go.Proofs.Ytebmgladdgmmeaa
open Go.RowKit Go.WideShapes
theorem wf_i64 {x : Int} (h : (Lit.int .i64 x).wf = true) : -9223372036854775808 ≤ x ∧ x ≤ 9223372036854775807 := by
  simp [Lit.wf, IntKind.min, IntKind.max, IntKind.signed, IntKind.bits] at h
  exact ⟨by omega, by omega⟩
end Go.Proofs.Ytebmgladdgmmeaa
namespace Go.Proofs.Ytebmgladdgmmeaa
open Go.RowKit Go.WideShapes
set_option linter.unusedVariables false
set_option linter.unusedSimpArgs false
theorem ok_a {s : St} (h : s.ok) {x : Int} (hx : U32 x) : ({ s with m := { s.m with a := x } } : St).ok := ⟨⟨hx, h.m.b, h.m.c, h.m.d, h.m.len, h.m.r⟩, h.hw, h.mo, h.right⟩
theorem ok_f {s : St} (h : s.ok) (b : Bool) : ({ s with m := { s.m with f := b } } : St).ok := ⟨⟨h.m.a, h.m.b, h.m.c, h.m.d, h.m.len, h.m.r⟩, h.hw, h.mo, h.right⟩
theorem ok_r {s : St} (h : s.ok) (k : Nat) {x : Int} (hx : U32 x) : ({ s with m := { s.m with r := s.m.r.set k x } } : St).ok := ⟨⟨h.m.a, h.m.b, h.m.c, h.m.d, by rw [List.length_set]; exact h.m.len, fun y hy => mem_set h.m.r hx y hy⟩, h.hw, h.mo, h.right⟩
theorem r_u32 {s : St} (h : s.ok) (k : Nat) : U32 (s.m.r.getD k 0) := by
  rw [List.getD_eq_getElem?_getD]
  rcases Nat.lt_or_ge k s.m.r.length with hk | hk
  · rw [List.getElem?_eq_getElem hk]
    exact h.m.r _ (List.getElem_mem hk)
  · rw [List.getElem?_eq_none hk]
    exact u32_0
theorem ite_ok {c : Prop} [Decidable c] {a b : St} (ha : a.ok) (hb : b.ok) : (if c then a else b).ok := by
  by_cases h : c
  · rw [if_pos h]
    exact ha
  · rw [if_neg h]
    exact hb
theorem doV_ok {s : St} (h : s.ok) (o d n v : Int) : (doV o d n v s).ok := by
  have hg := getP_u32 h d
  unfold doV
  exact ite_ok (ok_a h (calcV_u32 o h.m.a (operV_u32 h n v))) (ite_ok (ok_f h _) (ite_ok (setP_ok h d (operV_u32 h n v)) (ite_ok (setP_ok h d (mod_range _)) (ite_ok (setP_ok h d (mod_range _))
    (ite_ok (setP_ok h d (mod_range _)) (ite_ok (setP_ok h d ⟨by have := hg.2; omega, by have := hg.1; omega⟩) (ite_ok (setP_ok h d u32_0) (ite_ok (ok_a (setP_ok h d h.m.a) hg)
    (ite_ok (setP_ok h d (r_u32 h _)) (ite_ok (ok_r h _ h.m.a) (ite_ok (ok_a h (mod_range _)) (ite_ok (setP_ok h 6 (mod_range _)) h))))))))))))
/-- SameMachine of two that are one, handed back. -/
theorem same_own (s : St) (hm : s.m.ok) (b b' : Nat) (v1 v2 u1 u2 : Value) (w : World) (h1 : OwnR w b v1 45 (s.hs.map (.int .u32))) (h2 : OwnR w b v2 5 (s.ms.map (.int .u8))) (h3 : OwnR w b' u1 45 (s.hs.map (.int .u32))) (h4 : OwnR w b' u2 5 (s.ms.map (.int .u8))) (lh : s.hs.length ≤ 5000) (lm : s.ms.length ≤ 5000) :
    Calls Try.prog 26 #[.agg (s.m.cells v1 v2), .agg (s.m.cells u1 u2)] w (Quiet (.bool true) w) := by
  obtain ⟨A1, d1, rfl, _, r1, _⟩ := h1.form
  obtain ⟨A2, d2, rfl, _, r2, _⟩ := h2.form
  obtain ⟨A3, d3, rfl, _, r3, _⟩ := h3.form
  obtain ⟨A4, d4, rfl, _, r4, _⟩ := h4.form
  simp only [List.length_map]
  exact same26 s hm A1 A2 A3 A4 d1 d2 d3 d4 s.hs.length s.ms.length w rfl rfl r1 r2 r3 r4 (by omega) (by omega)
end Go.Proofs.Ytebmgladdgmmeaa
namespace Go.Proofs.Ytebmgladdgmmeaa
open Go.RowKit Go.WideShapes
set_option linter.unusedVariables false
set_option linter.unusedSimpArgs false
theorem stepI_end {i : In} {nx : Nat} {most : Int} {p : Rp} {r : St × List Int × Int} (h : stepI i nx most p = .inl r) : (r = (p.s, p.out, 0) ∧ i.o = 0) ∨ r = (zS, [], 112) ∨ r = (zS, [], 111) := by
  unfold stepI at h
  by_cases h0 : i.o = 0
  · rw [if_pos h0] at h
    injection h with h
    exact .inl ⟨h.symm, h0⟩
  rw [if_neg h0] at h
  by_cases h1 : i.o = 26
  · rw [if_pos h1] at h
    by_cases h2 : most ≤ (p.out.length : Int)
    · rw [if_pos h2] at h
      injection h with h
      exact .inr (.inl h.symm)
    · rw [if_neg h2] at h
      cases h
  rw [if_neg h1] at h
  by_cases h2 : goesB i.o p.s.m.f = true
  · rw [if_pos h2] at h
    by_cases h3 : i.n ≤ (p.at_ : Int)
    · rw [if_pos h3] at h
      by_cases h4 : p.fuel < 1
      · rw [if_pos h4] at h
        injection h with h
        exact .inr (.inr h.symm)
      · rw [if_neg h4] at h
        cases h
    · rw [if_neg h3] at h
      cases h
  rw [if_neg h2] at h
  by_cases h3 : i.o < 26
  · rw [if_pos h3] at h
    cases h
  · rw [if_neg h3] at h
    cases h
theorem stepI_more {i : In} {nx : Nat} {most most' f' : Int} {p q : Rp} (h : stepI i nx most p = .inr q) (hf : p.fuel ≤ f') (hm : most ≤ most') : ∃ f'', q.fuel ≤ f'' ∧ stepI i nx most' ⟨p.at_, f', p.s, p.out⟩ = .inr ⟨q.at_, f'', q.s, q.out⟩ := by
  unfold stepI at h ⊢
  by_cases h0 : i.o = 0
  · rw [if_pos h0] at h
    cases h
  rw [if_neg h0] at h
  rw [if_neg h0]
  by_cases h1 : i.o = 26
  · rw [if_pos h1] at h
    rw [if_pos h1]
    by_cases h2 : most ≤ (p.out.length : Int)
    · rw [if_pos h2] at h
      cases h
    · rw [if_neg h2] at h
      injection h with h
      subst h
      exact ⟨f', hf, by rw [if_neg (show ¬ most' ≤ (p.out.length : Int) by omega)]⟩
  rw [if_neg h1] at h
  rw [if_neg h1]
  by_cases h2 : goesB i.o p.s.m.f = true
  · rw [if_pos h2] at h
    rw [if_pos h2]
    by_cases h3 : i.n ≤ (p.at_ : Int)
    · rw [if_pos h3] at h
      rw [if_pos h3]
      by_cases h4 : p.fuel < 1
      · rw [if_pos h4] at h
        cases h
      · rw [if_neg h4] at h
        injection h with h
        subst h
        exact ⟨f' - 1, by show p.fuel - 1 ≤ f' - 1; omega, by rw [if_neg (show ¬ f' < 1 by omega)]⟩
    · rw [if_neg h3] at h
      rw [if_neg h3]
      injection h with h
      subst h
      exact ⟨f', hf, rfl⟩
  rw [if_neg h2] at h
  rw [if_neg h2]
  by_cases h3 : i.o < 26
  · rw [if_pos h3] at h
    rw [if_pos h3]
    injection h with h
    subst h
    exact ⟨f', hf, rfl⟩
  · rw [if_neg h3] at h
    rw [if_neg h3]
    injection h with h
    subst h
    exact ⟨f', hf, rfl⟩
theorem stepI_keeps {i : In} {nx : Nat} {most : Int} {p q : Rp} (h : stepI i nx most p = .inr q) (hs : p.s.ok) (hl : (p.out.length : Int) ≤ most) : q.s.ok ∧ q.s.hs.length = p.s.hs.length ∧ q.s.ms.length = p.s.ms.length ∧ (q.out.length : Int) ≤ most := by
  unfold stepI at h
  by_cases h0 : i.o = 0
  · rw [if_pos h0] at h
    cases h
  rw [if_neg h0] at h
  by_cases h1 : i.o = 26
  · rw [if_pos h1] at h
    by_cases h2 : most ≤ (p.out.length : Int)
    · rw [if_pos h2] at h
      cases h
    · rw [if_neg h2] at h
      injection h with h
      subst h
      exact ⟨hs, rfl, rfl, by simp; omega⟩
  rw [if_neg h1] at h
  by_cases h2 : goesB i.o p.s.m.f = true
  · rw [if_pos h2] at h
    by_cases h3 : i.n ≤ (p.at_ : Int)
    · rw [if_pos h3] at h
      by_cases h4 : p.fuel < 1
      · rw [if_pos h4] at h
        cases h
      · rw [if_neg h4] at h
        injection h with h
        subst h
        exact ⟨hs, rfl, rfl, hl⟩
    · rw [if_neg h3] at h
      injection h with h
      subst h
      exact ⟨hs, rfl, rfl, hl⟩
  rw [if_neg h2] at h
  by_cases h3 : i.o < 26
  · rw [if_pos h3] at h
    injection h with h
    subst h
    exact ⟨doV_ok hs _ _ _ _, (doV_len _ _ _ _ _).1, (doV_len _ _ _ _ _).2, hl⟩
  · rw [if_neg h3] at h
    injection h with h
    subst h
    exact ⟨hs, rfl, rfl, hl⟩
theorem Runs.more_room {bs : List Int} {most most' : Int} {p : Rp} {r : St × List Int × Int} (h : Runs bs most p r) (hm : most ≤ most') : r.2.2 = 0 → ∀ f', p.fuel ≤ f' → Runs bs most' ⟨p.at_, f', p.s, p.out⟩ r := by
  induction h with
  | @done p r h =>
    intro h0 f' hf
    rcases stepI_end h with ⟨rfl, ho⟩ | rfl | rfl
    · refine .done ?_
      unfold stepR stepI
      rw [if_pos ho]
    · cases h0
    · cases h0
  | @more p q r h _ ih =>
    intro h0 f' hf
    obtain ⟨f2, h2, h3⟩ := stepI_more h hf hm
    exact .more h3 (ih h0 f2 h2)
/-- How a program ends. -/
structure Ended (most : Int) (s : St) (r : St × List Int × Int) : Prop where
  m : r.1.m.ok
  hs : r.1.hs.length = s.hs.length
  ms : r.1.ms.length = s.ms.length
  len : (r.2.1.length : Int) ≤ most
theorem Runs.ends {bs : List Int} {most : Int} {p : Rp} {r : St × List Int × Int} (h : Runs bs most p r) : p.s.ok → (p.out.length : Int) ≤ most → (r.2.2 = 0 ∧ Ended most p.s r) ∨ ((r.2.2 = 111 ∨ r.2.2 = 112) ∧ r.2.1 = [] ∧ r.1 = zS) := by
  induction h with
  | @done p r h =>
    intro hs hl
    rcases stepI_end h with ⟨rfl, ho⟩ | rfl | rfl
    · exact .inl ⟨rfl, hs.m, rfl, rfl, hl⟩
    · exact .inr ⟨.inr rfl, rfl, rfl⟩
    · exact .inr ⟨.inl rfl, rfl, rfl⟩
  | @more p q r h _ ih =>
    intro hs hl
    obtain ⟨k1, k2, k3, k4⟩ := stepI_keeps h hs hl
    rcases ih k1 k4 with ⟨e, h2⟩ | h2
    · exact .inl ⟨e, h2.m, h2.hs.trans k2, h2.ms.trans k3, h2.len⟩
    · exact .inr h2
/-- The stage's theorem. -/
theorem ends_both {bs : List Int} {s : St} {f1 f2 m1 m2 : Int} {r1 r2 : St × List Int × Int} (hc : chk bs true = 0) (hs : s.ok) (hf : f1 ≤ f2) (hm : m1 ≤ m2) (h0 : 0 ≤ m1) (h1 : RunV bs true s f1 m1 r1) (h2 : RunV bs true s f2 m2 r2) :
    (r1.2.2 = 0 ∧ r2 = r1 ∧ Ended m1 s r1) ∨ ((r1.2.2 = 111 ∨ r1.2.2 = 112) ∧ r1.2.1 = [] ∧ r1.1 = zS) := by
  unfold RunV at h1 h2
  rw [if_pos hc, if_pos hs.right] at h1 h2
  rcases h1.ends hs (by simpa using h0) with ⟨e, he⟩ | h
  · exact .inl ⟨e, h2.one (h1.more_room hm e f2 hf), he⟩
  · exact .inr h
end Go.Proofs.Ytebmgladdgmmeaa
namespace Go.Proofs.Ytebmgladdgmmeaa
open Go.RowKit Go.WideShapes Go.ChangeShapes Go.Deep
set_option linter.unusedVariables false
set_option linter.unusedSimpArgs false
theorem tmod_bd (x : Int) (n : Nat) (hn : 0 < n) : -(n : Int) < x.tmod n ∧ x.tmod n < n := by
  rcases Int.le_total 0 x with h | h
  · rw [Int.tmod_eq_emod_of_nonneg h]
    have := Int.emod_nonneg x (b := (n : Int)) (by omega)
    have := Int.emod_lt_of_pos x (b := (n : Int)) (by omega)
    omega
  · have e : x.tmod n = -((-x) % n) := by rw [← Int.tmod_eq_emod_of_nonneg (by omega), Int.neg_tmod, Int.neg_neg]
    have := Int.emod_nonneg (-x) (b := (n : Int)) (by omega)
    have := Int.emod_lt_of_pos (-x) (b := (n : Int)) (by omega)
    omega
/-- Pick: a place from 0 to n - 1. -/
def pickI (x : Int) (n : Nat) : Nat := (if x.tmod n < 0 then x.tmod n + n else x.tmod n).toNat
theorem pickI_lt (x : Int) (n : Nat) (hn : 0 < n) : pickI x n < n := by
  have h := tmod_bd x n hn
  unfold pickI
  split <;> omega
theorem pick_any (x N : Int) (n : Nat) (w : World) (hN : N = n) (hn : 0 < n) (hm : n ≤ 1000000000) (h0 : -9223372036854775808 ≤ x) (h1 : x ≤ 9223372036854775807) :
    Calls Try.prog 31 #[.int .i64 x, .int .i64 N] w (Same (.int .i64 (pickI x n)) w) := by
  have h := tmod_bd x n hn
  have e : ((pickI x n : Nat) : Int) = if x.tmod N < 0 then x.tmod N + N else x.tmod N := by
    subst hN
    unfold pickI
    split <;> omega
  rw [e]
  rw [← hN] at h
  have gN : 1 ≤ N := by omega
  have gM : N ≤ 1000000000 := by omega
  clear hN e
  by_cases hx : x.tmod N < 0
  · rw [if_pos hx]
    go_enter Try.func31, Try.ntmps31
    go_wp2
    go_ret
    exact ⟨rfl, rfl⟩
  · rw [if_neg hx]
    go_enter Try.func31, Try.ntmps31
    go_wp2
    go_ret
    exact ⟨rfl, rfl⟩
set_option maxRecDepth 100000 in
theorem open_four {H : Type} {enc : TypeId × Value → H} {w : World} {base : Nat} {d : DataW H} {ps : List MemPlace} {v : Value} (hv : Value.okWide Try.prog w .any base 60 v) (hk : DataW.Trod enc Try.prog w 0 (fun _ => true) true 60 v d ps) :
    ∃ a b c e : Int, v = .agg #[.int .i64 a, .int .i64 b, .int .i64 c, .int .i64 e] ∧ (-9223372036854775808 ≤ a ∧ a ≤ 9223372036854775807) ∧ (-9223372036854775808 ≤ b ∧ b ≤ 9223372036854775807) ∧ (-9223372036854775808 ≤ c ∧ c ≤ 9223372036854775807) ∧ (-9223372036854775808 ≤ e ∧ e ≤ 9223372036854775807) := by
  obtain ⟨cs, rfl, hcsz⟩ := okWide_arr Try.underlying60 hv
  obtain ⟨fuel, hf⟩ := hk
  obtain ⟨xs, n, hm, hy, hl, hxl, hf⟩ := DataW.trod_array Try.underlying60 hf
  have hcc : (Value.agg cs).cells.toList = cs.toList := rfl
  rw [hcc] at hl hf
  have c3 : Try.prog.cellsOf 3 = 1 := by kernel_rfl
  have c51 : Try.prog.cellsOf 51 = 2 := by kernel_rfl
  have c60 : Try.prog.cellsOf 60 = 4 := by kernel_rfl
  rw [c60] at hl
  have h0 := hf 0 (by omega)
  have h1 := hf 1 (by omega)
  rw [c51, List.getElem?_eq_getElem (by omega)] at h0 h1
  obtain ⟨x0, k0, _, _, l0, xl0, g0⟩ := DataW.trod_array Try.underlying51 h0
  obtain ⟨x1, k1, _, _, l1, xl1, g1⟩ := DataW.trod_array Try.underlying51 h1
  have a0 := g0 0 (by omega)
  have a1 := g0 1 (by omega)
  have b0 := g1 0 (by omega)
  have b1 := g1 1 (by omega)
  rw [c3, List.getElem?_eq_getElem (by omega)] at a0 a1 b0 b1
  obtain ⟨n0, q0, _, wf0⟩ := DataW.trod_int Try.underlying3 a0
  obtain ⟨n1, q1, _, wf1⟩ := DataW.trod_int Try.underlying3 a1
  obtain ⟨n2, q2, _, wf2⟩ := DataW.trod_int Try.underlying3 b0
  obtain ⟨n3, q3, _, wf3⟩ := DataW.trod_int Try.underlying3 b1
  have p0 : (cs.toList.drop (0 * 2)).take 2 = ([.int .i64 n0] : List Value) ++ ([.int .i64 n1] ++ []) := by
    have e : ((cs.toList.drop (0 * 2)).take 2).drop 2 = [] := List.drop_eq_nil_of_le (by simp; omega)
    rw [← q0, ← q1, ← e]
    rw [← drop_split ((cs.toList.drop (0 * 2)).take 2) (1 * 1) 1, ← drop_split ((cs.toList.drop (0 * 2)).take 2) (0 * 1) 1]
    rfl
  have p1 : (cs.toList.drop (1 * 2)).take 2 = ([.int .i64 n2] : List Value) ++ ([.int .i64 n3] ++ []) := by
    have e : ((cs.toList.drop (1 * 2)).take 2).drop 2 = [] := List.drop_eq_nil_of_le (by simp; omega)
    rw [← q2, ← q3, ← e]
    rw [← drop_split ((cs.toList.drop (1 * 2)).take 2) (1 * 1) 1, ← drop_split ((cs.toList.drop (1 * 2)).take 2) (0 * 1) 1]
    rfl
  have hd : cs.toList = (([.int .i64 n0] : List Value) ++ ([.int .i64 n1] ++ [])) ++ ((([.int .i64 n2] : List Value) ++ ([.int .i64 n3] ++ [])) ++ []) := by
    have e : cs.toList.drop 4 = [] := List.drop_eq_nil_of_le (by omega)
    rw [← p0, ← p1, ← e]
    rw [← drop_split cs.toList (1 * 2) 2, ← drop_split cs.toList (0 * 2) 2]
    rfl
  refine ⟨n0, n1, n2, n3, ?_, wf_i64 wf0, wf_i64 wf1, wf_i64 wf2, wf_i64 wf3⟩
  congr 1
  exact Array.ext' hd
end Go.Proofs.Ytebmgladdgmmeaa
