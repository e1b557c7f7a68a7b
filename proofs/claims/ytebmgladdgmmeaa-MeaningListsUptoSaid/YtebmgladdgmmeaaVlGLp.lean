/- What VmDoes' walk asks of Do's and New's answers. Plain, over their contracts. · A right program with more rounds and more room: plain. -/
import Derived.Test.YtebmgladdgmmeaaVdGRe
import Derived.Test.YtebmgladdgmmeaaVdGQd
import Derived.Test.YtebmgladdgmmeaaVdGQa
import Derived.Test.YtebmgladdgmmeaaVdHeld
import Derived.BigRegion
import Derived.Test.YtebmgladdgmmeaaVlGMo
namespace Go.Proofs.Ytebmgladdgmmeaa
open Go.RowKit Go.WideShapes
set_option linter.unusedVariables false
set_option linter.unusedSimpArgs false
theorem ok_a {s : St} (h : s.ok) {x : Int} (hx : U32 x) : ({ s with m := { s.m with a := x } } : St).ok := ⟨⟨hx, h.m.b, h.m.c, h.m.d, h.m.len, h.m.r⟩, h.hw, h.mo, h.right⟩
theorem ok_f {s : St} (h : s.ok) (b : Bool) : ({ s with m := { s.m with f := b } } : St).ok := ⟨⟨h.m.a, h.m.b, h.m.c, h.m.d, h.m.len, h.m.r⟩, h.hw, h.mo, h.right⟩
theorem ok_r {s : St} (h : s.ok) (k : Nat) {x : Int} (hx : U32 x) : ({ s with m := { s.m with r := s.m.r.set k x } } : St).ok := ⟨⟨h.m.a, h.m.b, h.m.c, h.m.d, by rw [List.length_set]; exact h.m.len, fun y hy => mem_set h.m.r hx y hy⟩, h.hw, h.mo, h.right⟩
theorem r_u32 {s : St} (h : s.ok) (k : Nat) : U32 (s.m.r.getD k 0) := by
  rw [List.getD_eq_getElem?_getD]
  rcases Nat.lt_or_ge k s.m.r.length with hk | hk
  · rw [List.getElem?_eq_getElem hk]
    exact h.m.r _ (List.getElem_mem hk)
  · rw [List.getElem?_eq_none hk]
    exact u32_0
theorem ite_ok {c : Prop} [Decidable c] {a b : St} (ha : a.ok) (hb : b.ok) : (if c then a else b).ok := by
  by_cases h : c
  · rw [if_pos h]
    exact ha
  · rw [if_neg h]
    exact hb
theorem doV_ok {s : St} (h : s.ok) (o d n v : Int) : (doV o d n v s).ok := by
  have hg := getP_u32 h d
  unfold doV
  exact ite_ok (ok_a h (calcV_u32 o h.m.a (operV_u32 h n v))) (ite_ok (ok_f h _) (ite_ok (setP_ok h d (operV_u32 h n v)) (ite_ok (setP_ok h d (mod_range _)) (ite_ok (setP_ok h d (mod_range _))
    (ite_ok (setP_ok h d (mod_range _)) (ite_ok (setP_ok h d ⟨by have := hg.2; omega, by have := hg.1; omega⟩) (ite_ok (setP_ok h d u32_0) (ite_ok (ok_a (setP_ok h d h.m.a) hg)
    (ite_ok (setP_ok h d (r_u32 h _)) (ite_ok (ok_r h _ h.m.a) (ite_ok (ok_a h (mod_range _)) (ite_ok (setP_ok h 6 (mod_range _)) h))))))))))))
theorem DoS_ok (o d n v : Int) {s : St} (hm : s.m.ok) (hw : Wds s.hs) (mo : Oct s.ms) : (DoS o d n v s).m.ok ∧ Wds (DoS o d n v s).hs ∧ Oct (DoS o d n v s).ms := by
  unfold DoS
  split
  · rename_i h
    have hk := doV_ok (⟨hm, hw, mo, h.1⟩ : s.ok) o d n v
    exact ⟨hk.m, hk.hw, hk.mo⟩
  · exact ⟨hm, hw, mo⟩
theorem DoS_len (o d n v : Int) (s : St) : (DoS o d n v s).hs.length = s.hs.length ∧ (DoS o d n v s).ms.length = s.ms.length := by
  unfold DoS
  split
  · exact doV_len o d n v s
  · exact ⟨rfl, rfl⟩
/-- SameMachine of two that are one, handed back. -/
theorem same_own (s : St) (hm : s.m.ok) (b b' : Nat) (v1 v2 u1 u2 : Value) (w : World) (h1 : OwnR w b v1 45 (s.hs.map (.int .u32))) (h2 : OwnR w b v2 5 (s.ms.map (.int .u8))) (h3 : OwnR w b' u1 45 (s.hs.map (.int .u32))) (h4 : OwnR w b' u2 5 (s.ms.map (.int .u8))) (lh : s.hs.length ≤ 5000) (lm : s.ms.length ≤ 5000) :
    Calls Try.prog 26 #[.agg (s.m.cells v1 v2), .agg (s.m.cells u1 u2)] w (Quiet (.bool true) w) := by
  obtain ⟨A1, d1, rfl, _, r1, _⟩ := h1.form
  obtain ⟨A2, d2, rfl, _, r2, _⟩ := h2.form
  obtain ⟨A3, d3, rfl, _, r3, _⟩ := h3.form
  obtain ⟨A4, d4, rfl, _, r4, _⟩ := h4.form
  simp only [List.length_map]
  exact same26 s hm A1 A2 A3 A4 d1 d2 d3 d4 s.hs.length s.ms.length w rfl rfl r1 r2 r3 r4 (by omega) (by omega)
end Go.Proofs.Ytebmgladdgmmeaa
namespace Go.Proofs.Ytebmgladdgmmeaa
open Go.RowKit Go.WideShapes
set_option linter.unusedVariables false
set_option linter.unusedSimpArgs false
theorem stepI_end {i : In} {nx : Nat} {most : Int} {p : Rp} {r : St × List Int × Int} (h : stepI i nx most p = .inl r) : (r = (p.s, p.out, 0) ∧ i.o = 0) ∨ r = (zS, [], 112) ∨ r = (zS, [], 111) := by
  unfold stepI at h
  by_cases h0 : i.o = 0
  · rw [if_pos h0] at h
    injection h with h
    exact .inl ⟨h.symm, h0⟩
  rw [if_neg h0] at h
  by_cases h1 : i.o = 26
  · rw [if_pos h1] at h
    by_cases h2 : most ≤ (p.out.length : Int)
    · rw [if_pos h2] at h
      injection h with h
      exact .inr (.inl h.symm)
    · rw [if_neg h2] at h
      cases h
  rw [if_neg h1] at h
  by_cases h2 : goesB i.o p.s.m.f = true
  · rw [if_pos h2] at h
    by_cases h3 : i.n ≤ (p.at_ : Int)
    · rw [if_pos h3] at h
      by_cases h4 : p.fuel < 1
      · rw [if_pos h4] at h
        injection h with h
        exact .inr (.inr h.symm)
      · rw [if_neg h4] at h
        cases h
    · rw [if_neg h3] at h
      cases h
  rw [if_neg h2] at h
  by_cases h3 : i.o < 26
  · rw [if_pos h3] at h
    cases h
  · rw [if_neg h3] at h
    cases h
theorem stepI_keeps {i : In} {nx : Nat} {most : Int} {p q : Rp} (h : stepI i nx most p = .inr q) (hs : p.s.ok) (hl : (p.out.length : Int) ≤ most) : q.s.ok ∧ q.s.hs.length = p.s.hs.length ∧ q.s.ms.length = p.s.ms.length ∧ (q.out.length : Int) ≤ most := by
  unfold stepI at h
  by_cases h0 : i.o = 0
  · rw [if_pos h0] at h
    cases h
  rw [if_neg h0] at h
  by_cases h1 : i.o = 26
  · rw [if_pos h1] at h
    by_cases h2 : most ≤ (p.out.length : Int)
    · rw [if_pos h2] at h
      cases h
    · rw [if_neg h2] at h
      injection h with h
      subst h
      exact ⟨hs, rfl, rfl, by simp; omega⟩
  rw [if_neg h1] at h
  by_cases h2 : goesB i.o p.s.m.f = true
  · rw [if_pos h2] at h
    by_cases h3 : i.n ≤ (p.at_ : Int)
    · rw [if_pos h3] at h
      by_cases h4 : p.fuel < 1
      · rw [if_pos h4] at h
        cases h
      · rw [if_neg h4] at h
        injection h with h
        subst h
        exact ⟨hs, rfl, rfl, hl⟩
    · rw [if_neg h3] at h
      injection h with h
      subst h
      exact ⟨hs, rfl, rfl, hl⟩
  rw [if_neg h2] at h
  by_cases h3 : i.o < 26
  · rw [if_pos h3] at h
    injection h with h
    subst h
    exact ⟨doV_ok hs _ _ _ _, (doV_len _ _ _ _ _).1, (doV_len _ _ _ _ _).2, hl⟩
  · rw [if_neg h3] at h
    injection h with h
    subst h
    exact ⟨hs, rfl, rfl, hl⟩
/-- How a program ends. -/
structure Ended (most : Int) (s : St) (r : St × List Int × Int) : Prop where
  m : r.1.m.ok
  hs : r.1.hs.length = s.hs.length
  ms : r.1.ms.length = s.ms.length
  len : (r.2.1.length : Int) ≤ most
theorem Runs.ends {bs : List Int} {most : Int} {p : Rp} {r : St × List Int × Int} (h : Runs bs most p r) : p.s.ok → (p.out.length : Int) ≤ most → (r.2.2 = 0 ∧ Ended most p.s r) ∨ ((r.2.2 = 111 ∨ r.2.2 = 112) ∧ r.2.1 = [] ∧ r.1 = zS) := by
  induction h with
  | @done p r h =>
    intro hs hl
    rcases stepI_end h with ⟨rfl, ho⟩ | rfl | rfl
    · exact .inl ⟨rfl, hs.m, rfl, rfl, hl⟩
    · exact .inr ⟨.inr rfl, rfl, rfl⟩
    · exact .inr ⟨.inl rfl, rfl, rfl⟩
  | @more p q r h _ ih =>
    intro hs hl
    obtain ⟨k1, k2, k3, k4⟩ := stepI_keeps h hs hl
    rcases ih k1 k4 with ⟨e, h2⟩ | h2
    · exact .inl ⟨e, h2.m, h2.hs.trans k2, h2.ms.trans k3, h2.len⟩
    · exact .inr h2
end Go.Proofs.Ytebmgladdgmmeaa
