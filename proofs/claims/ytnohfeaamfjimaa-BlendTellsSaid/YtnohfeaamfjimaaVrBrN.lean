/- The reference: how a unit leans, by one contract. -/
import Derived.Test.YtnohfeaamfjimaaVrBrM
import Derived.Test.YtnohfeaamfjimaaVrBrL
import Derived.Test.YtnohfeaamfjimaaVrBrLb
import Derived.Test.YtnohfeaamfjimaaVrBrLc
import Derived.Test.YtnohfeaamfjimaaVrBrLd
namespace Go.Proofs.Ytnohfeaamfjimaa
open Go.RowKit Go.WideShapes
set_option linter.unusedVariables false
set_option linter.unusedSimpArgs false
def slA (g n : Nat) : Option Addr := if n = 0 then none else some ⟨g, 0, none⟩
def slN (c n : Nat) : Nat := if n = 0 then 0 else c
theorem sV_eq (g n c : Nat) : sV g n c = .slice (slA g n) n (slN c n) := by
  unfold sV slA slN
  split
  · rename_i h
    subst h
    rfl
  · rfl
theorem sV_some {g n c : Nat} (h : n ≠ 0) : Value.slice (slA g n) n (slN c n) = .slice (some ⟨g, 0, none⟩) n c := by
  unfold slA slN
  rw [if_neg h, if_neg h]
/-- A unit's cells in the row. -/
structure QF (w : World) (R i : Nat) (u : Un) (l : RL) : Prop where
  q0 : w.cell? ⟨R, i * 16, none⟩ = some (.int .u8 u.p.k)
  q1 : w.cell? ⟨R, i * 16 + 1, none⟩ = some (.int .i64 (u.sz : Int))
  q2 : w.cell? ⟨R, i * 16 + 2, none⟩ = some (.int .i64 u.p.a)
  q3 : w.cell? ⟨R, i * 16 + 3, none⟩ = some (.int .i64 u.p.b)
  q4 : w.cell? ⟨R, i * 16 + 4, none⟩ = some (.int .i64 u.p.c)
  q5 : w.cell? ⟨R, i * 16 + 5, none⟩ = some (.int .i64 u.p.r)
  q6 : w.cell? ⟨R, i * 16 + 6, none⟩ = some (.int .i64 u.p.l)
  q7 : w.cell? ⟨R, i * 16 + 7, none⟩ = some (.int .u32 u.h)
  q8 : w.cell? ⟨R, i * 16 + 8, none⟩ = some (.slice (slA l.g1 u.ch.length) u.ch.length (slN l.c1 u.ch.length))
  q9 : w.cell? ⟨R, i * 16 + 9, none⟩ = some (.slice (slA l.g2 u.ct.length) u.ct.length (slN l.c2 u.ct.length))
  q10 : w.cell? ⟨R, i * 16 + 10, none⟩ = some (.slice (slA l.g3 u.ss.length) u.ss.length (slN u.ss.length u.ss.length))
  q11 : w.cell? ⟨R, i * 16 + 11, none⟩ = some (.slice (slA l.g4 u.wt.length) u.wt.length (slN l.c4 u.wt.length))
  q12 : w.cell? ⟨R, i * 16 + 12, none⟩ = some (.slice (slA l.g5 u.nm.length) u.nm.length (slN u.nm.length u.nm.length))
  q13 : w.cell? ⟨R, i * 16 + 13, none⟩ = some (.slice (slA l.g6 u.rg.length) u.rg.length (slN u.rg.length u.rg.length))
  q14 : w.cell? ⟨R, i * 16 + 14, none⟩ = some (.int .i64 (u.ptr : Int))
  q15 : w.cell? ⟨R, i * 16 + 15, none⟩ = some (.int .i64 (u.len : Int))
theorem RB.qf {w : World} {B R cr bits wh : Nat} {us : List Un} {ls : List RL} {c : Int} (h : RB w B R cr us ls c bits wh) {i : Nat} {u : Un} {l : RL} (hu : us[i]? = some u) (hl : ls[i]? = some l) (hs : u.p.s = (u.sz : Int)) : QF w R i u l := by
  have g : ∀ j v, j < 16 → (u.rc l)[j]? = some v → w.cell? ⟨R, i * 16 + j, none⟩ = some v := fun j v hj hv => h.cell hu hl hj hv
  refine ⟨g 0 _ (by omega) rfl, by rw [← hs]; exact g 1 _ (by omega) rfl, g 2 _ (by omega) rfl, g 3 _ (by omega) rfl, g 4 _ (by omega) rfl, g 5 _ (by omega) rfl, g 6 _ (by omega) rfl, g 7 _ (by omega) rfl, ?_, ?_, ?_, ?_, ?_, ?_, g 14 _ (by omega) rfl, g 15 _ (by omega) rfl⟩
  · rw [← sV_eq]; exact g 8 _ (by omega) rfl
  · rw [← sV_eq]; exact g 9 _ (by omega) rfl
  · rw [← sV_eq]; exact g 10 _ (by omega) rfl
  · rw [← sV_eq]; exact g 11 _ (by omega) rfl
  · rw [← sV_eq]; exact g 12 _ (by omega) rfl
  · rw [← sV_eq]; exact g 13 _ (by omega) rfl
section
variable {u : Un} {l : RL} {w : World} {B R i cr n wh cL bits : Nat} {c : Int} {AL : Option Addr} {L : List Int}
theorem ch29 (h : u.p.k = 2 ∨ u.p.k = 9) : u.ch = evens u.t := if_pos h
theorem ch3 (h : u.p.k = 3) : u.ch = u.x := by unfold Un.ch; rw [if_neg (by omega), if_pos h]
theorem ct29 (h : u.p.k = 2 ∨ u.p.k = 9) : u.ct = odds u.t := if_pos h
theorem ss38 (h : u.p.k = 3 ∨ u.p.k = 8) : u.ss = u.b := if_pos h
theorem wt67 (h : u.p.k = 6 ∨ u.p.k = 7) : u.wt = u.t := if_pos h
theorem wt8 (h : u.p.k = 8) : u.wt = u.x := by unfold Un.wt; rw [if_neg (by omega), if_pos h]
theorem nm4 (h : u.p.k = 4) : u.nm = u.t := if_pos h
theorem rg4 (h : u.p.k = 4) : u.rg = u.b := if_pos h
theorem ne_nil {l : List Int} (h : 0 < l.length) : l ≠ [] := fun e => by rw [e] at h; simp at h
theorem leanR_any (hq : QF w R i u l) (hru : RU w u l) (ho : u.Ok i wh) (hi : i < n) (b0 : w.cell? ⟨B, 0, none⟩ = some (.slice (some ⟨R, 0, none⟩) n cr)) (b1 : w.cell? ⟨B, 1, none⟩ = some (.int .i64 c)) (b2 : w.cell? ⟨B, 2, none⟩ = some (.int .i64 (bits : Int)))
    (hc : 0 ≤ c ∧ c ≤ 255) (hb : bits < 8) (hL : LOk L) (hLi : L.length = i) (h16 : i ≤ 16) (hrd : ∀ j, j < L.length → ∃ g2, AL = some ⟨g2, 0, none⟩ ∧ w.cell? ⟨g2, j, none⟩ = some (.int .i64 (L.getD j 0))) :
    Calls Try.prog 40 #[.pointer (some ⟨B, 0, none⟩), .int .i64 (i : Int), .slice AL L.length cL] w (Quiet (.int .i64 (leanU u c bits L)) w) := by
  have hat := ho.at_lt c
  have hp := ho.pow
  have q := hq
  have atL : ∀ {g2 : Nat} {j : Nat}, AL = some ⟨g2, 0, none⟩ → j < L.length → w.cell? ⟨g2, j, none⟩ = some (.int .i64 (L.getD j 0)) := fun {g2 j} he hj => by
    obtain ⟨g, he2, hcell⟩ := hrd j hj
    rw [he] at he2
    injection he2 with he2
    injection he2 with he2
    subst he2
    exact hcell
  have q0k := q.q0
  unfold leanU
  split
  · rename_i hk
    rw [hk] at q0k
    obtain ⟨t1, t2⟩ := ho.t2 hk
    have e1 := ch29 (.inl hk : u.p.k = 2 ∨ u.p.k = 9)
    have hl1 : u.ch.length = 2 ^ u.sz := by rw [e1, evens_len, t1]; omega
    have hs := t2 (u.at' c) (by rw [t1]; omega)
    have q8s := q.q8
    rw [sV_some (show u.ch.length ≠ 0 by omega)] at q8s
    have hr := (hru.r1 (ne_nil (by omega))).at (getD_i (k := u.at' c) (by omega))
    rw [e1] at hr
    rw [show (evens u.t).getD (u.at' c) 0 = u.t.getD (u.at' c * 2) 0 by rw [List.getD_eq_getElem?_getD, evens_at (by rw [t1]; omega)]; rfl] at hr
    exact leanR2 (h0 := ho.h.1) (h1 := ho.h.2) (c0 := hc.1) (c1 := hc.2) (s2 := ho.s.2) (ha := hat.2) (hi := hi) (b0 := b0) (b1 := b1) (q0 := q0k) (q1 := q.q1) (q2 := q.q2) (q3 := q.q3) (q4 := q.q4) (q5 := q.q5) (q6 := q.q6) (q7 := q.q7) (q8 := q8s) (q9 := q.q9) (q10 := q.q10) (q11 := q.q11) (q12 := q.q12) (q13 := q.q13) (q14 := q.q14) (q15 := q.q15) (ha1 := by omega) (v0 := hs.1.1) (v1 := hs.1.2) (r0 := hr) (AL := AL) (nL := L.length) (cL := cL)
  split
  · rename_i _ hk
    rw [hk] at q0k
    obtain ⟨x1, x2⟩ := ho.x3 hk
    obtain ⟨b1', b2'⟩ := ho.bs (.inl hk)
    have hst := ho.st_lt (.inl hk) c
    have e1 := ch3 hk
    have e3 := ss38 (.inl hk : u.p.k = 3 ∨ u.p.k = 8)
    have hl1 : u.ch.length = 256 := by rw [e1, x1]
    have hl3 : u.ss.length = 2 ^ u.sz := by rw [e3, b1']
    have hx := x2 _ (getD_mem (i := u.st c) (by rw [x1]; exact hst.1))
    have q8s := q.q8
    rw [sV_some (show u.ch.length ≠ 0 by omega)] at q8s
    have q10s := q.q10
    rw [sV_some (show u.ss.length ≠ 0 by rw [hl3]; have := Nat.two_pow_pos u.sz; omega)] at q10s
    have hr := (hru.r1 (ne_nil (by omega))).at (getD_i (k := u.st c) (by omega))
    have h3 := (hru.r3 (ne_nil (by rw [hl3]; omega))).at (k := u.at' c) (v := .int .u8 ((u.st c : Nat) : Int)) (by rw [e3]; unfold octs; rw [List.getElem?_map, hst.2]; rfl)
    rw [e1] at hr
    exact leanR3 (h0 := ho.h.1) (h1 := ho.h.2) (c0 := hc.1) (c1 := hc.2) (s2 := ho.s.2) (ha := hat.2) (hi := hi) (b0 := b0) (b1 := b1) (q0 := q0k) (q1 := q.q1) (q2 := q.q2) (q3 := q.q3) (q4 := q.q4) (q5 := q.q5) (q6 := q.q6) (q7 := q.q7) (q8 := q8s) (q9 := q.q9) (q10 := q10s) (q11 := q.q11) (q12 := q.q12) (q13 := q.q13) (q14 := q.q14) (q15 := q.q15) (ha3 := by omega) (hy1 := by omega) (v0 := hx.1) (v1 := hx.2) (s0 := h3) (r0 := hr) (AL := AL) (nL := L.length) (cL := cL)
  split
  · rename_i _ _ hk
    rw [hk] at q0k
    obtain ⟨b1', b2'⟩ := ho.bs (.inr (.inl hk))
    obtain ⟨m1, m2⟩ := ho.m hk
    have e6 := rg4 hk
    have hl6 : u.rg.length = 2 ^ u.sz := by rw [e6, b1']
    have hy := b2' _ (getD_mem (i := u.ptr) (by rw [b1']; exact m1))
    have ey : ((u.b.getD u.ptr 0).toNat : Int) = u.b.getD u.ptr 0 := Int.toNat_of_nonneg hy.1
    have q13s := q.q13
    rw [sV_some (show u.rg.length ≠ 0 by rw [hl6]; have := Nat.two_pow_pos u.sz; omega)] at q13s
    have h6 := (hru.r6 (ne_nil (by rw [hl6]; omega))).at (getD_o (k := u.ptr) (by omega))
    rw [e6, ← ey] at h6
    have := leanR4 (h0 := ho.h.1) (h1 := ho.h.2) (c0 := hc.1) (c1 := hc.2) (s2 := ho.s.2) (ha := hat.2) (hi := hi) (b0 := b0) (b1 := b1) (q0 := q0k) (q1 := q.q1) (q2 := q.q2) (q3 := q.q3) (q4 := q.q4) (q5 := q.q5) (q6 := q.q6) (q7 := q.q7) (q8 := q.q8) (q9 := q.q9) (q10 := q.q10) (q11 := q.q11) (q12 := q.q12) (q13 := q13s) (q14 := q.q14) (q15 := q.q15) (hy := by omega) (hlen := m2) (hptr := by omega) (hbt := hb) (cc0 := hc.1) (cc1 := hc.2) (b2 := b2) (s0 := h6) (AL := AL) (nL := L.length) (cL := cL)
    rwa [ey] at this
  split
  · rename_i _ _ _ hk
    rw [hk] at q0k
    have ha := ho.a (by omega)
    have hb' := ho.b (.inl hk)
    have q2k := q.q2
    have q3k := q.q3
    rw [ha.1] at q2k
    rw [hb'.1] at q3k
    obtain ⟨g2, rfl, _⟩ := hrd u.A (by omega)
    have h5 := ho.c5 hk
    exact leanR5 (h0 := ho.h.1) (h1 := ho.h.2) (c0 := hc.1) (c1 := hc.2) (s2 := ho.s.2) (ha := hat.2) (hi := hi) (b0 := b0) (b1 := b1) (q0 := q0k) (q1 := q.q1) (q2 := q2k) (q3 := q3k) (q4 := q.q4) (q5 := q.q5) (q6 := q.q6) (q7 := q.q7) (q8 := q.q8) (q9 := q.q9) (q10 := q.q10) (q11 := q.q11) (q12 := q.q12) (q13 := q.q13) (q14 := q.q14) (q15 := q.q15) (hpa := by omega) (hpb := by omega) (x0 := (hL _).1) (x1 := (hL _).2) (y0 := (hL _).1) (y1 := (hL _).2) (pc0 := h5.1) (pc1 := h5.2) (l0 := atL rfl (by omega)) (l1 := atL rfl (by omega)) (x := L.getD u.A 0) (y := L.getD u.Bn 0) (pa := u.A) (pb := u.Bn) (gL := g2) (nL := L.length) (cL := cL)
  split
  · rename_i _ _ _ _ hk
    rw [hk] at q0k
    have ha := ho.a (by omega)
    have hb' := ho.b (.inr hk)
    have q2k := q.q2
    have q3k := q.q3
    rw [ha.1] at q2k
    rw [hb'.1] at q3k
    obtain ⟨g2, rfl, _⟩ := hrd u.A (by omega)
    obtain ⟨t1, t2⟩ := ho.t6 hk
    have e4 := wt67 (.inl hk : u.p.k = 6 ∨ u.p.k = 7)
    have hl4 : u.wt.length = 2 ^ u.sz := by rw [e4, t1]
    have hv := t2 _ (getD_mem (i := u.at' c) (by rw [t1]; exact hat.1))
    have q11s := q.q11
    rw [sV_some (show u.wt.length ≠ 0 by rw [hl4]; have := Nat.two_pow_pos u.sz; omega)] at q11s
    have h4 := (hru.r4 (ne_nil (by rw [hl4]; omega))).at (getD_i (k := u.at' c) (by omega))
    rw [e4] at h4
    exact leanR6 (h0 := ho.h.1) (h1 := ho.h.2) (c0 := hc.1) (c1 := hc.2) (s2 := ho.s.2) (ha := hat.2) (hi := hi) (b0 := b0) (b1 := b1) (q0 := q0k) (q1 := q.q1) (q2 := q2k) (q3 := q3k) (q4 := q.q4) (q5 := q.q5) (q6 := q.q6) (q7 := q.q7) (q8 := q.q8) (q9 := q.q9) (q10 := q.q10) (q11 := q11s) (q12 := q.q12) (q13 := q.q13) (q14 := q.q14) (q15 := q.q15) (hpa := by omega) (hpb := by omega) (x0 := (hL _).1) (x1 := (hL _).2) (y0 := (hL _).1) (y1 := (hL _).2) (ha4 := by omega) (v0 := hv.1) (v1 := hv.2) (l0 := atL rfl (by omega)) (l1 := atL rfl (by omega)) (r0 := h4) (x := L.getD u.A 0) (y := L.getD u.Bn 0) (pa := u.A) (pb := u.Bn) (gL := g2) (nL := L.length) (cL := cL)
  split
  · rename_i _ _ _ _ _ hk
    rw [hk] at q0k
    have ha := ho.a (by omega)
    obtain ⟨e7, b1', b8', bi⟩ := ho.b7 hk
    have q2k := q.q2
    have q3k := q.q3
    rw [ha.1] at q2k
    rw [e7] at q3k
    obtain ⟨g2, rfl, _⟩ := hrd u.A (by omega)
    obtain ⟨t1, t2⟩ := ho.t7 hk
    have e4 := wt67 (.inr hk : u.p.k = 6 ∨ u.p.k = 7)
    have hmul : u.at' c * u.Bn + u.Bn ≤ u.t.length := by
      rw [t1, ← Nat.succ_mul]
      exact Nat.mul_le_mul_right _ hat.1
    have h8 : u.t.length ≤ 65536 * 8 := by rw [t1]; exact Nat.mul_le_mul hp b8'
    have hl4 : u.wt.length = u.t.length := by rw [e4]
    have q11s := q.q11
    rw [sV_some (show u.wt.length ≠ 0 by omega)] at q11s
    have h4 := hru.r4 (ne_nil (by omega))
    rw [e4] at h4
    exact leanR7 (h0 := ho.h.1) (h1 := ho.h.2) (c0 := hc.1) (c1 := hc.2) (s2 := ho.s.2) (ha := hat.2) (hi := hi) (b0 := b0) (b1 := b1) (q0 := q0k) (q1 := q.q1) (q2 := q2k) (q3 := q3k) (q4 := q.q4) (q5 := q.q5) (q6 := q.q6) (q7 := q.q7) (q8 := q.q8) (q9 := q.q9) (q10 := q.q10) (q11 := q11s) (q12 := q.q12) (q13 := q.q13) (q14 := q.q14) (q15 := q.q15) (l := u.t) (L := L) (hpb1 := b1') (hpb8 := b8') (hmb := by omega) (hn4 := by omega) (hpl := by omega) (hnL := by omega) (hlc := fun k hk' => h4.at (getD_i (by omega))) (hxc := fun k hk' => atL rfl (by omega)) (hl := fun k hk' => t2 _ (getD_mem (by omega))) (hx := fun k _ => hL _) (pa := u.A) (pb := u.Bn) (gL := g2) (nL := L.length) (cL := cL)
  split
  · rename_i _ _ _ _ _ _ hk
    rw [hk] at q0k
    have ha := ho.a (by omega)
    have q2k := q.q2
    rw [ha.1] at q2k
    obtain ⟨g2, rfl, _⟩ := hrd u.A (by omega)
    obtain ⟨x1, x2⟩ := ho.x8 hk
    obtain ⟨b1', b2'⟩ := ho.bs (.inr (.inr hk))
    have hst := ho.st_lt (.inr hk) c
    have e3 := ss38 (.inr hk : u.p.k = 3 ∨ u.p.k = 8)
    have e4 := wt8 hk
    have hl3 : u.ss.length = 2 ^ u.sz := by rw [e3, b1']
    have hl4 : u.wt.length = 512 := by rw [e4, x1]
    have hx := x2 _ (getD_mem (i := u.st c * 2) (by rw [x1]; omega))
    have hy := x2 _ (getD_mem (i := u.st c * 2 + 1) (by rw [x1]; omega))
    have q10s := q.q10
    rw [sV_some (show u.ss.length ≠ 0 by rw [hl3]; have := Nat.two_pow_pos u.sz; omega)] at q10s
    have q11s := q.q11
    rw [sV_some (show u.wt.length ≠ 0 by omega)] at q11s
    have h3 := (hru.r3 (ne_nil (by rw [hl3]; omega))).at (k := u.at' c) (v := .int .u8 ((u.st c : Nat) : Int)) (by rw [e3]; unfold octs; rw [List.getElem?_map, hst.2]; rfl)
    have h4 := hru.r4 (ne_nil (by omega))
    rw [e4] at h4
    exact leanR8 (h0 := ho.h.1) (h1 := ho.h.2) (c0 := hc.1) (c1 := hc.2) (s2 := ho.s.2) (ha := hat.2) (hi := hi) (b0 := b0) (b1 := b1) (q0 := q0k) (q1 := q.q1) (q2 := q2k) (q3 := q.q3) (q4 := q.q4) (q5 := q.q5) (q6 := q.q6) (q7 := q.q7) (q8 := q.q8) (q9 := q.q9) (q10 := q10s) (q11 := q11s) (q12 := q.q12) (q13 := q.q13) (q14 := q.q14) (q15 := q.q15) (hpa := by omega) (ha3 := by omega) (hy := hst.1) (ya := u.st c * 2) (yb := u.st c * 2 + 1) (hya := by omega) (hyb := rfl) (hn4 := by omega) (u0 := hx.1) (u1 := hx.2) (v0 := hy.1) (v1 := hy.2) (x0 := (hL _).1) (x1 := (hL _).2) (s0 := h3) (w0 := h4.at (getD_i (by omega))) (w1 := h4.at (getD_i (by omega))) (l0 := atL rfl (by omega)) (x := L.getD u.A 0) (pa := u.A) (gL := g2) (nL := L.length) (cL := cL)
  split
  · rename_i _ _ _ _ _ _ _ hk
    rw [hk] at q0k
    have ha := ho.a (by omega)
    have q2k := q.q2
    rw [ha.1] at q2k
    obtain ⟨g2, rfl, _⟩ := hrd u.A (by omega)
    obtain ⟨t1, t2⟩ := ho.t9 hk
    have e1 := ch29 (.inr hk : u.p.k = 2 ∨ u.p.k = 9)
    have hl1 : u.ch.length = 2 ^ u.sz * 32 := by rw [e1, evens_len, t1]; omega
    have hen := ho.ent_lt (c := c) hL
    have hs := t2 (u.ent c L) (by rw [t1]; omega)
    have hLA := hL u.A
    have q8s := q.q8
    rw [sV_some (show u.ch.length ≠ 0 by omega)] at q8s
    have hr := (hru.r1 (ne_nil (by omega))).at (getD_i (k := u.ent c L) (by omega))
    rw [e1] at hr
    rw [show (evens u.t).getD (u.ent c L) 0 = u.t.getD (u.ent c L * 2) 0 by rw [List.getD_eq_getElem?_getD, evens_at (by rw [t1]; omega)]; rfl] at hr
    exact leanR9 (h0 := ho.h.1) (h1 := ho.h.2) (c0 := hc.1) (c1 := hc.2) (s2 := ho.s.2) (ha := hat.2) (hi := hi) (b0 := b0) (b1 := b1) (q0 := q0k) (q1 := q.q1) (q2 := q2k) (q3 := q.q3) (q4 := q.q4) (q5 := q.q5) (q6 := q.q6) (q7 := q.q7) (q8 := q8s) (q9 := q.q9) (q10 := q.q10) (q11 := q.q11) (q12 := q.q12) (q13 := q.q13) (q14 := q.q14) (q15 := q.q15) (hpa := by omega) (haa := by omega) (hen := by unfold Un.ent; push_cast; omega) (hn1 := by omega) (x0 := hLA.1) (x1 := hLA.2) (v0 := hs.1.1) (v1 := hs.1.2) (r0 := hr) (l0 := atL rfl (by omega)) (x := L.getD u.A 0) (pa := u.A) (gL := g2) (nL := L.length) (cL := cL)
  · rename_i h2 h3 h4 h5 h6 h7 h8 h9
    have hk : u.p.k = 1 := by have := ho.k; omega
    rw [hk] at q0k
    exact leanR1 (h0 := ho.h.1) (h1 := ho.h.2) (c0 := hc.1) (c1 := hc.2) (s2 := ho.s.2) (ha := hat.2) (hi := hi) (b0 := b0) (b1 := b1) (q0 := q0k) (q1 := q.q1) (q2 := q.q2) (q3 := q.q3) (q4 := q.q4) (q5 := q.q5) (q6 := q.q6) (q7 := q.q7) (q8 := q.q8) (q9 := q.q9) (q10 := q.q10) (q11 := q.q11) (q12 := q.q12) (q13 := q.q13) (q14 := q.q14) (q15 := q.q15) (AL := AL) (nL := L.length) (cL := cL)
end
end Go.Proofs.Ytnohfeaamfjimaa
