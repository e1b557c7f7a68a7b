/- The reference: how a unit learns, by one contract. -/
import Derived.Test.YtnohfeaamfjimaaVrBrN
import Derived.Test.YtnohfeaamfjimaaVrBrT
import Derived.Test.YtnohfeaamfjimaaVrBrU
import Derived.Test.YtnohfeaamfjimaaVrBrW
import Derived.Test.YtnohfeaamfjimaaVrBrX
namespace Go.Proofs.Ytnohfeaamfjimaa
open Go.RowKit Go.WideShapes
set_option linter.unusedVariables false
set_option linter.unusedSimpArgs false
theorem evens_slow {t : List Int} {a : Nat} (bit lim : Int) (h : a * 2 + 1 < t.length) : evens (slowT t (a * 2) bit lim) = (evens t).set a (chL (t.getD (a * 2) 0) (t.getD (a * 2 + 1) 0) bit) := by
  apply List.ext_getElem?
  intro j
  have hl := slowT_length t (a * 2) bit lim
  by_cases hj : j < t.length / 2
  · rw [evens_at (by rw [hl]; exact hj)]
    by_cases he : a = j
    · subst he
      rw [List.getElem?_set_self (by rw [evens_len]; exact hj)]
      unfold slowT
      rw [List.getD_eq_getElem?_getD, List.getElem?_set_ne (by omega), List.getElem?_set_self (by omega)]
      rfl
    · rw [List.getElem?_set_ne he, evens_at hj]
      unfold slowT
      rw [List.getD_eq_getElem?_getD, List.getElem?_set_ne (by omega), List.getElem?_set_ne (by omega), List.getD_eq_getElem?_getD]
  · rw [List.getElem?_eq_none (by rw [evens_len, hl]; omega), List.getElem?_eq_none (by rw [List.length_set, evens_len]; omega)]
theorem odds_slow {t : List Int} {a : Nat} (bit lim : Int) (h : a * 2 + 1 < t.length) : odds (slowT t (a * 2) bit lim) = (odds t).set a (min (t.getD (a * 2 + 1) 0 + 1) lim) := by
  apply List.ext_getElem?
  intro j
  have hl := slowT_length t (a * 2) bit lim
  by_cases hj : j < t.length / 2
  · rw [odds_at (by rw [hl]; exact hj)]
    by_cases he : a = j
    · subst he
      rw [List.getElem?_set_self (by rw [odds_len]; exact hj)]
      unfold slowT
      rw [List.getD_eq_getElem?_getD, List.getElem?_set_self (by rw [List.length_set]; omega)]
      rfl
    · rw [List.getElem?_set_ne he, odds_at hj]
      unfold slowT
      rw [List.getD_eq_getElem?_getD, List.getElem?_set_ne (by omega), List.getElem?_set_ne (by omega), List.getD_eq_getElem?_getD]
  · rw [List.getElem?_eq_none (by rw [odds_len, hl]; omega), List.getElem?_eq_none (by rw [List.length_set, odds_len]; omega)]
structure LrU (u u' : Un) (l : RL) (w0 : World) (e : Ending) (w : World) : Prop where
  ret : e = .returned (.tuple #[])
  ru : RU w u' l
  frm : Frm (l.has u) w0 w
section
variable {u : Un} {l : RL} {w : World} {B R i wh cL : Nat} {c : Int} {AL : Option Addr} {L : List Int}
theorem no_ch (h2 : u.p.k ≠ 2) (h9 : u.p.k ≠ 9) (h3 : u.p.k ≠ 3) : u.ch = [] := by unfold Un.ch; rw [if_neg (fun h => h.elim h2 h9), if_neg h3]
theorem no_ct (h2 : u.p.k ≠ 2) (h9 : u.p.k ≠ 9) : u.ct = [] := if_neg (fun h => h.elim h2 h9)
theorem no_ss (h3 : u.p.k ≠ 3) (h8 : u.p.k ≠ 8) : u.ss = [] := if_neg (fun h => h.elim h3 h8)
theorem no_wt (h6 : u.p.k ≠ 6) (h7 : u.p.k ≠ 7) (h8 : u.p.k ≠ 8) : u.wt = [] := by unfold Un.wt; rw [if_neg (fun h => h.elim h6 h7), if_neg h8]
theorem no_nm (h4 : u.p.k ≠ 4) : u.nm = [] := if_neg h4
theorem no_rg (h4 : u.p.k ≠ 4) : u.rg = [] := if_neg h4
theorem RU.mk29 (hk : u.p.k = 2 ∨ u.p.k = 9) (h1 : Row w l.g1 3 (ints (evens u.t))) (h2 : Row w l.g2 3 (ints (odds u.t))) (hd : l.g1 ≠ l.g2) : RU w u l :=
  ⟨fun _ => by rw [ch29 hk]; exact h1, fun _ => by rw [ct29 hk]; exact h2, fun k => absurd (no_ss (by omega) (by omega)) k, fun k => absurd (no_wt (by omega) (by omega) (by omega)) k, fun k => absurd (no_nm (by omega)) k, fun k => absurd (no_rg (by omega)) k, fun _ => hd⟩
theorem RU.mk3 (hk : u.p.k = 3) (h1 : Row w l.g1 3 (ints u.x)) (h3 : Row w l.g3 5 (octs u.b)) : RU w u l :=
  ⟨fun _ => by rw [ch3 hk]; exact h1, fun k => absurd (no_ct (by omega) (by omega)) k, fun _ => by rw [ss38 (.inl hk)]; exact h3, fun k => absurd (no_wt (by omega) (by omega) (by omega)) k, fun k => absurd (no_nm (by omega)) k, fun k => absurd (no_rg (by omega)) k, fun k => absurd (no_ct (by omega) (by omega)) k⟩
theorem RU.mk4 (hk : u.p.k = 4) (h5 : Row w l.g5 3 (ints u.t)) (h6 : Row w l.g6 5 (octs u.b)) : RU w u l :=
  ⟨fun k => absurd (no_ch (by omega) (by omega) (by omega)) k, fun k => absurd (no_ct (by omega) (by omega)) k, fun k => absurd (no_ss (by omega) (by omega)) k, fun k => absurd (no_wt (by omega) (by omega) (by omega)) k, fun _ => by rw [nm4 hk]; exact h5, fun _ => by rw [rg4 hk]; exact h6, fun k => absurd (no_ct (by omega) (by omega)) k⟩
theorem RU.mk67 (hk : u.p.k = 6 ∨ u.p.k = 7) (h4 : Row w l.g4 3 (ints u.t)) : RU w u l :=
  ⟨fun k => absurd (no_ch (by omega) (by omega) (by omega)) k, fun k => absurd (no_ct (by omega) (by omega)) k, fun k => absurd (no_ss (by omega) (by omega)) k, fun _ => by rw [wt67 hk]; exact h4, fun k => absurd (no_nm (by omega)) k, fun k => absurd (no_rg (by omega)) k, fun k => absurd (no_ct (by omega) (by omega)) k⟩
theorem RU.mk8 (hk : u.p.k = 8) (h3 : Row w l.g3 5 (octs u.b)) (h4 : Row w l.g4 3 (ints u.x)) : RU w u l :=
  ⟨fun k => absurd (no_ch (by omega) (by omega) (by omega)) k, fun k => absurd (no_ct (by omega) (by omega)) k, fun _ => by rw [ss38 (.inr hk)]; exact h3, fun _ => by rw [wt8 hk]; exact h4, fun k => absurd (no_nm (by omega)) k, fun k => absurd (no_rg (by omega)) k, fun k => absurd (no_ct (by omega) (by omega)) k⟩
theorem RU.mk15 (hk : u.p.k = 1 ∨ u.p.k = 5) : RU w u l :=
  ⟨fun k => absurd (no_ch (by omega) (by omega) (by omega)) k, fun k => absurd (no_ct (by omega) (by omega)) k, fun k => absurd (no_ss (by omega) (by omega)) k, fun k => absurd (no_wt (by omega) (by omega) (by omega)) k, fun k => absurd (no_nm (by omega)) k, fun k => absurd (no_rg (by omega)) k, fun k => absurd (no_ct (by omega) (by omega)) k⟩
theorem learnR_any {d bit : Int} (hq : QF w R i u l) (hru : RU w u l) (ho : u.Ok i wh) (b1 : w.cell? ⟨B, 1, none⟩ = some (.int .i64 c)) (hc : 0 ≤ c ∧ c ≤ 255) (hbit : bit = 0 ∨ bit = 1) (hL : LOk L) (hLi : i ≤ L.length) (h16 : L.length ≤ 16)
    (hrd : ∀ j, j < L.length → ∃ g2, AL = some ⟨g2, 0, none⟩ ∧ w.cell? ⟨g2, j, none⟩ = some (.int .i64 (L.getD j 0))) (hnR : ∀ b, l.has u b → ¬ R = b) (hnB : ∀ b, l.has u b → ¬ B = b) (hnL : ∀ g2, AL = some ⟨g2, 0, none⟩ → ∀ b, l.has u b → ¬ g2 = b) :
    Calls Try.prog 37 #[.pointer (some ⟨B, 0, none⟩), .pointer (some ⟨R, i * 16, none⟩), .slice AL L.length cL, .int .i64 d, .int .i64 bit] w (LrU u (learnU u c L d bit) l w) := by
  have hat := ho.at_lt c
  have hp := ho.pow
  have hpos := Nat.two_pow_pos u.sz
  have q := hq
  have atL : ∀ {g2 : Nat} {j : Nat}, AL = some ⟨g2, 0, none⟩ → j < L.length → w.cell? ⟨g2, j, none⟩ = some (.int .i64 (L.getD j 0)) := fun {g2 j} he hj => by
    obtain ⟨g, he2, hcell⟩ := hrd j hj
    rw [he] at he2
    injection he2 with he2
    injection he2 with he2
    subst he2
    exact hcell
  have q0k := q.q0
  unfold learnU
  split
  · rename_i  hk
    rw [hk] at q0k
    obtain ⟨t1, t2⟩ := ho.t2 hk
    have e1 := ch29 (.inl hk : u.p.k = 2 ∨ u.p.k = 9)
    have e2 := ct29 (.inl hk : u.p.k = 2 ∨ u.p.k = 9)
    have hl1 : u.ch.length = 2 ^ u.sz := by rw [e1, evens_len, t1]; omega
    have hl2 : u.ct.length = 2 ^ u.sz := by rw [e2, odds_len, t1]; omega
    have hs := t2 (u.at' c) (by rw [t1]; omega)
    have i1 : u.ch ≠ [] := ne_nil (by omega)
    have i2 : u.ct ≠ [] := ne_nil (by omega)
    have m1 : l.has u l.g1 := .inl ⟨i1, rfl⟩
    have m2 : l.has u l.g2 := .inr (.inl ⟨i2, rfl⟩)
    have q8s := q.q8
    rw [sV_some (show u.ch.length ≠ 0 by omega)] at q8s
    have q9s := q.q9
    rw [sV_some (show u.ct.length ≠ 0 by omega)] at q9s
    have r1 := hru.r1 i1
    have r2 := hru.r2 i2
    rw [e1] at r1
    rw [e2] at r2
    refine (learnR2 (h0 := ho.h.1) (h1 := ho.h.2) (c0 := hc.1) (c1 := hc.2) (s2 := ho.s.2) (ha := hat.2) (hbit := hbit) (hq := rfl) (hE := rfl) (b1 := b1) (q0 := q0k) (q1 := q.q1) (q2 := q.q2) (q3 := q.q3) (q4 := q.q4) (q5 := q.q5) (q6 := q.q6) (z7 := q.q7) (z8 := q8s) (z9 := q9s) (z6 := q.q6) (r1 := r1) (r2 := r2) (hx := evens_at (i := u.at' c) (by rw [t1]; omega)) (hm := odds_at (i := u.at' c) (by rw [t1]; omega)) (x0 := hs.1.1) (x1 := hs.1.2) (m0 := hs.2.1) (mm1 := hs.2.2) (hl0 := (ho.l (.inl hk)).1) (hl1 := (ho.l (.inl hk)).2) (hi1 := by omega) (hi2 := by omega) (n12 := hru.d12 i2) (nR1 := hnR _ m1) (nR2 := hnR _ m2) (nR := fun h => h.elim (hnR _ m1) (hnR _ m2)) (nB := fun h => h.elim (hnB _ m1) (hnB _ m2)) (AL := AL) (nL := L.length) (cL := cL)).mono ?_
    rintro e w' ⟨rfl, ⟨h1, h2⟩, hf⟩
    refine ⟨rfl, RU.mk29 (.inl hk) ?_ ?_ (hru.d12 i2), hf.mono (fun b _ hb => by rcases hb with rfl | rfl; exact m1; exact m2)⟩
    · rw [evens_slow _ _ (by rw [t1]; omega)]; exact h1
    · rw [odds_slow _ _ (by rw [t1]; omega)]; exact h2
  split
  · rename_i _ hk
    rw [hk] at q0k
    obtain ⟨x1, x2⟩ := ho.x3 hk
    obtain ⟨b1', b2'⟩ := ho.bs (.inl hk)
    have hst := ho.st_lt (.inl hk) c
    have e1 := ch3 hk
    have e3 := ss38 (.inl hk : u.p.k = 3 ∨ u.p.k = 8)
    have hl1 : u.ch.length = 256 := by rw [e1, x1]
    have hl3 : u.ss.length = 2 ^ u.sz := by rw [e3, b1']
    have hx := x2 _ (getD_mem (i := u.st c) (by rw [x1]; exact hst.1))
    have i1 : u.ch ≠ [] := ne_nil (by omega)
    have i3 : u.ss ≠ [] := ne_nil (by omega)
    have m1 : l.has u l.g1 := .inl ⟨i1, rfl⟩
    have m3 : l.has u l.g3 := .inr (.inr (.inl ⟨i3, rfl⟩))
    have q8s := q.q8
    rw [sV_some (show u.ch.length ≠ 0 by omega)] at q8s
    have q10s := q.q10
    rw [sV_some (show u.ss.length ≠ 0 by omega)] at q10s
    have r1 := hru.r1 i1
    have r3 := hru.r3 i3
    have n13 := r1.ne r3 (by decide)
    rw [e1] at r1
    rw [e3] at r3
    refine (learnR3 (h0 := ho.h.1) (h1 := ho.h.2) (c0 := hc.1) (c1 := hc.2) (s2 := ho.s.2) (ha := hat.2) (hbit := hbit) (hq := rfl) (hE := rfl) (b1 := b1) (q0 := q0k) (q1 := q.q1) (q2 := q.q2) (q3 := q.q3) (q4 := q.q4) (q5 := q.q5) (q6 := q.q6) (z7 := q.q7) (z8 := q8s) (z10 := q10s) (r1 := r1) (r3 := r3) (hv := getD_some (l := u.x) (i := u.st c) (by omega)) (hys := hst.2) (hy := hst.1) (v0 := hx.1) (v1 := hx.2) (hy1 := by omega) (ha3 := by omega) (n13 := n13) (nR := fun h => h.elim (hnR _ m1) (hnR _ m3)) (nB := fun h => h.elim (hnB _ m1) (hnB _ m3)) (AL := AL) (nL := L.length) (cL := cL)).mono ?_
    rintro e w' ⟨rfl, ⟨h1, h3⟩, hf⟩
    exact ⟨rfl, RU.mk3 hk h1 h3, hf.mono (fun b _ hb => by rcases hb with rfl | rfl; exact m1; exact m3)⟩
  split
  · rename_i _ _ hk
    rw [hk] at q0k
    have ha := ho.a (by omega)
    have q2k := q.q2
    rw [ha.1] at q2k
    obtain ⟨g2, rfl, _⟩ := hrd u.A (by omega)
    have hb' := ho.b (.inr hk)
    have q3k := q.q3
    rw [hb'.1] at q3k
    obtain ⟨t1, t2⟩ := ho.t6 hk
    have e4 := wt67 (.inl hk : u.p.k = 6 ∨ u.p.k = 7)
    have hl4 : u.wt.length = 2 ^ u.sz := by rw [e4, t1]
    have hv := t2 _ (getD_mem (i := u.at' c) (by rw [t1]; exact hat.1))
    have hrr := ho.r (.inl hk)
    have i4 : u.wt ≠ [] := ne_nil (by omega)
    have m4 : l.has u l.g4 := .inr (.inr (.inr (.inl ⟨i4, rfl⟩)))
    have q11s := q.q11
    rw [sV_some (show u.wt.length ≠ 0 by omega)] at q11s
    have r4 := hru.r4 i4
    rw [e4] at r4
    refine (learnR6 (h0 := ho.h.1) (h1 := ho.h.2) (c0 := hc.1) (c1 := hc.2) (s2 := ho.s.2) (ha := hat.2) (hbit := hbit) (hq := rfl) (hE := rfl) (b1 := b1) (q0 := q0k) (q1 := q.q1) (q2 := q2k) (q3 := q3k) (q4 := q.q4) (q5 := q.q5) (q6 := q.q6) (z7 := q.q7) (z11 := q11s) (r4 := r4) (hv := getD_some (l := u.t) (i := u.at' c) (by rw [t1]; exact hat.1)) (hpa := by omega) (hpb := by omega) (x0 := (hL u.A).1) (x1 := (hL u.A).2) (y0 := (hL u.Bn).1) (y1 := (hL u.Bn).2) (r0' := hrr.1) (r1' := hrr.2) (v0 := hv.1) (v1 := hv.2) (ha4 := by omega) (nLg := hnL _ rfl _ m4) (nR := hnR _ m4) (nB := hnB _ m4) (l0 := atL rfl (by omega)) (l1 := atL rfl (by omega)) (gL := g2) (nL := L.length) (cL := cL)).mono ?_
    rintro e w' ⟨rfl, h4, hf⟩
    exact ⟨rfl, RU.mk67 (.inl hk) h4, hf.mono (fun b _ hb => by subst hb; exact m4)⟩
  split
  · rename_i _ _ _ hk
    rw [hk] at q0k
    have ha := ho.a (by omega)
    have q2k := q.q2
    rw [ha.1] at q2k
    obtain ⟨g2, rfl, _⟩ := hrd u.A (by omega)
    obtain ⟨e7, b1', b8', bi⟩ := ho.b7 hk
    have q3k := q.q3
    rw [e7] at q3k
    obtain ⟨t1, t2⟩ := ho.t7 hk
    have e4 := wt67 (.inr hk : u.p.k = 6 ∨ u.p.k = 7)
    have hmul : u.at' c * u.Bn + u.Bn ≤ u.t.length := by
      rw [t1, ← Nat.succ_mul]
      exact Nat.mul_le_mul_right _ hat.1
    have h8 : u.t.length ≤ 65536 * 8 := by rw [t1]; exact Nat.mul_le_mul hp b8'
    have hl4 : u.wt.length = u.t.length := by rw [e4]
    have hrr := ho.r (.inr hk)
    have i4 : u.wt ≠ [] := ne_nil (by omega)
    have m4 : l.has u l.g4 := .inr (.inr (.inr (.inl ⟨i4, rfl⟩)))
    have q11s := q.q11
    rw [sV_some (show u.wt.length ≠ 0 by omega)] at q11s
    have r4 := hru.r4 i4
    rw [e4] at r4
    refine (learnR7 (h0 := ho.h.1) (h1 := ho.h.2) (c0 := hc.1) (c1 := hc.2) (s2 := ho.s.2) (ha := hat.2) (hbit := hbit) (hq := rfl) (hE := rfl) (b1 := b1) (q0 := q0k) (q1 := q.q1) (q2 := q2k) (q3 := q3k) (q4 := q.q4) (q5 := q.q5) (q6 := q.q6) (z7 := q.q7) (z11 := q11s) (r4 := r4) (L := L) (r0' := hrr.1) (r1' := hrr.2) (hpb1 := b1') (hpb8 := b8') (hmb := by omega) (hn4 := by omega) (hpl := by omega) (hnL := h16) (hXn := hl4.symm) (hX := t2) (hx := fun k _ => hL _) (hxc := fun k hk' => atL rfl (by omega)) (nLg := hnL _ rfl _ m4) (nR := hnR _ m4) (nB := hnB _ m4) (gL := g2) (nL := L.length) (cL := cL)).mono ?_
    rintro e w' ⟨rfl, h4, hf⟩
    exact ⟨rfl, RU.mk67 (.inr hk) h4, hf.mono (fun b _ hb => by subst hb; exact m4)⟩
  split
  · rename_i _ _ _ _ hk
    rw [hk] at q0k
    have ha := ho.a (by omega)
    have q2k := q.q2
    rw [ha.1] at q2k
    obtain ⟨g2, rfl, _⟩ := hrd u.A (by omega)
    obtain ⟨x1, x2⟩ := ho.x8 hk
    obtain ⟨b1', b2'⟩ := ho.bs (.inr (.inr hk))
    have hst := ho.st_lt (.inr hk) c
    have e3 := ss38 (.inr hk : u.p.k = 3 ∨ u.p.k = 8)
    have e4 := wt8 hk
    have hl3 : u.ss.length = 2 ^ u.sz := by rw [e3, b1']
    have hl4 : u.wt.length = 512 := by rw [e4, x1]
    have hx := x2 _ (getD_mem (i := u.st c * 2) (by rw [x1]; omega))
    have hy := x2 _ (getD_mem (i := u.st c * 2 + 1) (by rw [x1]; omega))
    have i3 : u.ss ≠ [] := ne_nil (by omega)
    have i4 : u.wt ≠ [] := ne_nil (by omega)
    have m3 : l.has u l.g3 := .inr (.inr (.inl ⟨i3, rfl⟩))
    have m4 : l.has u l.g4 := .inr (.inr (.inr (.inl ⟨i4, rfl⟩)))
    have q10s := q.q10
    rw [sV_some (show u.ss.length ≠ 0 by omega)] at q10s
    have q11s := q.q11
    rw [sV_some (show u.wt.length ≠ 0 by omega)] at q11s
    have r3 := hru.r3 i3
    have r4 := hru.r4 i4
    have n34 := r3.ne r4 (by decide)
    rw [e3] at r3
    rw [e4] at r4
    refine (learnR8 (h0 := ho.h.1) (h1 := ho.h.2) (c0 := hc.1) (c1 := hc.2) (s2 := ho.s.2) (ha := hat.2) (hbit := hbit) (hq := rfl) (hE := rfl) (b1 := b1) (q0 := q0k) (q1 := q.q1) (q2 := q2k) (q3 := q.q3) (q4 := q.q4) (q5 := q.q5) (q6 := q.q6) (z7 := q.q7) (z10 := q10s) (z11 := q11s) (r3 := r3) (r4 := r4) (hu := getD_some (l := u.x) (i := u.st c * 2) (by omega)) (hv := getD_some (l := u.x) (i := u.st c * 2 + 1) (by omega)) (hys := hst.2) (hy := hst.1) (hya := by omega) (hyb := rfl) (u0 := hx.1) (u1 := hx.2) (v0 := hy.1) (v1 := hy.2) (x0 := (hL u.A).1) (x1 := (hL u.A).2) (hpl := by omega) (hn4 := by omega) (ha3 := by omega) (n34 := n34) (nLg := fun h => h.elim (hnL _ rfl _ m3) (hnL _ rfl _ m4)) (nR := fun h => h.elim (hnR _ m3) (hnR _ m4)) (nB := fun h => h.elim (hnB _ m3) (hnB _ m4)) (l0 := atL rfl (by omega)) (gL := g2) (nL := L.length) (cL := cL)).mono ?_
    rintro e w' ⟨rfl, ⟨h3, h4⟩, hf⟩
    exact ⟨rfl, RU.mk8 hk h3 h4, hf.mono (fun b _ hb => by rcases hb with rfl | rfl; exact m3; exact m4)⟩
  split
  · rename_i _ _ _ _ _  hk
    rw [hk] at q0k
    have ha := ho.a (by omega)
    have q2k := q.q2
    rw [ha.1] at q2k
    obtain ⟨g2, rfl, _⟩ := hrd u.A (by omega)
    have hen := ho.ent_lt (c := c) hL
    obtain ⟨t1, t2⟩ := ho.t9 hk
    have e1 := ch29 (.inr hk : u.p.k = 2 ∨ u.p.k = 9)
    have e2 := ct29 (.inr hk : u.p.k = 2 ∨ u.p.k = 9)
    have hl1 : u.ch.length = 2 ^ u.sz * 32 := by rw [e1, evens_len, t1]; omega
    have hl2 : u.ct.length = 2 ^ u.sz * 32 := by rw [e2, odds_len, t1]; omega
    have hs := t2 (u.ent c L) (by rw [t1]; omega)
    have i1 : u.ch ≠ [] := ne_nil (by omega)
    have i2 : u.ct ≠ [] := ne_nil (by omega)
    have m1 : l.has u l.g1 := .inl ⟨i1, rfl⟩
    have m2 : l.has u l.g2 := .inr (.inl ⟨i2, rfl⟩)
    have q8s := q.q8
    rw [sV_some (show u.ch.length ≠ 0 by omega)] at q8s
    have q9s := q.q9
    rw [sV_some (show u.ct.length ≠ 0 by omega)] at q9s
    have r1 := hru.r1 i1
    have r2 := hru.r2 i2
    rw [e1] at r1
    rw [e2] at r2
    refine (learnR9 (h0 := ho.h.1) (h1 := ho.h.2) (c0 := hc.1) (c1 := hc.2) (s2 := ho.s.2) (ha := hat.2) (hbit := hbit) (hq := rfl) (hE := rfl) (b1 := b1) (q0 := q0k) (q1 := q.q1) (q2 := q2k) (q3 := q.q3) (q4 := q.q4) (q5 := q.q5) (q6 := q.q6) (z7 := q.q7) (z8 := q8s) (z9 := q9s) (z6 := q.q6) (r1 := r1) (r2 := r2) (hx := evens_at (i := u.ent c L) (by rw [t1]; omega)) (hm := odds_at (i := u.ent c L) (by rw [t1]; omega)) (x0 := hs.1.1) (x1 := hs.1.2) (m0 := hs.2.1) (mm1 := hs.2.2) (hl0 := (ho.l (.inr hk)).1) (hl1 := (ho.l (.inr hk)).2) (hi1 := by omega) (hi2 := by omega) (n12 := hru.d12 i2) (nR1 := hnR _ m1) (nR2 := hnR _ m2) (nR := fun h => h.elim (hnR _ m1) (hnR _ m2)) (nB := fun h => h.elim (hnB _ m1) (hnB _ m2)) (l0 := atL rfl (by omega)) (hpa := by omega) (haa := by omega) (hen := by have := hL u.A; unfold Un.ent; push_cast; omega) (hee := by omega) (l0' := (hL u.A).1) (l1' := (hL u.A).2) (nLg := fun h => h.elim (hnL _ rfl _ m1) (hnL _ rfl _ m2)) (gL := g2) (nL := L.length) (cL := cL)).mono ?_
    rintro e w' ⟨rfl, ⟨h1, h2⟩, hf⟩
    refine ⟨rfl, RU.mk29 (.inr hk) ?_ ?_ (hru.d12 i2), hf.mono (fun b _ hb => by rcases hb with rfl | rfl; exact m1; exact m2)⟩
    · rw [evens_slow _ _ (by rw [t1]; omega)]; exact h1
    · rw [odds_slow _ _ (by rw [t1]; omega)]; exact h2
  · rename_i h2 h3 h6 h7 h8 h9
    have hk : u.p.k = 1 ∨ u.p.k = 4 ∨ u.p.k = 5 := by have := ho.k; omega
    rcases hk with hk | hk | hk
    all_goals rw [hk] at q0k
    · refine (learnR1 (h0 := ho.h.1) (h1 := ho.h.2) (c0 := hc.1) (c1 := hc.2) (s2 := ho.s.2) (ha := hat.2) (hbit := hbit) (hq := rfl) (hE := rfl) (b1 := b1) (q0 := q0k) (q1 := q.q1) (q2 := q.q2) (q3 := q.q3) (q4 := q.q4) (q5 := q.q5) (q6 := q.q6) (z7 := q.q7) (nR := fun h => h) (nB := fun h => h) (AL := AL) (nL := L.length) (cL := cL)).mono ?_
      rintro e w' ⟨rfl, _, hf⟩
      exact ⟨rfl, hru.frm hf (fun _ _ h => h), hf.mono (fun _ _ h => h.elim)⟩
    · refine (learnR4 (h0 := ho.h.1) (h1 := ho.h.2) (c0 := hc.1) (c1 := hc.2) (s2 := ho.s.2) (ha := hat.2) (hbit := hbit) (hq := rfl) (hE := rfl) (b1 := b1) (q0 := q0k) (q1 := q.q1) (q2 := q.q2) (q3 := q.q3) (q4 := q.q4) (q5 := q.q5) (q6 := q.q6) (z7 := q.q7) (nR := fun h => h) (nB := fun h => h) (AL := AL) (nL := L.length) (cL := cL)).mono ?_
      rintro e w' ⟨rfl, _, hf⟩
      exact ⟨rfl, hru.frm hf (fun _ _ h => h), hf.mono (fun _ _ h => h.elim)⟩
    · refine (learnR5 (h0 := ho.h.1) (h1 := ho.h.2) (c0 := hc.1) (c1 := hc.2) (s2 := ho.s.2) (ha := hat.2) (hbit := hbit) (hq := rfl) (hE := rfl) (b1 := b1) (q0 := q0k) (q1 := q.q1) (q2 := q.q2) (q3 := q.q3) (q4 := q.q4) (q5 := q.q5) (q6 := q.q6) (z7 := q.q7) (nR := fun h => h) (nB := fun h => h) (AL := AL) (nL := L.length) (cL := cL)).mono ?_
      rintro e w' ⟨rfl, _, hf⟩
      exact ⟨rfl, hru.frm hf (fun _ _ h => h), hf.mono (fun _ _ h => h.elim)⟩
end
end Go.Proofs.Ytnohfeaamfjimaa
