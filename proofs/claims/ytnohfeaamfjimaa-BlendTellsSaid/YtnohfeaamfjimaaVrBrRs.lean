/- The reference's blend: what becomes of it when a unit turns. Plain over the memory. -/
import Derived.Test.YtnohfeaamfjimaaVrBrY
import Derived.Test.YtnohfeaamfjimaaVrBrP
import Derived.Test.YtnohfeaamfjimaaVrBrFd
namespace Go.Proofs.Ytnohfeaamfjimaa
open Go.RowKit Go.WideShapes
set_option linter.unusedVariables false
set_option linter.unusedSimpArgs false
/-- A unit of the same part, its tables as long. -/
structure Shp (u u' : Un) : Prop where
  p : u'.p = u.p
  t : u'.t.length = u.t.length
  b : u'.b.length = u.b.length
  x : u'.x.length = u.x.length
theorem learnU_shp (u : Un) (c : Int) (L : List Int) (d bit : Int) : Shp u (learnU u c L d bit) := by
  unfold learnU
  (repeat' split) <;> exact ⟨rfl, by simp [slowT_length, mixK_length], by simp, by simp⟩
theorem endU_shp (u : Un) (c : Int) (wh : Nat) : Shp u (endU u c wh) := by
  unfold endU
  split <;> exact ⟨rfl, by simp, by simp, by simp⟩
theorem ctxU_shp (u : Un) (wh : Nat) (h : Int) : Shp u (ctxU u wh h) := by
  unfold ctxU
  split <;> exact ⟨rfl, by simp, by simp, by simp⟩
section
variable {u u' : Un} {l : RL}
theorem Shp.ch (h : Shp u u') : u'.ch.length = u.ch.length := by
  unfold Un.ch
  rw [h.p]
  split
  · rw [evens_len, evens_len, h.t]
  split
  · exact h.x
  · rfl
theorem Shp.ct (h : Shp u u') : u'.ct.length = u.ct.length := by
  unfold Un.ct
  rw [h.p]
  split
  · rw [odds_len, odds_len, h.t]
  · rfl
theorem Shp.ss (h : Shp u u') : u'.ss.length = u.ss.length := by
  unfold Un.ss
  rw [h.p]
  split
  · exact h.b
  · rfl
theorem Shp.wt (h : Shp u u') : u'.wt.length = u.wt.length := by
  unfold Un.wt
  rw [h.p]
  split
  · exact h.t
  split
  · exact h.x
  · rfl
theorem Shp.nm (h : Shp u u') : u'.nm.length = u.nm.length := by
  unfold Un.nm
  rw [h.p]
  split
  · exact h.t
  · rfl
theorem Shp.rg (h : Shp u u') : u'.rg.length = u.rg.length := by
  unfold Un.rg
  rw [h.p]
  split
  · exact h.b
  · rfl
theorem ne_iff {a b : List Int} (h : a.length = b.length) : a ≠ [] ↔ b ≠ [] := by
  rw [ne_eq, ne_eq, ← List.length_eq_zero_iff, ← List.length_eq_zero_iff, h]
theorem Shp.has (h : Shp u u') (b : Nat) : l.has u' b ↔ l.has u b := by
  unfold RL.has
  rw [ne_iff h.ch, ne_iff h.ct, ne_iff h.ss, ne_iff h.wt, ne_iff h.nm, ne_iff h.rg]
theorem Shp.rc (h : Shp u u') (hh : u'.h = u.h) (hp : u'.ptr = u.ptr) (hl : u'.len = u.len) : u'.rc l = u.rc l := by
  unfold Un.rc
  rw [h.p, h.ch, h.ct, h.ss, h.wt, h.nm, h.rg, hh, hp, hl]
theorem learnU_rc (u : Un) (c : Int) (L : List Int) (d bit : Int) : (learnU u c L d bit).rc l = u.rc l := by
  refine (learnU_shp u c L d bit).rc ?_ ?_ ?_ <;> (unfold learnU; (repeat' split) <;> rfl)
end
section
variable {w w' : World} {B R cr bits wh : Nat} {us : List Un} {ls : List RL} {c : Int} {i : Nat} {u u' : Un} {l : RL}
/-- One unit turned. -/
theorem RB.put (h : RB w B R cr us ls c bits wh) (hu : us[i]? = some u) (hl : ls[i]? = some l) (hs : Shp u u') (hf : Frm (fun b => b = R ∨ l.has u b) w w') (hrow : Row w' R 74 (refs (us.set i u') ls)) (hru : RU w' u' l) : RB w' B R cr (us.set i u') ls c bits wh := by
  have hi := (List.getElem?_eq_some_iff.1 hu).1
  have key : ∀ (j : Nat) (v : Un) (m : RL), (us.set i u')[j]? = some v → ls[j]? = some m → (j = i ∧ v = u' ∧ m = l) ∨ (j ≠ i ∧ us[j]? = some v) := fun j v m hv hm => by
    by_cases he : i = j
    · subst he
      rw [List.getElem?_set_self hi] at hv
      rw [hl] at hm
      injection hv with hv
      injection hm with hm
      exact .inl ⟨rfl, hv.symm, hm.symm⟩
    · rw [List.getElem?_set_ne he] at hv
      exact .inr ⟨fun e => he e.symm, hv⟩
  refine ⟨?_, hrow, by rw [List.length_set]; exact h.len, by rw [List.length_set]; exact h.cap, fun j v m hv hm => ?_, fun j v m hv hm b hb => ?_, fun j k v x m n hv hm hx hn hjk b hb => ?_⟩
  · rw [List.length_set]
    exact h.blk.frm hf (fun hb => hb.elim h.ne (fun hb => (h.far i u l hu hl B hb).1 rfl))
  · rcases key j v m hv hm with ⟨rfl, rfl, rfl⟩ | ⟨hj, hv2⟩
    · exact hru
    · exact (h.ru j v m hv2 hm).frm hf (fun b hb hc => hc.elim (fun e => (h.far j v m hv2 hm b hb).2 e) (fun hc => h.apart j i v u m l hv2 hm hu hl hj b hb hc))
  · rcases key j v m hv hm with ⟨rfl, rfl, rfl⟩ | ⟨hj, hv2⟩
    · exact h.far j u m hu hl b ((hs.has b).1 hb)
    · exact h.far j v m hv2 hm b hb
  · intro hc
    rcases key j v m hv hm with ⟨rfl, rfl, rfl⟩ | ⟨hj, hv2⟩
    · rcases key k x n hx hn with ⟨rfl, rfl, rfl⟩ | ⟨hk, hx2⟩
      · exact hjk rfl
      · exact h.apart j k u x m n hu hl hx2 hn hjk b ((hs.has b).1 hb) hc
    · rcases key k x n hx hn with ⟨rfl, rfl, rfl⟩ | ⟨hk, hx2⟩
      · exact h.apart j k v u m n hv2 hm hu hl hjk b hb ((hs.has b).1 hc)
      · exact h.apart j k v x m n hv2 hm hx2 hn hjk b hb hc
theorem RB.blks' (hu : us[i]? = some u) (hl : ls[i]? = some l) {b : Nat} (hb : b = R ∨ l.has u b) : RBlks B R us ls b :=
  hb.elim (fun e => .inr (.inl e)) (fun hb => .inr (.inr ⟨i, u, l, hu, hl, hb⟩))
/-- A cell of the box turned. -/
theorem RB.setC (h : RB w B R cr us ls c bits wh) (c' : Int) : RB (w.setCell ⟨B, 1, none⟩ (.int .i64 c')) B R cr us ls c' bits wh :=
  ⟨h.blk.set 1 _, h.row.far (p := ⟨B, 1, none⟩) (fun e => h.ne e.symm) _, h.len, h.cap, fun i u l hu hl => (h.ru i u l hu hl).frm ((Frm.refl (fun b => b = B) w).setCell (p := ⟨B, 1, none⟩) (fun _ => rfl) _) (fun b hb => (h.far i u l hu hl b hb).1), h.far, h.apart⟩
theorem RB.setB (h : RB w B R cr us ls c bits wh) (b' : Nat) {v : Int} (hv : (b' : Int) = v) : RB (w.setCell ⟨B, 2, none⟩ (.int .i64 v)) B R cr us ls c b' wh := by
  subst hv
  exact ⟨h.blk.set 2 _, h.row.far (p := ⟨B, 2, none⟩) (fun e => h.ne e.symm) _, h.len, h.cap, fun i u l hu hl => (h.ru i u l hu hl).frm ((Frm.refl (fun b => b = B) w).setCell (p := ⟨B, 2, none⟩) (fun _ => rfl) _) (fun b hb => (h.far i u l hu hl b hb).1), h.far, h.apart⟩
theorem RB.setW (h : RB w B R cr us ls c bits wh) (w1 : Nat) {v : Int} (hv : (w1 : Int) = v) : RB (w.setCell ⟨B, 3, none⟩ (.int .i64 v)) B R cr us ls c bits w1 := by
  subst hv
  exact ⟨h.blk.set 3 _, h.row.far (p := ⟨B, 3, none⟩) (fun e => h.ne e.symm) _, h.len, h.cap, fun i u l hu hl => (h.ru i u l hu hl).frm ((Frm.refl (fun b => b = B) w).setCell (p := ⟨B, 3, none⟩) (fun _ => rfl) _) (fun b hb => (h.far i u l hu hl b hb).1), h.far, h.apart⟩
/-- A unit's context turned. -/
theorem hshp (u : Un) (x : Int) : Shp u { u with h := x } := ⟨rfl, rfl, rfl, rfl⟩
theorem RB.setH (h : RB w B R cr us ls c bits wh) (hu : us[i]? = some u) (hl : ls[i]? = some l) (x : Int) : RB (w.setCell ⟨R, i * 16 + 7, none⟩ (.int .u32 x)) B R cr (us.set i { u with h := x }) ls c bits wh := by
  have hf : Frm (fun b => b = R ∨ l.has u b) w (w.setCell ⟨R, i * 16 + 7, none⟩ (.int .u32 x)) := (Frm.refl _ w).setCell (p := ⟨R, i * 16 + 7, none⟩) (fun _ => .inl rfl) _
  refine h.put hu hl (hshp u x) hf ?_ ?_
  · rw [← refs_set us ls i 7 u { u with h := x } l (.int .u32 x) hu hl (by omega) rfl]
    exact h.row.set (by rw [refs_len us ls h.len]; have := (List.getElem?_eq_some_iff.1 hu).1; omega) _
  · have h2 := (h.ru i u l hu hl).frm (S := fun b => b = R) (w' := w.setCell ⟨R, i * 16 + 7, none⟩ (.int .u32 x)) ((Frm.refl (fun b => b = R) w).setCell (p := ⟨R, i * 16 + 7, none⟩) (fun _ => rfl) _) (fun b hb => (h.far i u l hu hl b hb).2)
    exact ⟨h2.r1, h2.r2, h2.r3, h2.r4, h2.r5, h2.r6, h2.d12⟩
theorem RB.rcAt (h : RB w B R cr us ls c bits wh) (hu : us[i]? = some u) (hl : ls[i]? = some l) {j : Nat} (hj : j < 16) {v : Value} (hv : (u.rc l)[j]? = some v) : (refs us ls)[i * 16 + j]? = some v := (refs_at us ls i j u l hu hl hj).trans hv
/-- A call of one unit. -/
structure OpB (B R cr : Nat) (us : List Un) (ls : List RL) (c : Int) (bits wh : Nat) (S : Nat → Prop) (w0 : World) (e : Ending) (w : World) : Prop where
  ret : e = .returned (.tuple #[])
  rb : RB w B R cr us ls c bits wh
  frm : Frm S w0 w
theorem set_self {us : List Un} {i : Nat} {u : Un} (hu : us[i]? = some u) : us.set i u = us := by
  apply List.ext_getElem?
  intro j
  rw [List.getElem?_set]
  split
  · rename_i hj
    subst hj
    rw [hu, if_pos (List.getElem?_eq_some_iff.1 hu).1]
  · rfl
theorem learn_rb {AL : Option Addr} {cL : Nat} {L : List Int} {d bit : Int} (h : RB w B R cr us ls c bits wh) (hu : us[i]? = some u) (hl : ls[i]? = some l) (ho : u.Ok i wh) (hc : 0 ≤ c ∧ c ≤ 255) (hbit : bit = 0 ∨ bit = 1) (hL : LOk L) (hLi : i ≤ L.length) (h16 : L.length ≤ 16)
    (hrd : ∀ j, j < L.length → ∃ g2, AL = some ⟨g2, 0, none⟩ ∧ w.cell? ⟨g2, j, none⟩ = some (.int .i64 (L.getD j 0))) (hnL : ∀ g2, AL = some ⟨g2, 0, none⟩ → ∀ b, l.has u b → ¬ g2 = b) :
    Calls Try.prog 37 #[.pointer (some ⟨B, 0, none⟩), .pointer (some ⟨R, i * 16, none⟩), .slice AL L.length cL, .int .i64 d, .int .i64 bit] w (OpB B R cr (us.set i (learnU u c L d bit)) ls c bits wh (fun b => b = R ∨ l.has u b) w) := by
  refine (learnR_any (h.qf hu hl ho.s.1) (h.ru i u l hu hl) ho (h.blk.cell 1) hc hbit hL hLi h16 hrd (fun b hb e => (h.far i u l hu hl b hb).2 e.symm) (fun b hb e => (h.far i u l hu hl b hb).1 e.symm) hnL).mono ?_
  rintro e w' ⟨rfl, hru, hf⟩
  have hf' : Frm (fun b => b = R ∨ l.has u b) w w' := hf.mono (fun b _ hb => .inr hb)
  refine ⟨rfl, h.put hu hl (learnU_shp u c L d bit) hf' ?_ hru, hf'⟩
  rw [refs_same us ls i u (learnU u c L d bit) l hu hl (learnU_rc u c L d bit)]
  exact h.row.frm hf (fun hb => (h.far i u l hu hl R hb).2 rfl)
theorem whole_rb (h : RB w B R cr us ls c bits wh) (hu : us[i]? = some u) (hl : ls[i]? = some l) (ho : u.Ok i wh) (hc : 0 ≤ c ∧ c ≤ 1000) (hwh : wh ≤ 1000000000) :
    Calls Try.prog 38 #[.pointer (some ⟨B, 0, none⟩), .pointer (some ⟨R, i * 16, none⟩)] w (OpB B R cr (us.set i (endU u c wh)) ls c bits wh (fun b => b = R ∨ l.has u b) w) := by
  have hlen := refs_len us ls h.len
  have hi := (List.getElem?_eq_some_iff.1 hu).1
  have q := h.qf hu hl ho.s.1
  by_cases hk : u.p.k = 4
  · obtain ⟨b1, b2⟩ := ho.bs (.inr (.inl hk))
    obtain ⟨m1, m2⟩ := ho.m hk
    have hp := ho.pow
    have hpos := Nat.two_pow_pos u.sz
    have e6 : u.rg = u.b := rg4 hk
    have hl6 : u.rg.length = 2 ^ u.sz := by rw [e6, b1]
    have i6 : u.rg ≠ [] := ne_nil (by omega)
    have m6 : l.has u l.g6 := .inr (.inr (.inr (.inr (.inr ⟨i6, rfl⟩))))
    have r6 := (h.ru i u l hu hl).r6 i6
    rw [e6] at r6
    have far := h.far i u l hu hl _ m6
    have hy := getD_some (l := u.b) (i := u.ptr) (by rw [b1]; exact m1)
    have hsV : sV l.g6 u.rg.length u.rg.length = .slice (some ⟨l.g6, 0, none⟩) (2 ^ u.sz) u.rg.length := by unfold sV; rw [if_neg (by omega), hl6]
    refine (wholeYes (s := u.sz) (ptr := u.ptr) (len := u.len) (wh := wh) (S := u.b) (y := u.b.getD u.ptr 0) (zs := refs us ls) (c0 := hc.1) (c1 := hc.2) (s2 := ho.s.2) (hN := rfl) (hN1 := hpos) (hN2 := hp) (hptr := m1) (hlen := m2) (hwh := hwh) (hR := h.row) (hS := r6) (hSl := b1) (hy := hy) (nRg := fun e => far.2 e.symm) (nBR := h.ne) (nBg := fun e => far.1 e.symm) (h0 := (h.rcAt hu hl (j := 0) (by omega) rfl).trans (by rw [hk])) (h1 := (h.rcAt hu hl (j := 1) (by omega) rfl).trans (by rw [ho.s.1])) (h13 := (h.rcAt hu hl (j := 13) (by omega) rfl).trans (by rw [hsV])) (h14 := h.rcAt hu hl (j := 14) (by omega) rfl) (h15 := h.rcAt hu hl (j := 15) (by omega) rfl) (b1 := h.blk.cell 1) (b3 := h.blk.cell 3)).mono ?_
    rintro e w' ⟨rfl, ⟨h1, h2⟩, hf⟩
    have hf' : Frm (fun b => b = R ∨ l.has u b) w w' := hf.mono (fun b _ hb => hb.elim .inl (fun e => .inr (e ▸ m6)))
    have hE : endU u c wh = { u with ptr := ptrE u.len (2 ^ u.sz) u.ptr (u.b.getD u.ptr 0) (c % 256), len := lenE u.len (u.b.getD u.ptr 0) (c % 256), b := u.b.set (wh % 2 ^ u.sz) (c % 256) } := by
      unfold endU
      rw [if_pos hk, b1]
    have n5 : u.nm ≠ [] := by rw [nm4 hk]; exact ne_nil (by rw [(ho.t4 hk).1]; omega)
    have m5 : l.has u l.g5 := .inr (.inr (.inr (.inr (.inl ⟨n5, rfl⟩))))
    have r5 := (h.ru i u l hu hl).r5 n5
    have n56 := r5.ne r6 (by decide)
    refine ⟨rfl, h.put hu hl (endU_shp u c wh) hf' ?_ ?_, hf'⟩
    · rw [hE]
      have hr1 := refs_set us ls i 15 u { u with len := lenE u.len (u.b.getD u.ptr 0) (c % 256), b := u.b.set (wh % 2 ^ u.sz) (c % 256) } l (.int .i64 ((lenE u.len (u.b.getD u.ptr 0) (c % 256) : Nat) : Int)) hu hl (by omega) (by simp [Un.rc, Pt.cells, Un.ch, Un.ct, Un.ss, Un.wt, Un.nm, Un.rg, hk])
      have hr2 := refs_set (us.set i { u with len := lenE u.len (u.b.getD u.ptr 0) (c % 256), b := u.b.set (wh % 2 ^ u.sz) (c % 256) }) ls i 14 { u with len := lenE u.len (u.b.getD u.ptr 0) (c % 256), b := u.b.set (wh % 2 ^ u.sz) (c % 256) } { u with ptr := ptrE u.len (2 ^ u.sz) u.ptr (u.b.getD u.ptr 0) (c % 256), len := lenE u.len (u.b.getD u.ptr 0) (c % 256), b := u.b.set (wh % 2 ^ u.sz) (c % 256) } l (.int .i64 ((ptrE u.len (2 ^ u.sz) u.ptr (u.b.getD u.ptr 0) (c % 256) : Nat) : Int)) (List.getElem?_set_self hi) hl (by omega) rfl
      rw [hr1, hr2, List.set_set] at h1
      exact h1
    · have hk' : (endU u c wh).p.k = 4 := by rw [endU_p]; exact hk
      refine RU.mk4 hk' ?_ ?_
      · rw [hE]
        have := r5.frm hf (fun hb => hb.elim (fun e => (h.far i u l hu hl _ m5).2 e) n56)
        rwa [nm4 hk] at this
      · rw [hE]
        exact h2
  · have hE : endU u c wh = u := if_neg hk
    rw [hE, set_self hu]
    refine (wholeNo B R (i * 16) u.p.k w q.q0 hk).mono ?_
    rintro e w' ⟨rfl, rfl⟩
    exact ⟨rfl, h, Frm.refl _ _⟩
theorem find_rb (h : RB w B R cr us ls c bits wh) (hu : us[i]? = some u) (hl : ls[i]? = some l) (ho : u.Ok i wh) (hk : u.p.k = 4) (hwh : wh ≤ 1000000000) :
    Calls Try.prog 36 #[.pointer (some ⟨B, 0, none⟩), .pointer (some ⟨R, i * 16, none⟩)] w (OpB B R cr (us.set i (ctxU u wh u.h)) ls c bits wh (fun b => b = R ∨ l.has u b) w) := by
  have hlen := refs_len us ls h.len
  have hi := (List.getElem?_eq_some_iff.1 hu).1
  have q := h.qf hu hl ho.s.1
  obtain ⟨b1, b2⟩ := ho.bs (.inr (.inl hk))
  obtain ⟨t1, t2⟩ := ho.t4 hk
  obtain ⟨m1, m2⟩ := ho.m hk
  have hp := ho.pow
  have hpos := Nat.two_pow_pos u.sz
  have e6 : u.rg = u.b := rg4 hk
  have e5 : u.nm = u.t := nm4 hk
  have hl6 : u.rg.length = 2 ^ u.sz := by rw [e6, b1]
  have hl5 : u.nm.length = 2 ^ u.sz := by rw [e5, t1]
  have i6 : u.rg ≠ [] := ne_nil (by omega)
  have i5 : u.nm ≠ [] := ne_nil (by omega)
  have m6 : l.has u l.g6 := .inr (.inr (.inr (.inr (.inr ⟨i6, rfl⟩))))
  have m5 : l.has u l.g5 := .inr (.inr (.inr (.inr (.inl ⟨i5, rfl⟩))))
  have r6 := (h.ru i u l hu hl).r6 i6
  have r5 := (h.ru i u l hu hl).r5 i5
  have n56 := r5.ne r6 (by decide)
  rw [e6] at r6
  rw [e5] at r5
  have far6 := h.far i u l hu hl _ m6
  have far5 := h.far i u l hu hl _ m5
  have hat := ho.at_lt 1
  have hqb := t2 _ (getD_mem (i := u.at' 1) (by rw [t1]; exact hat.1))
  have hq := getD_some (l := u.t) (i := u.at' 1) (by rw [t1]; exact hat.1)
  obtain ⟨Q, hQ⟩ : ∃ Q : Nat, u.t.getD (u.at' 1) 0 = (Q : Int) := ⟨(u.t.getD (u.at' 1) 0).toNat, by omega⟩
  rw [hQ] at hq hqb
  have hs6 : sV l.g6 u.rg.length u.rg.length = .slice (some ⟨l.g6, 0, none⟩) (2 ^ u.sz) u.rg.length := by unfold sV; rw [if_neg (by omega), hl6]
  have hs5 : sV l.g5 u.nm.length u.nm.length = .slice (some ⟨l.g5, 0, none⟩) (2 ^ u.sz) u.nm.length := by unfold sV; rw [if_neg (by omega), hl5]
  refine (findR (s := u.sz) (a := u.at' 1) (q := Q) (ptr := u.ptr) (len := u.len) (wh := wh) (l := u.t) (S := u.b) (h := u.h) (zs := refs us ls) (hh0 := ho.h.1) (hh1 := ho.h.2) (s2 := ho.s.2) (hN := rfl) (hN1 := hpos) (hN2 := hp) (ha := hat.2) (haN := hat.1) (hlen := m2) (hwh := hwh) (hqw := by omega) (hR := h.row) (hT := r5) (hS := r6) (hSl := b1) (hq := hq) (nR5 := fun e => far5.2 e.symm) (nR6 := fun e => far6.2 e.symm) (n56 := n56) (nBR := h.ne) (nB5 := fun e => far5.1 e.symm) (h1 := (h.rcAt hu hl (j := 1) (by omega) rfl).trans (by rw [ho.s.1])) (h7 := h.rcAt hu hl (j := 7) (by omega) rfl) (h12 := (h.rcAt hu hl (j := 12) (by omega) rfl).trans (by rw [hs5])) (h13 := (h.rcAt hu hl (j := 13) (by omega) rfl).trans (by rw [hs6])) (h14 := h.rcAt hu hl (j := 14) (by omega) rfl) (h15 := h.rcAt hu hl (j := 15) (by omega) rfl) (b3 := h.blk.cell 3)).mono ?_
  rintro e w' ⟨rfl, ⟨h1, h2⟩, hf⟩
  have hf' : Frm (fun b => b = R ∨ l.has u b) w w' := hf.mono (fun b _ hb => hb.elim .inl (fun e => .inr (e ▸ m5)))
  have hE : ctxU u wh u.h = { u with ptr := ptrF (2 ^ u.sz) Q u.ptr u.len, len := lenF u.b (2 ^ u.sz) Q wh u.len, t := u.t.set (u.at' 1) (wh : Int) } := by
    unfold ctxU
    rw [if_pos hk, b1, show (placeI u.h 1 u.sz).toNat = u.at' 1 from rfl, hQ]
    rfl
  refine ⟨rfl, h.put hu hl (ctxU_shp u wh u.h) hf' ?_ ?_, hf'⟩
  · rw [hE]
    have hr1 := refs_set us ls i 14 u { u with ptr := ptrF (2 ^ u.sz) Q u.ptr u.len, t := u.t.set (u.at' 1) (wh : Int) } l (.int .i64 ((ptrF (2 ^ u.sz) Q u.ptr u.len : Nat) : Int)) hu hl (by omega) (by simp [Un.rc, Pt.cells, Un.ch, Un.ct, Un.ss, Un.wt, Un.nm, Un.rg, hk])
    have hr2 := refs_set (us.set i { u with ptr := ptrF (2 ^ u.sz) Q u.ptr u.len, t := u.t.set (u.at' 1) (wh : Int) }) ls i 15 { u with ptr := ptrF (2 ^ u.sz) Q u.ptr u.len, t := u.t.set (u.at' 1) (wh : Int) } { u with ptr := ptrF (2 ^ u.sz) Q u.ptr u.len, len := lenF u.b (2 ^ u.sz) Q wh u.len, t := u.t.set (u.at' 1) (wh : Int) } l (.int .i64 ((lenF u.b (2 ^ u.sz) Q wh u.len : Nat) : Int)) (List.getElem?_set_self hi) hl (by omega) rfl
    rw [hr1, hr2, List.set_set] at h1
    exact h1
  · have hk' : (ctxU u wh u.h).p.k = 4 := by rw [ctxU_p]; exact hk
    refine RU.mk4 hk' ?_ ?_
    · rw [hE]
      exact h2
    · rw [hE]
      exact r6.frm hf (fun hb => hb.elim (fun e => far6.2 e) (fun e => n56 e.symm))
end
end Go.Proofs.Ytnohfeaamfjimaa
