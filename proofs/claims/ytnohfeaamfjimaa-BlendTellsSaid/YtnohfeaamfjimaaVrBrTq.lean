/- The program's blend and the reference's, side by side. Plain over the contracts. -/
import Derived.Test.YtnohfeaamfjimaaVrBrBg
import Derived.Test.YtnohfeaamfjimaaVrBrCx
import Derived.Test.YtnohfeaamfjimaaVrBlTp
namespace Go.Proofs.Ytnohfeaamfjimaa
open Go.RowKit Go.WideShapes
set_option linter.unusedVariables false
set_option linter.unusedSimpArgs false
structure OpR (T : Nat → Prop) (B : Nat) (s : Bst) (w0 : World) (v : Value) (e : Ending) (w : World) : Prop where
  ret : e = .returned v
  rs : RS T w B s
  frm : Frm T w0 w
section
variable {T S : Nat → Prop} {w w' : World} {B : Nat} {s : Bst}
theorem RS.frm (h : RS T w B s) (hf : Frm S w w') (hn : ∀ b, T b → ¬ S b) : RS T w' B s := by
  obtain ⟨R, cr, ls, hm, ht⟩ := h.ex
  exact ⟨⟨R, cr, ls, hm.frm hf (fun b hb => hn b (ht b hb)), ht⟩, fun b hb => Nat.lt_of_lt_of_le (h.lt b hb) hf.size⟩
theorem RS.below (h : RS T w B s) (hb : Below w.heap.size w w') : RS T w' B s := h.frm (S := fun _ => False) ⟨hb.os, hb.tape, hb.output, hb.size, fun k hk _ => hb.block k hk⟩ (fun _ _ h => h)
theorem RS.bits (h : RS T w B s) : w.cell? ⟨B, 2, none⟩ = some (.int .i64 (s.bits : Int)) := by
  obtain ⟨R, cr, ls, hm, ht⟩ := h.ex
  exact hm.blk.cell 2
theorem RS.ops (h : RS T w B s) (v : Value) : OpR T B s w v (.returned v) w := ⟨rfl, h, Frm.refl _ _⟩
theorem leansRS (h : RS T w B s) (ho : s.Ok) (h16 : s.us.length ≤ 16) : Calls Try.prog 23 #[.pointer (some ⟨B, 0, none⟩)] w (OwnsV 3 (ints s.leans) s.us.length w) := by
  obtain ⟨R, cr, ls, hm, ht⟩ := h.ex
  exact leansR w hm ho.us ho.c255 ho.bits h16
theorem guessRS (h : RS T w B s) (ho : s.Ok) (h16 : s.us.length ≤ 16) : Calls Try.prog 24 #[.pointer (some ⟨B, 0, none⟩)] w (Quiet (.int .i64 s.guess) w) := by
  obtain ⟨R, cr, ls, hm, ht⟩ := h.ex
  exact guessR w hm ho.us ho.c255 ho.bits h16 ho.n0
theorem ctxRS (h : RS T w B s) (ho : s.Ok) (h16 : s.us.length ≤ 16) (hwh : s.wh ≤ 1000000) (hs : List Int) (Ah : Option Addr) (nh ch : Nat) (hw : WOk hs) (hnl : hs.length = nh) (hnh : nh ≤ 9223372036854775807) (hrd : ∀ W, Frm T w W → Rd W Ah (wds hs)) :
    Calls Try.prog 18 #[.pointer (some ⟨B, 0, none⟩), .slice Ah nh ch] w (OpR T B (s.doCtx hs) w (.int .i64 (ctxR s))) := by
  unfold Bst.doCtx ctxR
  by_cases hb : s.bits = 0
  · rw [if_pos hb, if_pos hb]
    obtain ⟨R, cr, ls, hm, ht⟩ := h.ex
    rw [hb] at hm
    refine (ctxRb hs Ah nh ch w hm ho.us h16 (by omega) hw hnl hnh (fun W hW => hrd W (hW.mono (fun b _ hb => ht b hb)))).mono ?_
    rintro e w' ⟨rfl, hrb, hf⟩
    have hf' : Frm T w w' := hf.mono (fun b _ hb => ht b hb)
    refine ⟨rfl, ⟨⟨R, cr, ls, ?_, fun b hb => ht b (blksK (fun i u => ctxU_shp u s.wh _) s.us.length hb)⟩, fun b hb => Nat.lt_of_lt_of_le (h.lt b hb) hf.size⟩, hf'⟩
    show RB w' B R cr (ctxB s.us s.wh hs) ls s.c s.bits s.wh
    rw [hb]
    exact hrb
  · rw [if_neg hb, if_neg hb]
    refine (ctxArgR B nh ch Ah s.bits w h.bits hb).mono ?_
    rintro e w' ⟨rfl, rfl⟩
    exact h.ops _
theorem learnRS (h : RS T w B s) (ho : s.Ok) (h16 : s.us.length ≤ 16) (hwh : s.wh ≤ 1000000) (bit : Int) : Calls Try.prog 20 #[.pointer (some ⟨B, 0, none⟩), .int .i64 bit] w (OpR T B (s.doBit bit) w (.int .i64 (bitR bit))) := by
  unfold Bst.doBit bitR
  by_cases hb : bit = 0 ∨ bit = 1
  · rw [if_pos hb, if_pos hb]
    obtain ⟨R, cr, ls, hm, ht⟩ := h.ex
    refine (learnRb bit w hm ho.us ho.c255 ho.bits h16 hb (by omega)).mono ?_
    rintro e w' ⟨rfl, hrb, hf⟩
    have hf' : Frm T w w' := hf.mono (fun b _ hb => ht b hb)
    have h1 : ∀ b, RBlks B R (learnB s.us s.c s.bits bit) ls b → T b := fun b hb => ht b (blksK (fun i u => learnU_shp u s.c _ _ bit) s.us.length hb)
    have hlt : ∀ b, T b → b < w'.heap.size := fun b hb => Nat.lt_of_lt_of_le (h.lt b hb) hf.size
    unfold Bst.put
    rcases hrb with ⟨h7, hrb⟩ | ⟨h7, hrb⟩
    · rw [if_neg h7]
      exact ⟨rfl, ⟨⟨R, cr, ls, hrb, h1⟩, hlt⟩, hf'⟩
    · rw [if_pos h7]
      exact ⟨rfl, ⟨⟨R, cr, ls, hrb, fun b hb => h1 b (blksK (fun i u => endU_shp u _ s.wh) _ hb)⟩, hlt⟩, hf'⟩
  · rw [if_neg hb, if_neg hb]
    refine (learnArgR bit B w hb).mono ?_
    rintro e w' ⟨rfl, rfl⟩
    exact h.ops _
end
/-- Both blends; all that they lie in is new. -/
structure TR (w0 w : World) (B1 : Nat) (s1 : Bst) (B2 : Nat) (s2 : Bst) : Prop where
  ex : ∃ T1 T2, BS T1 w B1 s1 ∧ RS T2 w B2 s2 ∧ (∀ b, T1 b → ¬ T2 b) ∧ (∀ b, T1 b ∨ T2 b → w0.heap.size ≤ b)
  low : Below w0.heap.size w0 w
/-- Both; of the blocks of wb only those of U may have turned. -/
structure TQ (U : Nat → Prop) (wb w : World) (B1 : Nat) (s1 : Bst) (B2 : Nat) (s2 : Bst) : Prop where
  ex : ∃ T1 T2, BS T1 w B1 s1 ∧ RS T2 w B2 s2 ∧ (∀ b, T1 b → ¬ T2 b) ∧ (∀ b, T1 b ∨ T2 b → U b ∨ wb.heap.size ≤ b)
  frm : Frm U wb w
section
variable {U : Nat → Prop} {w0 wb w w' : World} {B1 B2 : Nat} {s1 s2 s1' s2' : Bst} {f : FuncId} {args : Array Value} {v : Value}
theorem TQ.below (h : TQ U wb w B1 s1 B2 s2) (hb : Below w.heap.size w w') : TQ U wb w' B1 s1 B2 s2 := by
  obtain ⟨⟨T1, T2, h1, h2, hd, hg⟩, hl⟩ := h
  exact ⟨⟨T1, T2, h1.below hb, h2.below hb, hd, hg⟩, hl.below hb⟩
theorem TQ.drew (h : TQ U wb w B1 s1 B2 s2) : TQ U wb w.drew B1 s1 B2 s2 := h.below (below_drewN (Below.refl _ _) 1)
theorem TQ.one (h : TQ U wb w B1 s1 B2 s2) (hc : ∀ T, (∀ b, T b → U b ∨ wb.heap.size ≤ b) → BS T w B1 s1 → Calls Try.prog f args w (OpS T B1 s1' w v)) : Calls Try.prog f args w (fun e w' => e = .returned v ∧ TQ U wb w' B1 s1' B2 s2) := by
  obtain ⟨⟨T1, T2, h1, h2, hd, hg⟩, hl⟩ := h
  refine (hc T1 (fun b hb => hg b (.inl hb)) h1).mono ?_
  rintro e w' ⟨rfl, hbs, hf⟩
  refine ⟨rfl, ⟨Ext T1 w w', T2, hbs, h2.frm hf (fun b hb ht => hd b ht hb), fun b hb h2' => hb.elim (fun h => hd b h h2') (fun h => by have := h2.lt b h2'; omega), fun b hb => ?_⟩, hl.trans hf (fun b hb ht => (hg b (.inl ht)).elim id (fun h => by omega))⟩
  rcases hb with (hb | hb) | hb
  · exact hg b (.inl hb)
  · have := hl.size
    exact .inr (by omega)
  · exact hg b (.inr hb)
theorem TQ.two (h : TQ U wb w B1 s1 B2 s2) (hc : ∀ T, (∀ b, T b → U b ∨ wb.heap.size ≤ b) → RS T w B2 s2 → Calls Try.prog f args w (OpR T B2 s2' w v)) : Calls Try.prog f args w (fun e w' => e = .returned v ∧ TQ U wb w' B1 s1 B2 s2') := by
  obtain ⟨⟨T1, T2, h1, h2, hd, hg⟩, hl⟩ := h
  refine (hc T2 (fun b hb => hg b (.inr hb)) h2).mono ?_
  rintro e w' ⟨rfl, hrs, hf⟩
  exact ⟨rfl, ⟨T1, T2, h1.frm hf (fun b hb ht => hd b hb ht), hrs, hd, hg⟩, hl.trans hf (fun b hb ht => (hg b (.inr ht)).elim id (fun h => by omega))⟩
theorem TQ.ref (h : TQ U wb w B1 s1 B2 s2) : ∃ T, RS T w B2 s2 := by
  obtain ⟨⟨T1, T2, h1, h2, hd, hg⟩, hl⟩ := h
  exact ⟨T2, h2⟩
theorem TQ.prog (h : TQ U wb w B1 s1 B2 s2) : ∃ T, BS T w B1 s1 := by
  obtain ⟨⟨T1, T2, h1, h2, hd, hg⟩, hl⟩ := h
  exact ⟨T1, h1⟩
theorem TR.below (h : TR w0 w B1 s1 B2 s2) (hb : Below w.heap.size w w') : TR w0 w' B1 s1 B2 s2 := by
  obtain ⟨⟨T1, T2, h1, h2, hd, hg⟩, hl⟩ := h
  exact ⟨⟨T1, T2, h1.below hb, h2.below hb, hd, hg⟩, bl_step hl hb⟩
theorem TR.tq (h : TR w0 w B1 s1 B2 s2) (hb : Below w.heap.size w w') : ∃ U, TQ U w' w' B1 s1 B2 s2 ∧ (∀ b, U b → w0.heap.size ≤ b ∧ b < w.heap.size) := by
  obtain ⟨⟨T1, T2, h1, h2, hd, hg⟩, hl⟩ := h
  exact ⟨fun b => T1 b ∨ T2 b, ⟨⟨T1, T2, h1.below hb, h2.below hb, hd, fun b hb => .inl hb⟩, Frm.refl _ _⟩, fun b hb' => ⟨hg b hb', hb'.elim (h1.lt b) (h2.lt b)⟩⟩
theorem TQ.tr (h : TQ U wb w B1 s1 B2 s2) (hU : ∀ b, U b → w0.heap.size ≤ b) (hl : Below w0.heap.size w0 wb) : TR w0 w B1 s1 B2 s2 := by
  obtain ⟨⟨T1, T2, h1, h2, hd, hg⟩, hf⟩ := h
  refine ⟨⟨T1, T2, h1, h2, hd, fun b hb => (hg b hb).elim (hU b) (fun h => Nat.le_trans hl.size h)⟩, hl.trans (hf.to_below hl.size hU)⟩
theorem tr_new {wa wc w1 w2 : World} {s : Bst} (h0 : Below w0.heap.size w0 wa) (ha : BS (fun b => wa.heap.size ≤ b ∧ b < w1.heap.size) w1 B1 s) (h1 : Below wa.heap.size wa w1) (h2 : Below w1.heap.size w1 wc) (hb : RS (fun b => wc.heap.size ≤ b ∧ b < w2.heap.size) w2 B2 s) (h3 : Below wc.heap.size wc w2) : TR wa w2 B1 s B2 s := by
  have h12 : Below w1.heap.size w1 w2 := bl_step h2 h3
  refine ⟨⟨_, _, ha.below h12, hb, fun b hb hc => ?_, fun b hb => ?_⟩, bl_step h1 h12⟩
  · have := h2.size
    omega
  · have := h1.size
    have := h2.size
    omega
/-- What lies ahead of wa turned: both stand, below w0 all is as it was. -/
theorem TR.over {wa : World} {S : Nat → Prop} (h : TR wa w B1 s1 B2 s2) (h0 : Below w0.heap.size w0 wa) (hf : Frm S w w') (hS : ∀ b, S b → w0.heap.size ≤ b ∧ b < wa.heap.size) : TR w0 w' B1 s1 B2 s2 := by
  obtain ⟨⟨T1, T2, h1, h2, hd, hg⟩, hl⟩ := h
  have hlow := bl_step h0 hl
  refine ⟨⟨T1, T2, h1.frm hf (fun b hb hs => ?_), h2.frm hf (fun b hb hs => ?_), hd, fun b hb => Nat.le_trans h0.size (hg b hb)⟩, hlow.trans (hf.to_below hlow.size (fun b hb => (hS b hb).1))⟩
  · have := hg b (.inl hb)
    have := (hS b hs).2
    omega
  · have := hg b (.inr hb)
    have := (hS b hs).2
    omega
structure LeR (U : Nat → Prop) (wb : World) (B1 : Nat) (s1 : Bst) (B2 : Nat) (s2 : Bst) (e : Ending) (w : World) : Prop where
  ex : ∃ g cp U', e = .returned (.slice (some ⟨g, 0, none⟩) s1.us.length cp) ∧ s1.us.length ≤ cp ∧ Row w g 3 (ints s1.leans) ∧ wb.heap.size ≤ g ∧ ¬ U' g ∧ TQ U' w w B1 s1 B2 s2 ∧ (∀ b, U' b → U b ∨ wb.heap.size ≤ b)
  frm : Frm U wb w
theorem TQ.leans1 (h : TQ U wb w B1 s1 B2 s2) (ho : s1.Ok) : Calls Try.prog 21 #[.pointer (some ⟨B1, 0, none⟩)] w (LeR U wb B1 s1 B2 s2) := by
  obtain ⟨⟨T1, T2, h1, h2, hd, hg⟩, hl⟩ := h
  refine (leansS h1 ho).mono ?_
  rintro e w' ⟨⟨A, cp, T', m, rfl, hcp, hbs, hext, hlt, hm1, hm2, hrow⟩, hf⟩
  have h2' := h2.frm hf (fun b hb ht => hd b ht hb)
  obtain ⟨g, c, hv, _, hge, _, hr⟩ := row_of_own hrow ho.n0
  injection hv with hA _ hc
  subst hA hc
  have hs := hl.size
  refine ⟨⟨g, cp, fun b => T' b ∨ T2 b, rfl, hcp, hr, by omega, fun hU => ?_, ⟨⟨T', T2, hbs, h2', fun b hb hb2 => ?_, fun b hb => .inl hb⟩, Frm.refl _ _⟩, fun b hb => ?_⟩, hl.trans hf (fun b hb ht => (hg b (.inl ht)).elim id (fun h => by omega))⟩
  · rcases hU with hU | hU
    · have := hlt _ hU
      omega
    · have := h2.lt _ hU
      omega
  · rcases hext b hb with hb | hb
    · exact hd b hb hb2
    · have := h2.lt b hb2
      omega
  · rcases hb with hb | hb
    · rcases hext b hb with hb | hb
      · exact hg b (.inl hb)
      · exact .inr (by omega)
    · exact hg b (.inr hb)
/-- A row that is not theirs turned. -/
theorem TQ.other {g : Nat} (h : TQ U wb w B1 s1 B2 s2) (hg : ¬ U g) (hlt : g < wb.heap.size) (hf : Frm (fun b => b = g) w w') : TQ (fun b => U b ∨ b = g) wb w' B1 s1 B2 s2 := by
  obtain ⟨⟨T1, T2, h1, h2, hd, hx⟩, hl⟩ := h
  have key : ∀ b, T1 b ∨ T2 b → ¬ b = g := fun b hb e => by
    subst e
    rcases hx b hb with h | h
    · exact hg h
    · omega
  refine ⟨⟨T1, T2, h1.frm hf (fun b hb => key b (.inl hb)), h2.frm hf (fun b hb => key b (.inr hb)), hd, fun b hb => (hx b hb).imp .inl id⟩, (hl.mono (fun b _ hb => .inl hb)).trans hf (fun b _ hb => .inr hb)⟩
end
theorem Row.rd {w : World} {g : Nat} {xs : List Value} {t : TypeId} (h : Row w g t xs) : Rd w (some ⟨g, 0, none⟩) xs := fun _ =>
  ⟨g, 0, rfl, h.lt, fun i u hu => by rw [Nat.zero_add]; exact h.at hu⟩
end Go.Proofs.Ytnohfeaamfjimaa
