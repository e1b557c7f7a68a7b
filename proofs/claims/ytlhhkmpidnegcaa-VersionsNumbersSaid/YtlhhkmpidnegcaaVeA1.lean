/- The table, turned: its index, its number of blocks, one version more. Plain. -/
import Derived.Test.YtlhhkmpidnegcaaVeBd
namespace Go.Proofs.Ytlhhkmpidnegcaa
open Go.RowKit Go.WideShapes
set_option linter.unusedVariables false
set_option linter.unusedSimpArgs false
theorem foreign_map {w : World} {mb n : Nat} {f : List Int → Option Nat} (h : KMap w mb n f) : Foreign w mb := fun cs =>
  ⟨fun e => kmap_ne_blk h (show Blk w mb 41 cs from e) rfl, fun e => kmap_ne_blk h (show Blk w mb 3 cs from e) rfl⟩
section
variable {B gt gi mb nst n' : Nat} {T : Tab} {v v' V V' : Value} {xs : List Value} {w w' : World} {ps' : List Pc} {S : Nat → Prop}
theorem Tb.foreign (h : Tb B w gt gi mb nst T v V xs) (k : Nat) (hk : k = gi ∨ k = mb ∨ v.ownBlock = some k) : Foreign w k := by
  rcases hk with rfl | rfl | hk
  · exact Foreign.blk h.idx.blk (by decide) (by decide)
  · exact foreign_map h.idx.map
  · obtain ⟨_, cur, hb⟩ := h.idx.own.blk k hk
    exact Foreign.blk hb (by decide) (by decide)
theorem Tb.gt_ne (h : Tb B w gt gi mb nst T v V xs) (k : Nat) (hk : k = gi ∨ k = mb ∨ v.ownBlock = some k) : k ≠ gt := by
  rcases hk with rfl | rfl | hk
  · exact Blk.ne h.idx.blk h.blk (by decide)
  · exact kmap_ne_blk h.idx.map h.blk
  · exact h.idx.own.apart h.blk (by decide) k hk
theorem Tb.row_ne (h : Tb B w gt gi mb nst T v V xs) (k : Nat) (hk : k = gt ∨ k = gi ∨ k = mb ∨ v.ownBlock = some k) : V.ownBlock ≠ some k := fun e => by
  rcases hk with rfl | rfl | rfl | hk
  · exact Blk.apart h.blk h.row (by decide) _ e rfl
  · exact Blk.apart h.idx.blk h.row (by decide) _ e rfl
  · exact kmap_ne_own h.idx.map h.row e
  · obtain ⟨_, cur, hb⟩ := h.idx.own.blk k hk
    exact Blk.apart hb h.row (by decide) _ e rfl
/-- Another index behind the table. -/
theorem Tb.turn (h : Tb B w gt gi mb nst T v V xs) (hf : Frm S w w') (hS : ∀ k, S k → k = gi ∨ k = mb ∨ v.ownBlock = some k) (hi : Idx B w' gi mb n' ps' v') (hrt : ∀ p ∈ ps', rightP p.s p.b p.a = true) (hnd : (ps'.map Pc.h).Nodup) (hlm : ps'.length ≤ 8192) :
    Tb B w' gt gi mb n' ⟨T.bl, ps', T.vs⟩ v' V xs :=
  ⟨h.ge, h.blk.frm hf fun hs => h.gt_ne _ (hS _ hs) rfl, hi, hrt, hnd, hlm, h.b0, h.b1, h.vl, hf.own h.row fun k hk hs => h.row_ne k (.inr (hS k hs)) hk, h.vs.frm hf fun k hs => h.foreign k (hS k hs)⟩
/-- Another number of blocks. -/
theorem Tb.blocks (h : Tb B w gt gi mb nst T v V xs) (x : Int) (h0 : 0 ≤ x) (h1 : x ≤ 1048576) : Tb B (w.setCell ⟨gt, 1, none⟩ (.int .i64 x)) gt gi mb nst ⟨x, T.ps, T.vs⟩ v V xs := by
  have hf : Frm (fun k => k = gt) w (w.setCell ⟨gt, 1, none⟩ (.int .i64 x)) := (Frm.refl (fun k => k = gt) w).setCell (p := ⟨gt, 1, none⟩) (fun _ => rfl) _
  refine ⟨h.ge, ?_, h.idx.frm hf (fun e => h.gt_ne _ (.inl rfl) e) (fun e => h.gt_ne _ (.inr (.inl rfl)) e) (fun k hk e => h.gt_ne k (.inr (.inr hk)) e), h.rt, h.nd, h.lm, h0, h1, h.vl, hf.own h.row fun k hk e => h.row_ne k (.inl e) hk, h.vs.frm hf fun k e => ?_⟩
  · have := h.blk.set 1 (.int .i64 x)
    simp only [List.setIfInBounds_toArray, List.set_cons_zero, List.set_cons_succ] at this
    exact this
  · subst e
    exact Foreign.blk h.blk (by decide) (by decide)
/-- One version more. -/
theorem Tb.more {A2 : Option Addr} {n c2 : Nat} {fs : List Fl} {ds : List (ByteArray × List Int)} (h : Tb B w gt gi mb nst T v V xs) (hlt : T.vs.length < 100) (w3 : World) (hfl : fs.length = n) (hd : fs.map Fl.dat = ds) (hn : n ≤ 200) (hfn : ∀ f ∈ fs, f.n ≤ 131072)
    (hb : Below w.heap.size w w') (ho : OwnF w.heap.size w' (.slice A2 n c2) fs) (hg : (w'.alloc (.cells #[.slice A2 n c2] 27)).grownBy w3 V.ownBlock) (h3 : w3.ownsRow B 27 1 V' (T.vs.length + 1) (xs ++ [.slice A2 n c2])) :
    Tb B (w3.setCell ⟨gt, 2, none⟩ V') gt gi mb nst ⟨T.bl, T.ps, T.vs ++ [ds]⟩ v V' (xs ++ [.slice A2 n c2]) := by
  have hB : B ≤ w.heap.size := by have := h.ge; have := h.lt; omega
  have h1 := h.below hb
  have hfr : Frm (fun k => V.ownBlock = some k) w' w3 := ((Frm.refl _ w').alloc (.cells #[.slice A2 n c2] 27)).trans (Frm.of_grown hg (fun k hk => hk)) (fun _ _ h => h)
  have hfo : ∀ k, V.ownBlock = some k → Foreign w' k := fun k hk cs => by
    constructor <;> intro e <;> exact Blk.apart (show Blk w' k _ cs from e) h1.row (by decide) k hk rfl
  have hbk : Blk w3 gt 46 #[.pointer (some ⟨gi, 0, none⟩), .int .i64 T.bl, V] := h1.blk.frm hfr fun e => h1.row_ne gt (.inl rfl) e
  have hix : Idx B w3 gi mb nst T.ps v := h1.idx.frm hfr (fun e => h1.row_ne gi (.inr (.inl rfl)) e) (fun e => h1.row_ne mb (.inr (.inr (.inl rfl))) e) (fun k hk e => h1.row_ne k (.inr (.inr (.inr hk))) e)
  have hvs := h1.vs.frm hfr hfo
  have hof := (ho.mono hB).frm hfr hfo
  have hf : Frm (fun k => k = gt) w3 (w3.setCell ⟨gt, 2, none⟩ V') := (Frm.refl (fun k => k = gt) w3).setCell (p := ⟨gt, 2, none⟩) (fun _ => rfl) _
  have hfg : ∀ k, k = gt → Foreign w3 k := fun k e => by subst e; exact Foreign.blk hbk (by decide) (by decide)
  have hxl : xs.length = T.vs.length := by have := h.row.1; omega
  refine ⟨h.ge, ?_, hix.frm hf (fun e => Blk.ne hix.blk hbk (by decide) e) (fun e => kmap_ne_blk hix.map hbk e) (fun k hk e => hix.own.apart hbk (by decide) k hk e), h.rt, h.nd, h.lm, h.b0, h.b1, ?_, ?_, ?_⟩
  · have := hbk.set 2 V'
    simp only [List.setIfInBounds_toArray, List.set_cons_zero, List.set_cons_succ] at this
    exact this
  · show (T.vs ++ [ds]).length ≤ 100
    rw [List.length_append]
    show T.vs.length + 1 ≤ 100
    omega
  · show World.ownsRow _ B 27 1 V' (T.vs ++ [ds]).length _
    rw [List.length_append]
    exact hf.own h3 fun k hk e => Blk.apart hbk h3 (by decide) k hk e
  · refine ⟨fun i d hi => ?_⟩
    rcases Nat.lt_or_ge i T.vs.length with hi2 | hi2
    · have hi' : T.vs[i]? = some d := by
        have hi0 : (T.vs ++ [ds])[i]? = some d := hi
        rwa [List.getElem?_append_left hi2] at hi0
      obtain ⟨A, m, c, gs, k1, k2, k3, k4, k5⟩ := hvs.at_ i d hi'
      exact ⟨A, m, c, gs, by rw [List.getElem?_append_left (by omega)]; exact k1, k2, k3, k4.frm hf hfg, k5⟩
    · have hi' : i = T.vs.length ∧ ds = d := by
        have hi0 : (T.vs ++ [ds])[i]? = some d := hi
        rw [List.getElem?_append_right hi2] at hi0
        have hlt2 : i - T.vs.length < 1 := by
          have := (List.getElem?_eq_some_iff.1 hi0).1
          simpa using this
        have h0 : i - T.vs.length = 0 := by omega
        rw [h0] at hi0
        injection hi0 with hi0
        exact ⟨by omega, hi0⟩
      obtain ⟨rfl, rfl⟩ := hi'
      have hp := own_parts (hfl ▸ ho.own)
      exact ⟨A2, n, c2, fs, by rw [List.getElem?_append_right (by omega), hxl, Nat.sub_self]; rfl, hfl, hd, hof.frm hf hfg, hn, hfn, hp.2.2⟩
end
end Go.Proofs.Ytlhhkmpidnegcaa
