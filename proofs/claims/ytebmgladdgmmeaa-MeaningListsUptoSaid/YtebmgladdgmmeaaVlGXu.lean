/- One list, then another: what the three runs come to. Plain theorems. -/
import Derived.Test.YtebmgladdgmmeaaVlGDp
import Derived.Test.YtebmgladdgmmeaaVlGXt
import Derived.Test.YtebmgladdgmmeaaVlGLw
namespace Go.Proofs.Ytebmgladdgmmeaa
open Go.RowKit Go.WideShapes
set_option linter.unusedVariables false
set_option linter.unusedSimpArgs false
theorem flat_own {w w' : World} {f : Fo} {xs : List Value} {n base c : Nat} {A : Option Addr} (h : FlatF w.heap.size w f xs) (hb : Below w.heap.size w w') (ho : w'.ownsRow base 35 13 (.slice A n c) n xs) : RdS w'.heap.size w' A f := fun h0 => by
  have hl := h.length
  obtain ⟨g, o, e1, e2, e3⟩ := rd_own ho (by omega)
  exact ⟨g, o, e1, FlatF.rd hb hb.size f xs g o h e2 e3⟩
/-- What a run left behind. -/
structure Res7 (f : Fo) (s : St) (fuel most : Int) (W0 : World) (g : Nat) (vo : Value) (z : Int) (r : St × List Int × Int) (W : World) : Prop where
  run : RunM f true s fuel most r
  z : r.2.2 = z
  ok : r.1.m.ok ∧ Wds r.1.hs ∧ Oct r.1.ms ∧ r.1.hs.length ≤ 5000 ∧ r.1.ms.length ≤ 5000
  box : ∃ vh vm, MBox W g r.1.m vh vm ∧ OwnR W 0 vh 45 (r.1.hs.map (.int .u32)) ∧ OwnR W 0 vm 5 (r.1.ms.map (.int .u8))
  out : W.ownsRow W0.heap.size 5 1 vo r.2.1.length (r.2.1.map (.int .u8))
  low : Below W0.heap.size W0 W
theorem Res7.mk' {f : Fo} {s : St} {fuel most : Int} {W0 W : World} {vh vm vo : Value} {r : St × List Int × Int} (h : RunM f true s fuel most r) (hk : r.1.m.ok ∧ Wds r.1.hs ∧ Oct r.1.ms ∧ r.1.hs.length ≤ 5000 ∧ r.1.ms.length ≤ 5000) (oh : OwnR W 0 vh 45 (r.1.hs.map (.int .u32))) (om : OwnR W 0 vm 5 (r.1.ms.map (.int .u8))) (oo : W.ownsRow W0.heap.size 5 1 vo r.2.1.length (r.2.1.map (.int .u8))) (l : Below W0.heap.size W0 W) :
    Res7 f s fuel most W0 W.heap.size vo r.2.2 r (W.alloc (.cells (r.1.m.cells vh vm) 50)) :=
  have hb : Below W.heap.size W (W.alloc (.cells (r.1.m.cells vh vm) 50)) := (Below.refl _ _).alloc (Nat.le_refl _) _
  ⟨h, rfl, hk, ⟨vh, vm, MBox.new hk.1 W vh vm, oh.below hb, om.below hb⟩, own_below oo hb, ch0 l hb⟩
theorem Res7.below {f : Fo} {s : St} {fuel most : Int} {g : Nat} {W0 W W' : World} {vo : Value} {z : Int} {r : St × List Int × Int} (h : Res7 f s fuel most W0 g vo z r W) (hb : Below W.heap.size W W') : Res7 f s fuel most W0 g vo z r W' := by
  obtain ⟨vh, vm, h1, h2, h3⟩ := h.box
  exact ⟨h.run, h.z, h.ok, ⟨vh, vm, h1.below hb, h2.below hb, h3.below hb⟩, own_below h.out hb, ch0 h.low hb⟩
theorem runM_zero {f : Fo} {post : Bool} {s : St} {fuel most : Int} {r : St × List Int × Int} (h : RunM f post s fuel most r) (hz : r.2.2 = 0) : ∃ σ, Ev most (.list f) ⟨s, fuel, [], false⟩ 0 σ ∧ r = (σ.s, σ.out, 0) := by
  unfold RunM at h
  split at h
  · split at h
    · obtain ⟨c, σ, h1, h2⟩ := h
      by_cases hc : c = 0
      · subst hc
        exact ⟨σ, h1, by rw [h2, if_pos rfl]⟩
      · rw [if_neg hc] at h2
        rw [h2] at hz
        exact absurd hz hc
    · rw [h] at hz
      exact absurd hz (by decide)
  · rw [h] at hz
    exact absurd hz (by decide)
theorem runM_code {f : Fo} {s : St} {fuel most : Int} {r : St × List Int × Int} (h : RunM f true s fuel most r) (hf : rightF true f = true) (hr : rightM s.hs.length s.ms.length = true) : r.2.2 = 0 ∨ r.2.2 = 111 ∨ r.2.2 = 112 := by
  unfold RunM at h
  rw [if_pos hf, if_pos hr] at h
  obtain ⟨c, σ, h1, h2⟩ := h
  rcases h1.code with hc | hc | hc
  · subst hc
    rw [h2, if_pos rfl]
    exact .inl rfl
  · subst hc
    rw [h2]
    exact .inr (.inl rfl)
  · subst hc
    rw [h2]
    exact .inr (.inr rfl)
/-- The three runs. -/
theorem both7 {a b : Fo} {s : St} {r1 r2 r3 : St × List Int × Int} (hn : noHalt a = true) (hab : rightF true (a.app b) = true) (hm : rightM s.hs.length s.ms.length = true) (h1 : RunM a true s 100 300 r1) (z1 : r1.2.2 = 0) (h2 : RunM b true r1.1 100 300 r2) (z2 : r2.2.2 = 0) (h3 : RunM (a.app b) true s 200 600 r3) :
    r3 = (r2.1, r1.2.1 ++ r2.2.1, 0) ∧ r1.2.1.length ≤ 300 ∧ r2.2.1.length ≤ 300 := by
  obtain ⟨σ1, e1, rfl⟩ := runM_zero h1 z1
  obtain ⟨σ2, e2, rfl⟩ := runM_zero h2 z2
  obtain ⟨F, e3⟩ := lists_both hn e1 e2
  unfold RunM at h3
  rw [if_pos hab, if_pos hm] at h3
  obtain ⟨c, σ3, e4, h5⟩ := h3
  obtain ⟨rfl, rfl⟩ := e3.same e4
  have b1 := (e1.bounds (by show (0 : Int) ≤ 100; omega) (by show ((0 : Nat) : Int) ≤ 300; omega)).2
  have b2 := (e2.bounds (by show (0 : Int) ≤ 100; omega) (by show ((0 : Nat) : Int) ≤ 300; omega)).2
  exact ⟨by rw [h5, if_pos rfl], by show σ1.out.length ≤ 300; omega, by show σ2.out.length ≤ 300; omega⟩
/-- Bytes of two rows, one behind the other, beside a third row. -/
theorem kept_row {w w' : World} {b n : Nat} {e : TypeId} {size : Nat} {v : Value} {row : Option Nat} {xs : List Value} (h : w.ownsRow b e size v n xs) (hg : w.grownBy w' row) (hu : ∀ k, row = some k → k < b) : w'.ownsRow b e size v n xs :=
  h.kept hg (by
    rcases hv : v.ownBlock with _ | k
    · exact .inl rfl
    · refine .inr fun e => ?_
      have h1 := own_ge h k hv
      have h2 := hu k e.symm
      omega)
end Go.Proofs.Ytebmgladdgmmeaa
