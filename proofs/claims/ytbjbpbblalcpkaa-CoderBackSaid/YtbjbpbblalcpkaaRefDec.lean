/- The reference decoder: next, Read, New: walks. -/
import Derived.Test.YtbjbpbblalcpkaaRefTake
namespace Go.Proofs.Ytbjbpbblalcpkaa
open Go.RowKit Go.WideShapes
set_option linter.unusedVariables false
/-- The reference's decoder in block g: n bytes asked for, the number z. -/
structure DecR (B : Nat) (w : World) (g : Nat) (x y : Int) (bs : List Int) (n : Nat) (z : Int) (v : Value) : Prop where
  blk : Blk w g 69 #[.int .u64 x, .int .u64 y, v, .int .i64 n, .int .u64 z]
  own : w.ownsRow B 5 1 v bs.length (octs bs)
  ge : B ≤ g
  oct : Oct bs
theorem DecR.frm {B : Nat} {w w' : World} {g n : Nat} {x y z : Int} {bs : List Int} {v : Value} {S : Nat → Prop} (h : DecR B w g x y bs n z v) (hf : Frm S w w') (hn : ∀ k, own1 g v k → ¬ S k) : DecR B w' g x y bs n z v :=
  ⟨h.blk.frm hf (hn g (.inl rfl)), hf.own h.own fun k hk => hn k (.inr hk), h.ge, h.oct⟩
theorem DecR.drewN {B : Nat} {w : World} {g n : Nat} {x y z : Int} {bs : List Int} {v : Value} (h : DecR B w g x y bs n z v) (k : Nat) : DecR B (w.drewN k) g x y bs n z v := h.frm (S := fun _ => False) ((Frm.refl _ w).drewN k) fun _ _ hh => hh
theorem DecR.below {B : Nat} {w w' : World} {g n : Nat} {x y z : Int} {bs : List Int} {v : Value} (h : DecR B w g x y bs n z v) (hb : Below w.heap.size w w') : DecR B w' g x y bs n z v := h.frm (S := fun _ => False) (Frm.of_below hb) fun _ _ hh => hh
structure NextedR (B g : Nat) (x y : Int) (bs : List Int) (n : Nat) (z : Int) (v : Value) (w0 : World) (e : Ending) (w : World) : Prop where
  ret : e = .returned (.int .u64 (bs.getD n 0))
  dec : DecR B w g x y bs (n + 1) z v
  frm : Frm (fun k => k = g) w0 w
theorem nextR_close {B g n m : Nat} {x y z C : Int} {bs : List Int} {v : Value} {w : World} (h : DecR B w g x y bs n z v) (hC : bs.getD n 0 = C) : NextedR B g x y bs n z v w (.returned (.int .u64 C)) ((w.setCell ⟨g, 3, none⟩ (.int .i64 ((n : Int) + 1))).drewN m) := by
  have f1 : Frm (fun j => j = g) w ((w.setCell ⟨g, 3, none⟩ (.int .i64 ((n : Int) + 1))).drewN m) := ((Frm.refl (fun j => j = g) w).setCell (p := ⟨g, 3, none⟩) (fun _ => rfl) _).drewN _
  refine ⟨by rw [hC], ⟨?_, f1.own h.own fun j hj e => h.blk.apart h.own (by decide) j hj e, h.ge, h.oct⟩, f1⟩
  have := (h.blk.set 3 (.int .i64 ((n : Int) + 1))).drewN m
  simpa using this
theorem NextedR.drewN {B g n : Nat} {x y z : Int} {bs : List Int} {v : Value} {w w' : World} {e : Ending} (h : NextedR B g x y bs n z v w e w') (k : Nat) : NextedR B g x y bs n z v w e (w'.drewN k) := ⟨h.ret, h.dec.drewN k, h.frm.drewN k⟩
set_option maxRecDepth 100000 in
set_option maxHeartbeats 4000000 in
theorem nextR_any (B g : Nat) (x y : Int) (bs : List Int) (n : Nat) (z : Int) (v : Value) (w : World) (h : DecR B w g x y bs n z v) (hn : n ≤ 1000000000) (hl : bs.length ≤ 1000000000) :
    Calls Try.prog 34 #[.pointer (some ⟨g, 0, none⟩)] w (NextedR B g x y bs n z v w) := by
  obtain ⟨A, c, rfl, hc⟩ := own_slice h.own
  have c2 := h.blk.cell 2
  have c3 := h.blk.cell 3
  have f3 := h.blk.frozen 3
  simp at c2 c3
  have HH := Lib.hid h
  by_cases hlt : n < bs.length
  · obtain ⟨b, off, rfl, hbl, hcell⟩ := (rd_own h.own) (by rw [octs_length]; omega)
    have d0 := hcell n _ (octs_at hlt)
    have hb := h.oct.getD n
    have hne : b ≠ g := own_ne h.own h.blk
    have gk : decide ((bs.length : Int) < (n : Int) + 1) = false := by simp; omega
    have gn : (n : Int) < bs.length := by omega
    have n5 : ∀ u, (w.setCell ⟨g, 3, none⟩ u).cell? ⟨b, off + n, none⟩ = some (.int .u8 (bs.getD n 0)) := fun u => by rw [World.cell?_setCell_other w _ _ u (fun e => hne (by injection e with e1; exact e1.symm))]; exact d0
    obtain ⟨C, hC'⟩ : ∃ C, bs.getD n 0 = C := ⟨_, rfl⟩
    have hC := Lib.hid hC'
    rw [hC'] at hb d0
    simp only [hC'] at n5
    clear hC' h hcell
    go_enter Try.func34, Try.ntmps34
    go_wp2_with fail
    go_quiet (fail)
    go_wp2_with fail
    go_quiet (fail)
    go_wp2
    go_ret
    exact (nextR_close HH.out hC.out).drewN nq
  · have gk : decide ((bs.length : Int) < (n : Int) + 1) = true := by simp; omega
    clear h
    go_enter Try.func34, Try.ntmps34
    go_wp2_with fail
    go_quiet (fail)
    go_wp2
    go_ret
    exact nextR_close HH.out (by rw [List.getD_eq_getElem?_getD, List.getElem?_eq_none (by omega)]; rfl)
set_option maxHeartbeats 4000000 in
theorem readR_of (B g : Nat) (x y : Int) (bs : List Int) (n : Nat) (z : Int) (v : Value) (w : World) (h : DecR B w g x y bs n z v) (hl : bs.length ≤ 1000000000) :
    Calls Try.prog 24 #[.pointer (some ⟨g, 0, none⟩)] w fun e w' => e = .returned (.int .i64 (min n bs.length : Nat)) ∧ ∃ k, w' = w.drewN k := by
  obtain ⟨A, c, rfl, hc⟩ := own_slice h.own
  have c2 := h.blk.cell 2
  have c3 := h.blk.cell 3
  simp at c2 c3
  clear h
  go_enter Try.func24, Try.ntmps24
  go_wp2_with fail
  go_quiet (fail)
  go_wp2
  all_goals (go_ret; exact ⟨ret_i64 (by omega), nq, rfl⟩)
structure BegunR (w0 : World) (e : Ending) (w : World) : Prop where
  ret : e = .returned (.agg #[.int .u64 0, .int .u64 4294967295])
  low : Below w0.heap.size w0 w
theorem begunR_any (w : World) : Calls Try.prog 9 #[] w (BegunR w) := by
  go_enter Try.func9, Try.ntmps9
  go_wp2
  exact bodyPost_ret (v := .agg #[.int .u64 0, .int .u64 4294967295]) (by simp [results, Try.results9, go_sem]) rfl ⟨rfl, (Below.refl _ _).alloc (Nat.le_refl _) _⟩
end Go.Proofs.Ytbjbpbblalcpkaa
