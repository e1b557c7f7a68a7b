/- The decoder: the next byte: walks. -/
import Derived.Test.YtbjbpbblalcpkaaEnd
namespace Go.Proofs.Ytbjbpbblalcpkaa
open Go.RowKit Go.WideShapes
set_option linter.unusedVariables false
theorem octs_at {l : List Int} {k : Nat} (h : k < l.length) : (octs l)[k]? = some (.int .u8 (l.getD k 0)) := by
  unfold octs
  rw [List.getElem?_map, List.getD_eq_getElem?_getD, List.getElem?_eq_getElem h]
  rfl
theorem rd_own {w : World} {base n : Nat} {e : TypeId} {size c : Nat} {A : Option Addr} {xs : List Value} (h : w.ownsRow base e size (.slice A n c) n xs) : Rd w A xs := fun hn => by
  have hl := h.1
  obtain ⟨g, cap, hv, _, hlt⟩ := h.form (by
    rcases Nat.eq_zero_or_pos n with h0 | h0
    · subst h0; rw [Nat.zero_mul] at hl; omega
    · exact h0)
  have hA : A = some ⟨g, 0, none⟩ := by injection hv
  subst hA
  refine ⟨g, 0, rfl, hlt, fun i u hu => ?_⟩
  have := h.cells (g := g) rfl i u hu
  rwa [addr_add] at this
theorem own_ne {w : World} {base n g b off : Nat} {e t : TypeId} {size c : Nat} {cs : Array Value} {xs : List Value} (h : w.ownsRow base e size (.slice (some ⟨b, off, none⟩) n c) n xs) (hb : Blk w g t cs) (he : e ≠ t := by decide) : b ≠ g := fun e' =>
  hb.apart h he b (by simp [Value.ownBlock]) e'
/-- The next byte: how many were taken, the number. -/
def dnext (bs : List Int) (s : Nat × Int) : Nat × Int := if s.1 < bs.length then (s.1 + 1, s.2 * 256 % 4294967296 + bs.getD s.1 0) else (s.1, s.2 * 256 % 4294967296)
def nexts (bs : List Int) : Nat → Nat × Int → Nat × Int
  | 0, s => s
  | n + 1, s => dnext bs (nexts bs n s)
/-- A decoder in block g. -/
structure Dec (B : Nat) (w : World) (g : Nat) (x y : Int) (bs : List Int) (s : Nat × Int) (v : Value) : Prop where
  blk : Blk w g 60 #[.int .u32 x, .int .u32 y, .bool true, v, .int .i64 s.1, .int .u32 s.2]
  own : w.ownsRow B 5 1 v bs.length (octs bs)
  ge : B ≤ g
  oct : Oct bs
  z0 : 0 ≤ s.2
  z1 : s.2 ≤ 4294967295
  len : s.1 ≤ bs.length
theorem Dec.frm {B : Nat} {w w' : World} {g : Nat} {x y : Int} {bs : List Int} {s : Nat × Int} {v : Value} {S : Nat → Prop} (h : Dec B w g x y bs s v) (hf : Frm S w w') (hn : ∀ k, own1 g v k → ¬ S k) : Dec B w' g x y bs s v :=
  ⟨h.blk.frm hf (hn g (.inl rfl)), hf.own h.own fun k hk => hn k (.inr hk), h.ge, h.oct, h.z0, h.z1, h.len⟩
theorem Dec.drewN {B : Nat} {w : World} {g : Nat} {x y : Int} {bs : List Int} {s : Nat × Int} {v : Value} (h : Dec B w g x y bs s v) (n : Nat) : Dec B (w.drewN n) g x y bs s v := h.frm (S := fun _ => False) ((Frm.refl _ w).drewN n) fun _ _ hh => hh
theorem Dec.alloc {B : Nat} {w : World} {g : Nat} {x y : Int} {bs : List Int} {s : Nat × Int} {v : Value} (h : Dec B w g x y bs s v) (o : Obj) : Dec B (w.alloc o) g x y bs s v := h.frm (S := fun _ => False) ((Frm.refl _ w).alloc o) fun _ _ hh => hh
theorem or_add (z c : Int) (z0 : 0 ≤ z) (z1 : z ≤ 4294967295) (c0 : 0 ≤ c) (c1 : c ≤ 255) : bits .or .u32 (z * 256 % 4294967296) c = z * 256 % 4294967296 + c := by
  rw [u32_or _ _ (by omega) (by omega) (by omega) (by omega), nat_join 8 _ _ (by omega) (by omega)]
  omega
structure Nexted (B g : Nat) (x y : Int) (bs : List Int) (s : Nat × Int) (v : Value) (w0 : World) (e : Ending) (w : World) : Prop where
  ret : e = .returned (.tuple #[])
  dec : Dec B w g x y bs (dnext bs s) v
  frm : Frm (fun k => k = g) w0 w
set_option maxRecDepth 100000 in
set_option maxHeartbeats 4000000 in
theorem next_any (B g : Nat) (x y : Int) (bs : List Int) (s : Nat × Int) (v : Value) (w : World) (h : Dec B w g x y bs s v) (hl : bs.length ≤ 140737488351232) :
    Calls Try.prog 32 #[.pointer (some ⟨g, 0, none⟩)] w (Nexted B g x y bs s v w) := by
  obtain ⟨k, z⟩ := s
  obtain ⟨A, c, rfl, hc⟩ := own_slice h.own
  have c3 := h.blk.cell 3
  have c4 := h.blk.cell 4
  have c5 := h.blk.cell 5
  have f4 := h.blk.frozen 4
  have f5 := h.blk.frozen 5
  simp at c3 c4 c5
  have z0 := h.z0
  have z1 := h.z1
  have hk := h.len
  simp only at z0 z1 hk
  have HH := Lib.hid h
  by_cases hlt : k < bs.length
  · obtain ⟨b, off, rfl, hbl, hcell⟩ := (rd_own h.own) (by rw [octs_length]; omega)
    have d0 := hcell k _ (octs_at hlt)
    have hb := h.oct.getD k
    have ho := or_add z _ z0 z1 hb.1 hb.2
    have hne : b ≠ g := own_ne h.own h.blk
    have gk : (k : Int) < bs.length := by omega
    have n5 : ∀ u, (w.setCell ⟨g, 5, none⟩ u).cell? ⟨b, off + k, none⟩ = some (.int .u8 (bs.getD k 0)) := fun u => by rw [World.cell?_setCell_other w _ _ u (fun e => hne (by injection e with e1; exact e1.symm))]; exact d0
    clear h hcell
    go_enter Try.func32, Try.ntmps32
    go_wp2_with fail
    go_quiet (fail)
    go_wp2_with fail
    obtain ⟨C, hC'⟩ : ∃ C, bs.getD k 0 = C := ⟨_, rfl⟩
    have hC := Lib.hid hC'
    rw [hC'] at hb ho d0
    simp only [hC'] at n5
    clear hC'
    go_region
    go_wp2
    go_end0
    refine ⟨rfl, ?_, ?_⟩
    · have e : dnext bs (k, z) = (k + 1, z * 256 % 4294967296 + C) := by unfold dnext; rw [if_pos hlt]; simp only [hC.out]
      rw [e]
      have f1 : Frm (fun j => j = g) w ((((w.setCell ⟨g, 5, none⟩ (.int .u32 (z * 256 % 4294967296))).drewN (nq + 1)).setCell ⟨g, 5, none⟩ (.int .u32 (z * 256 % 4294967296 + C))).setCell ⟨g, 4, none⟩ (.int .i64 ((k : Int) + 1))) := ((((Frm.refl (fun j => j = g) w).setCell (p := ⟨g, 5, none⟩) (fun _ => rfl) _).drewN _).setCell (p := ⟨g, 5, none⟩) (fun _ => rfl) _).setCell (p := ⟨g, 4, none⟩) (fun _ => rfl) _
      refine ⟨?_, f1.own HH.out.own fun j hj e => HH.out.blk.apart HH.out.own (by decide) j hj e, HH.out.ge, HH.out.oct, by simp only; omega, by simp only; omega, by simp only; omega⟩
      have := (((HH.out.blk.set 5 (.int .u32 (z * 256 % 4294967296))).drewN (nq + 1)).set 5 (.int .u32 (z * 256 % 4294967296 + C))).set 4 (.int .i64 ((k : Int) + 1))
      simpa using this
    · exact ((((Frm.refl (fun j => j = g) w).setCell (p := ⟨g, 5, none⟩) (fun _ => rfl) _).drewN _).setCell (p := ⟨g, 5, none⟩) (fun _ => rfl) _).setCell (p := ⟨g, 4, none⟩) (fun _ => rfl) _
  · have gk : (k : Int) = bs.length := by omega
    have gd : ¬ (k : Int) < bs.length := by omega
    clear gk h
    go_enter Try.func32, Try.ntmps32
    go_wp2_with fail
    go_quiet (fail)
    go_wp2
    go_end0
    refine ⟨rfl, ?_, ?_⟩
    · have e : dnext bs (k, z) = (k, z * 256 % 4294967296) := by unfold dnext; rw [if_neg hlt]
      rw [e]
      have f1 : Frm (fun j => j = g) w ((w.setCell ⟨g, 5, none⟩ (.int .u32 (z * 256 % 4294967296))).drewN nq) := ((Frm.refl (fun j => j = g) w).setCell (p := ⟨g, 5, none⟩) (fun _ => rfl) _).drewN _
      refine ⟨?_, f1.own HH.out.own fun j hj e => HH.out.blk.apart HH.out.own (by decide) j hj e, HH.out.ge, HH.out.oct, by simp only; omega, by simp only; omega, hk⟩
      have := (HH.out.blk.set 5 (.int .u32 (z * 256 % 4294967296))).drewN nq
      simpa using this
    · exact ((Frm.refl (fun j => j = g) w).setCell (p := ⟨g, 5, none⟩) (fun _ => rfl) _).drewN _
/-- The closure that Get hands on. -/
theorem nextc_any (B g bx : Nat) (x y c : Int) (bs : List Int) (s : Nat × Int) (v : Value) (w : World) (h : Dec B w g x y bs s v) (hbx : Blk w bx 43 #[.pointer (some ⟨g, 0, none⟩)]) (hl : bs.length ≤ 140737488351232) :
    Calls Try.prog 33 #[.int .u8 c, .pointer (some ⟨bx, 0, none⟩)] w (Nexted B g x y bs s v w) := by
  have c0 := hbx.cell 0
  simp at c0
  have H := Lib.hid h
  clear h hbx
  go_enter Try.func33, Try.ntmps33
  go_wp2_with fail
  refine (next_any B g x y bs s v w H.out hl).mono ?_
  rintro e w1 ⟨rfl, hd, hf⟩
  go_wp2
  go_end0
  exact ⟨rfl, hd, hf⟩
end Go.Proofs.Ytbjbpbblalcpkaa
