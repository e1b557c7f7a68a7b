/- The decoder's Get: walks. -/
import Derived.Test.YtbjbpbblalcpkaaTakeGet
namespace Go.Proofs.Ytbjbpbblalcpkaa
open Go.RowKit Go.WideShapes
set_option linter.unusedVariables false
structure GetOk (B g : Nat) (b x y : Int) (bs : List Int) (s : Nat × Int) (v : Value) (w0 : World) (e : Ending) (w : World) : Prop where
  ret : e = .returned (.tuple #[.int .i64 b, .int .i64 0])
  dec : Dec B w g x y bs s v
  frm : Frm (fun k => k = g) w0 w
set_option maxRecDepth 100000 in
set_option maxHeartbeats 4000000 in
theorem get_one (B g : Nat) (x y p : Int) (bs : List Int) (s : Nat × Int) (v : Value) (w : World) (he : Dec B w g x y bs s v) (hn : Nrm x y) (hl : bs.length ≤ 140737488351232) (p0 : 1 ≤ p) (p1 : p ≤ 65535) (hz : s.2 ≤ mid x y p) :
    Calls Try.prog 19 #[.pointer (some ⟨g, 0, none⟩), .int .i64 p] w (GetOk B g 1 (step 1 p x y).2.1 (step 1 p x y).2.2 bs (nexts bs (step 1 p x y).1.length s) v w) := by
  obtain ⟨k, z⟩ := s
  simp only at hz
  have hi : Ivl x (mid x y p) := by have := cut_ivl (b := 1) hn p0 p1; simpa [cutX, cutY] using this
  have hst : norm x (mid x y p) = step 1 p x y := by simp [step, cutX, cutY]
  have hxy : x < y := by have := hn.df; have := hn.xy; omega
  have hmi := mid_in hn.x0 hxy p0 p1
  have hm0 : 0 ≤ mid x y p := by have := hn.x0; omega
  have hm1 : mid x y p + 1 ≤ 4294967295 := by have := hn.y1; omega
  have hmid := Lib.hid (middle_any g x y p 60)
  have gz : decide (z ≤ mid x y p) = true := by simp; omega
  have HST := Lib.hid hst
  have hea := he.alloc (.cells #[.pointer (some ⟨g, 0, none⟩)] 43)
  have c2 := hea.blk.cell 2
  have c5 := hea.blk.cell 5
  simp at c2 c5
  have hbx := Blk.new w 43 #[.pointer (some ⟨g, 0, none⟩)]
  have hfa : Frm (fun k => k = g) w (w.alloc (.cells #[.pointer (some ⟨g, 0, none⟩)] 43)) := (Frm.refl _ w).alloc _
  have HX := Lib.hid hbx
  have HEA := Lib.hid hea
  have HFA := Lib.hid hfa
  have HI := Lib.hid hi
  have HN := Lib.hid hn
  clear he hea hbx hi hn hst hxy hmi hfa hz
  have hmf : ∀ (fn : Fn) (first cap : Array Value) (w : World), (Instr.makeFunc fn first cap).run Try.prog w = .ok (.func fn first cap) w := fun _ _ _ _ => rfl
  go_enter Try.func19, Try.ntmps19
  go_wp2_with fail
  refine (chance_yes p _ p0 p1).mono ?_
  rintro e w1 ⟨rfl, rfl⟩
  go_wp2_with fail
  refine (hmid.out _ _ HEA.out.blk rfl rfl HN.out p0 p1).mono ?_
  rintro e w2 ⟨rfl, nq, rfl⟩
  obtain ⟨m, hm⟩ : ∃ m, mid x y p = m := ⟨_, rfl⟩
  rw [hm] at gz hm0 hm1 HI HST ⊢
  clear hm
  go_wp2_with fail
  refine (takeD_one B g w.heap.size x y m bs (k, z) v _ (HEA.out.drewN _) (HX.out.drewN _) hl HI.out).mono ?_
  rintro e w5 ⟨rfl, hd5, hf5⟩
  go_wp2
  go_ret2
  have e5 := HST.out
  rw [e5] at hd5
  exact ⟨rfl, hd5, (HFA.out.drewN nq).trans hf5 fun _ _ h => h⟩
set_option maxRecDepth 100000 in
set_option maxHeartbeats 4000000 in
theorem get_zero (B g : Nat) (x y p : Int) (bs : List Int) (s : Nat × Int) (v : Value) (w : World) (he : Dec B w g x y bs s v) (hn : Nrm x y) (hl : bs.length ≤ 140737488351232) (p0 : 1 ≤ p) (p1 : p ≤ 65535) (hz : mid x y p < s.2) :
    Calls Try.prog 19 #[.pointer (some ⟨g, 0, none⟩), .int .i64 p] w (GetOk B g 0 (step 0 p x y).2.1 (step 0 p x y).2.2 bs (nexts bs (step 0 p x y).1.length s) v w) := by
  obtain ⟨k, z⟩ := s
  simp only at hz
  have hi : Ivl (mid x y p + 1) y := by have := cut_ivl (b := 0) hn p0 p1; simpa [cutX, cutY] using this
  have hst : norm (mid x y p + 1) y = step 0 p x y := by simp [step, cutX, cutY]
  have hxy : x < y := by have := hn.df; have := hn.xy; omega
  have hmi := mid_in hn.x0 hxy p0 p1
  have hm0 : 0 ≤ mid x y p := by have := hn.x0; omega
  have hm1 : mid x y p + 1 ≤ 4294967295 := by have := hn.y1; omega
  have hmid := Lib.hid (middle_any g x y p 60)
  have gz : decide (z ≤ mid x y p) = false := by simp; omega
  have HST := Lib.hid hst
  have hea := he.alloc (.cells #[.pointer (some ⟨g, 0, none⟩)] 43)
  have c2 := hea.blk.cell 2
  have c5 := hea.blk.cell 5
  simp at c2 c5
  have hbx := Blk.new w 43 #[.pointer (some ⟨g, 0, none⟩)]
  have hfa : Frm (fun k => k = g) w (w.alloc (.cells #[.pointer (some ⟨g, 0, none⟩)] 43)) := (Frm.refl _ w).alloc _
  have HX := Lib.hid hbx
  have HEA := Lib.hid hea
  have HFA := Lib.hid hfa
  have HI := Lib.hid hi
  have HN := Lib.hid hn
  clear he hea hbx hi hn hst hxy hmi hfa hz
  have hmf : ∀ (fn : Fn) (first cap : Array Value) (w : World), (Instr.makeFunc fn first cap).run Try.prog w = .ok (.func fn first cap) w := fun _ _ _ _ => rfl
  go_enter Try.func19, Try.ntmps19
  go_wp2_with fail
  refine (chance_yes p _ p0 p1).mono ?_
  rintro e w1 ⟨rfl, rfl⟩
  go_wp2_with fail
  refine (hmid.out _ _ HEA.out.blk rfl rfl HN.out p0 p1).mono ?_
  rintro e w2 ⟨rfl, nq, rfl⟩
  obtain ⟨m, hm⟩ : ∃ m, mid x y p = m := ⟨_, rfl⟩
  rw [hm] at gz hm0 hm1 HI HST ⊢
  clear hm
  go_wp2_with fail
  refine (takeD_zero B g w.heap.size x y m bs (k, z) v _ (HEA.out.drewN _) (HX.out.drewN _) hl HI.out hm0 hm1).mono ?_
  rintro e w5 ⟨rfl, hd5, hf5⟩
  go_wp2
  go_ret2
  have e5 := HST.out
  rw [e5] at hd5
  exact ⟨rfl, hd5, (HFA.out.drewN nq).trans hf5 fun _ _ h => h⟩
/-- The bit that a decoder tells. -/
def bitOf (x y p z : Int) : Int := if z ≤ mid x y p then 1 else 0
theorem get_ok (B g : Nat) (x y p : Int) (bs : List Int) (s : Nat × Int) (v : Value) (w : World) (he : Dec B w g x y bs s v) (hn : Nrm x y) (hl : bs.length ≤ 140737488351232) (p0 : 1 ≤ p) (p1 : p ≤ 65535) :
    Calls Try.prog 19 #[.pointer (some ⟨g, 0, none⟩), .int .i64 p] w (GetOk B g (bitOf x y p s.2) (step (bitOf x y p s.2) p x y).2.1 (step (bitOf x y p s.2) p x y).2.2 bs (nexts bs (step (bitOf x y p s.2) p x y).1.length s) v w) := by
  by_cases hz : s.2 ≤ mid x y p
  · rw [show bitOf x y p s.2 = 1 from if_pos hz]
    exact get_one B g x y p bs s v w he hn hl p0 p1 hz
  · rw [show bitOf x y p s.2 = 0 from if_neg hz]
    exact get_zero B g x y p bs s v w he hn hl p0 p1 (by omega)
structure GetNo (n : Int) (w0 : World) (e : Ending) (w : World) : Prop where
  ret : e = .returned (.tuple #[.int .i64 0, .int .i64 n])
  low : Below w0.heap.size w0 w
set_option maxHeartbeats 2000000 in
theorem get_nil (p : Int) (w : World) : Calls Try.prog 19 #[.pointer none, .int .i64 p] w (GetNo 1 w) := by
  go_enter Try.func19, Try.ntmps19
  go_wp2
  go_ret2
  exact ⟨rfl, (Below.refl _ _).alloc (Nat.le_refl _) _⟩
set_option maxHeartbeats 2000000 in
theorem get_unmade (g : Nat) (x y p : Int) (v v2 v3 : Value) (w : World) (hb : Blk w g 60 #[.int .u32 x, .int .u32 y, .bool false, v, v2, v3]) : Calls Try.prog 19 #[.pointer (some ⟨g, 0, none⟩), .int .i64 p] w (GetNo 1 w) := by
  have c2 := (hb.alloc (.cells #[.pointer (some ⟨g, 0, none⟩)] 43)).cell 2
  simp at c2
  clear hb
  go_enter Try.func19, Try.ntmps19
  go_wp2
  go_ret2
  exact ⟨rfl, (Below.refl _ _).alloc (Nat.le_refl _) _⟩
set_option maxHeartbeats 2000000 in
theorem get_arg (B g : Nat) (x y p : Int) (bs : List Int) (s : Nat × Int) (v : Value) (w : World) (he : Dec B w g x y bs s v) (h : p < 1 ∨ 65535 < p) : Calls Try.prog 19 #[.pointer (some ⟨g, 0, none⟩), .int .i64 p] w (GetNo 2 w) := by
  have c2 := (he.blk.alloc (.cells #[.pointer (some ⟨g, 0, none⟩)] 43)).cell 2
  simp at c2
  have H := Lib.hid h
  clear he h
  go_enter Try.func19, Try.ntmps19
  go_wp2_with (go_at_call 26; refine (chance_no p _ H.out).mono ?_; rintro e w1 ⟨rfl, rfl⟩)
  go_ret2
  exact ⟨rfl, (Below.refl _ _).alloc (Nat.le_refl _) _⟩
theorem read_nil (w : World) : Calls Try.prog 23 #[.pointer none] w (Same (.int .i64 0) w) := by
  go_enter Try.func23, Try.ntmps23
  go_wp2
  go_ret
  exact ⟨rfl, rfl⟩
theorem read_of (g : Nat) (v0 v1 v2 v3 v5 : Value) (n : Int) (w : World) (hb : Blk w g 60 #[v0, v1, v2, v3, .int .i64 n, v5]) : Calls Try.prog 23 #[.pointer (some ⟨g, 0, none⟩)] w (Same (.int .i64 n) w) := by
  have c4 := hb.cell 4
  simp at c4
  clear hb
  go_enter Try.func23, Try.ntmps23
  go_wp2
  go_ret
  exact ⟨rfl, rfl⟩
theorem own_less {w : World} {base base' : Nat} {e : TypeId} {size n : Nat} {v : Value} {xs : List Value} (h : w.ownsRow base e size v n xs) (hb : base' ≤ base) : w.ownsRow base' e size v n xs := by
  obtain ⟨hl, h⟩ := h
  refine ⟨hl, ?_⟩
  rcases h with h | ⟨g, cap, cur, hv, hbg, hr⟩
  · exact .inl h
  · exact .inr ⟨g, cap, cur, hv, by omega, hr⟩
/-- A new decoder. -/
structure NewDec (bs : List Int) (w0 : World) (e : Ending) (w : World) : Prop where
  ex : ∃ g v, e = .returned (.pointer (some ⟨g, 0, none⟩)) ∧ Dec w0.heap.size w g 0 4294967295 bs (nexts bs 4 (0, 0)) v ∧ w0.heap.size ≤ g
  low : Below w0.heap.size w0 w
set_option maxRecDepth 100000 in
set_option maxHeartbeats 4000000 in
theorem newDec_any (bs : List Int) (A : Option Addr) (n c : Nat) (w : World) (hn : n = bs.length) (ho : Oct bs) (hr : Rd w A (octs bs)) (hA : A = none → n = 0 ∧ c = 0) (hm : n ≤ 140737488351232) :
    Calls Try.prog 18 #[.slice A n c] w (NewDec bs w) := by
  have HN := Lib.hid hn
  have HR := Lib.hid hr
  have HO := Lib.hid ho
  have HA := Lib.hid hA
  clear hn hr ho hA
  go_enter Try.func18, Try.ntmps18
  go_wp2_with fail
  refine (begun_any _).mono ?_
  rintro e w1 ⟨rfl, hb1⟩
  go_wp2_with fail
  refine (clone_any bs A n c _ HN.out (HR.out.below hb1 rfl) HA.out hm).mono ?_
  rintro e w2 ⟨⟨A2, c2, rfl, hc2, o2⟩, hb2⟩
  have hd0 : Dec w.heap.size (w2.alloc (.cells #[.int .u32 0, .int .u32 4294967295, .bool true, .slice A2 bs.length c2, .int .i64 0, .int .u32 0] 60)) w2.heap.size 0 4294967295 bs (nexts bs 0 (0, 0)) (.slice A2 bs.length c2) :=
    ⟨Blk.new _ _ _, own_less (o2.alloc _) hb1.size, Nat.le_trans hb1.size hb2.size, HO.out, by simp [nexts], by simp [nexts], by simp [nexts]⟩
  have hbw : Below w.heap.size w (w2.alloc (.cells #[.int .u32 0, .int .u32 4294967295, .bool true, .slice A2 bs.length c2, .int .i64 0, .int .u32 0] 60)) := (ch0 hb1 hb2).alloc (ch0 hb1 hb2).size _
  have HD0 := Lib.hid hd0
  have HBW := Lib.hid hbw
  have hsz : w.heap.size ≤ w2.heap.size := (ch0 hb1 hb2).size
  have HBL : Hid (bs.length ≤ 140737488351232) := by have := HN.out; show bs.length ≤ _; omega
  clear hd0 hbw hb1 hb2 o2
  go_wp2_with fail
  go_loopw [9] (fun i wr => ∃ k : Nat, k ≤ 4 ∧ i = .int .i64 k ∧ Dec w.heap.size wr w2.heap.size 0 4294967295 bs (nexts bs k (0, 0)) (.slice A2 bs.length c2) ∧ Below w.heap.size w wr) (fun i _ => 4 - (intOf i).toNat)
  case atStart => exact ⟨0, by omega, rfl, HD0.out, HBW.out⟩
  case round =>
    obtain ⟨k, hk, rfl, hd, hb⟩ := hrel
    have HD := Lib.hid hd
    have HB := Lib.hid hb
    clear hd hb
    by_cases hk4 : k < 4
    · go_wp2_with (go_at_call 32; refine (next_any _ _ _ _ bs _ _ _ HD.out HBL.out).mono ?_; rintro e w3 ⟨rfl, hd3, hf3⟩)
      go_roundw
      case rel => exact ⟨k + 1, by omega, by go_num, hd3, HB.out.trans (hf3.to_below HB.out.size fun _ e => by omega)⟩
      case measure => simp [intOf]; omega
    · have hk5 : k = 4 := by omega
      subst hk5
      go_wp2
      go_ret
      exact ⟨⟨w2.heap.size, _, rfl, HD.out, hsz⟩, HB.out⟩
end Go.Proofs.Ytbjbpbblalcpkaa
