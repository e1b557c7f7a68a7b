/- The chapter's examples of instructions' bytes: the walk. No condition. -/
import Derived.Test.YtaiekpdoljleeaaCoKit
import Derived.Test.YtaiekpdoljleeaaCoGet
namespace Go.Proofs.Ytaiekpdoljleeaa
open Go.RowKit Go.WideShapes
set_option linter.unusedVariables false
theorem rd_new (w : World) (us : Array Value) (e : TypeId) : Rd (w.alloc (.cells us e)) (some ⟨w.heap.size, 0, none⟩) us.toList := fun _ => by
  refine ⟨_, 0, rfl, by simp, fun i y hy => ?_⟩
  rw [Nat.zero_add, cell_of_row _ _ _ _ _ _ (heap_alloc_new _ _)]
  simpa using hy
theorem oct_lit (l : List Int) (h : l.all (fun x => decide (0 ≤ x) && decide (x ≤ 255)) = true) : Oct l := fun x hx => by
  have := (List.all_eq_true.1 h) x hx
  simp only [Bool.and_eq_true, decide_eq_true_eq] at this
  exact this
def insA : In := ⟨1, 1, 0, 0⟩
def insB : In := ⟨8, 0, 7, 5⟩
def insC : In := ⟨29, 0, 0, 0⟩
theorem getLit (bs : List Int) (w : World) (us : Array Value) (n g0 : Nat) (h : us.toList = octs bs) (hn : n = bs.length) (ho : Oct bs) (hl : n ≤ 1000) (hg : g0 = w.heap.size) :
    Calls Try.prog 21 #[.slice (some ⟨g0, 0, none⟩) n n, .int .i64 0] (w.alloc (.cells us 5)) (IsGot (getI bs 0) (w.alloc (.cells us 5))) :=
  get_any bs _ n n 0 _ hn ho (by rw [← h, hg]; exact rd_new w us 5) (by omega)
theorem sameLit (bs : List Int) (A : Option Addr) (c m : Nat) (w : World) (us : Array Value) (n g0 : Nat) (h : us.toList = octs bs) (hn : n = bs.length) (hm : m = bs.length) (hA : Rd w A (octs bs)) (hl : n ≤ 1000) (hg : g0 = w.heap.size) :
    Calls Try.prog 24 #[.slice A m c, .slice (some ⟨g0, 0, none⟩) n n] (w.alloc (.cells us 5)) (Quiet (.bool true) (w.alloc (.cells us 5))) :=
  sameB1 bs A _ m n c n _ hm hn (hA.alloc _) (by rw [← h, hg]; exact rd_new w us 5) (by omega)
set_option maxRecDepth 100000 in
set_option maxHeartbeats 4000000 in
theorem awakeC_any (w : World) : Calls Try.prog 25 #[] w (Quiet (.bool true) w) := by
  go_enter Try.func25, Try.ntmps25
  go_wp2_with fail
  refine (put_yes insA 0 w (by decide) (by decide +kernel) (by decide +kernel) (by omega) (by omega)).mono ?_
  rw [show putI insA 0 = [9, 0] by decide +kernel]
  rintro e w1 ⟨⟨A1, c1, rfl, hc1, o1⟩, hb1⟩
  have R1 := Lib.hid (Rd.of_own o1)
  have B1 := Lib.hid hb1
  clear o1 hb1
  go_wp2_with fail
  refine (put_yes insB 0 w1 (by decide) (by decide +kernel) (by decide +kernel) (by omega) (by omega)).mono ?_
  rw [show putI insB 0 = [71, 5] by decide +kernel]
  rintro e w2 ⟨⟨A2, c2, rfl, hc2, o2⟩, hb2⟩
  have R2 := Lib.hid (Rd.of_own o2)
  have R1b := Lib.hid (R1.out.below hb2 rfl)
  have B2 := Lib.hid (ch0 B1.out hb2)
  clear o2 hb2
  go_wp2_with fail
  refine (put_yes insC 4 w2 (by decide) (by decide +kernel) (by decide +kernel) (by omega) (by omega)).mono ?_
  rw [show putI insC 4 = [232, 250] by decide +kernel]
  rintro e w3 ⟨⟨A3, c3, rfl, hc3, o3⟩, hb3⟩
  have R3 := Lib.hid (Rd.of_own o3)
  have R1c := Lib.hid (R1b.out.below hb3 rfl)
  have R2c := Lib.hid (R2.out.below hb3 rfl)
  have B3 := Lib.hid (ch0 B2.out hb3)
  clear o3 hb3
  go_wp2_with fail
  refine (getLit [232, 250] w3 #[.int .u8 232, .int .u8 250] 2 _ rfl rfl (oct_lit _ (by decide)) (by omega) (by simp)).mono ?_
  rw [show getI [232, 250] 0 = (zI, 0, 110) by kernel_rfl]
  rintro e w4 ⟨rfl, hb4⟩
  have R1d := Lib.hid ((R1c.out.alloc _).below hb4 rfl)
  have R2d := Lib.hid ((R2c.out.alloc _).below hb4 rfl)
  have R3d := Lib.hid ((R3.out.alloc _).below hb4 rfl)
  have B4 := Lib.hid (ch1 B3.out hb4)
  clear hb4
  unfold zI In.agg
  simp only
  go_wp2_with fail
  refine (getLit [9] (w4.alloc (.cells #[.int .u8 0, .int .i64 0, .int .i64 0, .int .i64 0] 36)) #[.int .u8 9] 1 _ rfl rfl (oct_lit _ (by decide)) (by omega) (by simp)).mono ?_
  rw [show getI [9] 0 = (zI, 0, 12) by kernel_rfl]
  rintro e w5 ⟨rfl, hb5⟩
  have R1e := Lib.hid (((R1d.out.alloc _).alloc _).below hb5 rfl)
  have R2e := Lib.hid (((R2d.out.alloc _).alloc _).below hb5 rfl)
  have R3e := Lib.hid (((R3d.out.alloc _).alloc _).below hb5 rfl)
  have B5 := Lib.hid (ch2 B4.out hb5)
  clear hb5
  unfold zI In.agg
  simp only
  go_wp2_with fail
  refine (sameLit [9, 0] A1 c1 2 (w5.alloc (.cells #[.int .u8 0, .int .i64 0, .int .i64 0, .int .i64 0] 36)) #[.int .u8 9, .int .u8 0] 2 _ rfl rfl rfl (R1e.out.alloc _) (by omega) (by simp)).mono ?_
  rintro e w6 ⟨rfl, hb6⟩
  have R2f := Lib.hid (((R2e.out.alloc _).alloc _).below hb6 rfl)
  have R3f := Lib.hid (((R3e.out.alloc _).alloc _).below hb6 rfl)
  have B6 := Lib.hid (ch2 B5.out hb6)
  clear hb6
  go_wp2_with fail
  refine (sameLit [71, 5] A2 c2 2 w6 #[.int .u8 71, .int .u8 5] 2 _ rfl rfl rfl R2f.out (by omega) (by simp)).mono ?_
  rintro e w7 ⟨rfl, hb7⟩
  have R3g := Lib.hid ((R3f.out.alloc _).below hb7 rfl)
  have B7 := Lib.hid (ch1 B6.out hb7)
  clear hb7
  go_wp2_with fail
  refine (sameLit [232, 250] A3 c3 2 w7 #[.int .u8 232, .int .u8 250] 2 _ rfl rfl rfl R3g.out (by omega) (by simp)).mono ?_
  rintro e w8 ⟨rfl, hb8⟩
  have B8 := Lib.hid (ch1 B7.out hb8)
  clear hb8
  go_wp2_with fail
  refine (rightI_any ⟨0, 1, 0, 0⟩ w8 (by decide)).mono ?_
  rw [show codeI ⟨0, 1, 0, 0⟩ = 110 by decide +kernel]
  rintro e w9 ⟨rfl, hb9⟩
  go_wp2_with fail
  go_ret
  exact ⟨rfl, ch0 B8.out hb9⟩
end Go.Proofs.Ytaiekpdoljleeaa
