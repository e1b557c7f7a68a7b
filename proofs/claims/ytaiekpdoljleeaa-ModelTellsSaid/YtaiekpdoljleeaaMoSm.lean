/- Two models that are one, compared; the example's model: walks. Lists of at most 5000 parts. -/
import Derived.Test.YtaiekpdoljleeaaMoGet
import Derived.Test.YtaiekpdoljleeaaMoPut
namespace Go.Proofs.Ytaiekpdoljleeaa
open Go.RowKit Go.WideShapes
set_option linter.unusedVariables false
set_option linter.unusedSimpArgs false
/-- A model's memory. -/
structure MdR (d : Md) (A B D : Option Addr) (w : World) : Prop where
  p : Rd w A (flat_pts d.ts)
  c : Rd w B (octs d.code)
  q : Rd w D (octs d.post)
theorem MdR.below {d : Md} {A B D : Option Addr} {w w' : World} (h : MdR d A B D w) (hb : Below w.heap.size w w') : MdR d A B D w' := ⟨h.p.below hb rfl, h.c.below hb rfl, h.q.below hb rfl⟩
theorem MdR.alloc {d : Md} {A B D : Option Addr} {w : World} (h : MdR d A B D w) (o : Obj) : MdR d A B D (w.alloc o) := h.below ((Below.refl _ _).alloc (Nat.le_refl _) o)
/-- A model as a value, its memory's places and rooms. -/
def Md.val (d : Md) (A B D : Option Addr) (c cc cp : Nat) : Value := mdV d.h d.m d.ph d.pm (.slice A d.ts.length c) (.slice B d.code.length cc) (.slice D d.post.length cp)
set_option maxRecDepth 100000 in
set_option maxHeartbeats 8000000 in
theorem same41 (d : Md) (A B D A' B' D' : Option Addr) (c cc cp c' cc' cp' : Nat) (w : World) (h : MdR d A B D w) (h' : MdR d A' B' D' w) (hl : d.ts.length ≤ 5000) (hc : d.code.length ≤ 1000000000) (hp : d.post.length ≤ 1000000000) :
    Calls Try.prog 41 #[d.val A B D c cc cp, d.val A' B' D' c' cc' cp'] w (Quiet (.bool true) w) := by
  obtain ⟨a0, a1, a2, a3, ts, code, post⟩ := d
  unfold Md.val mdV
  simp only at *
  have hs16 := fun W (hb : Below w.heap.size w W) => same_any ts A A' ts.length c c' W rfl (h.p.below hb rfl) (h'.p.below hb rfl) hl
  have hs1 := fun W (hb : Below w.heap.size w W) => sameB1 code B B' code.length code.length cc cc' W rfl rfl (h.c.below hb rfl) (h'.c.below hb rfl) (by omega)
  have hs2 := fun W (hb : Below w.heap.size w W) => sameB1 post D D' post.length post.length cp cp' W rfl rfl (h.q.below hb rfl) (h'.q.below hb rfl) (by omega)
  have hx := (Blk.new w 58 #[.int .i64 a0, .int .i64 a1, .int .i64 a2, .int .i64 a3, .slice A ts.length c, .slice B code.length cc, .slice D post.length cp]).alloc (.cells #[.int .i64 a0, .int .i64 a1, .int .i64 a2, .int .i64 a3, .slice A' ts.length c', .slice B' code.length cc', .slice D' post.length cp'] 58)
  have hy := Blk.new (w.alloc (.cells #[.int .i64 a0, .int .i64 a1, .int .i64 a2, .int .i64 a3, .slice A ts.length c, .slice B code.length cc, .slice D post.length cp] 58)) 58 #[.int .i64 a0, .int .i64 a1, .int .i64 a2, .int .i64 a3, .slice A' ts.length c', .slice B' code.length cc', .slice D' post.length cp']
  rw [World.size_alloc] at hy
  have HX := Lib.hid hx
  have HY := Lib.hid hy
  have H16 := Lib.hid hs16
  have H1 := Lib.hid hs1
  have H2 := Lib.hid hs2
  clear hs16 hs1 hs2 h h' hx hy
  generalize ts.length = n at *
  generalize code.length = nc at *
  generalize post.length = np at *
  go_enter Try.func41, Try.ntmps41
  go_wp2_with fail
  refine (H16.out _ (((Below.refl _ _).alloc (Nat.le_refl _) _).alloc (by simp) _)).mono ?_
  rintro e w1 ⟨rfl, hb1⟩
  have hx1 := HX.out.below hb1
  have hy1 := HY.out.below hb1
  have u5 := hx1.cell 5
  have v5 := hy1.cell 5
  simp at u5 v5
  have HX1 := Lib.hid hx1
  have HY1 := Lib.hid hy1
  have B1 := Lib.hid ((((Below.refl w.heap.size w).alloc (Nat.le_refl _) _).alloc (by simp) _).trans (hb1.mono (by simp; omega)))
  clear hx1 hy1 hb1
  go_wp2_with fail
  refine (H1.out _ B1.out).mono ?_
  rintro e w2 ⟨rfl, hb2⟩
  have hx2 := HX1.out.below hb2
  have hy2 := HY1.out.below hb2
  have u6 := hx2.cell 6
  have v6 := hy2.cell 6
  simp at u6 v6
  have B2 := Lib.hid (ch0 B1.out hb2)
  clear hx2 hy2 hb2
  go_wp2_with fail
  refine (H2.out _ B2.out).mono ?_
  rintro e w3 ⟨rfl, hb3⟩
  have B3 := Lib.hid (ch0 B2.out hb3)
  clear hb3
  go_wp2_with fail
  go_ret
  exact ⟨rfl, B3.out⟩
/-- The example's model. -/
def plainM : Md := ⟨0, 0, 0, 0, [⟨1, 0, 0, 0, 5, 0, 0⟩], [0], []⟩
structure IsPlain (w0 : World) (e : Ending) (w : World) : Prop where
  ex : ∃ ga gb, e = .returned (plainM.val (some ⟨ga, 0, none⟩) (some ⟨gb, 0, none⟩) none 1 1 0) ∧ MdR plainM (some ⟨ga, 0, none⟩) (some ⟨gb, 0, none⟩) none w ∧ Blk w ga 32 (flat_pts plainM.ts).toArray ∧ w0.heap.size ≤ ga
  low : Below w0.heap.size w0 w
set_option maxRecDepth 100000 in
set_option maxHeartbeats 2000000 in
theorem plain55 (w : World) : Calls Try.prog 55 #[] w (IsPlain w) := by
  go_enter Try.func55, Try.ntmps55
  go_wp2_with fail
  have hA := rd_new (w.alloc (.cells #[.int .i64 0, .int .i64 0, .int .i64 0, .int .i64 0, .slice (some ⟨w.heap.size + 1, 0, none⟩) 1 1, .slice (some ⟨w.heap.size + 1 + 1, 0, none⟩) 1 1, .slice none 0 0] 58)) #[.int .u8 1, .int .i64 0, .int .i64 0, .int .i64 0, .int .i64 5, .int .i64 0, .int .i64 0] 32
  have hA2 := Blk.new (w.alloc (.cells #[.int .i64 0, .int .i64 0, .int .i64 0, .int .i64 0, .slice (some ⟨w.heap.size + 1, 0, none⟩) 1 1, .slice (some ⟨w.heap.size + 1 + 1, 0, none⟩) 1 1, .slice none 0 0] 58)) 32 #[.int .u8 1, .int .i64 0, .int .i64 0, .int .i64 0, .int .i64 5, .int .i64 0, .int .i64 0]
  have hB := rd_new ((w.alloc (.cells #[.int .i64 0, .int .i64 0, .int .i64 0, .int .i64 0, .slice (some ⟨w.heap.size + 1, 0, none⟩) 1 1, .slice (some ⟨w.heap.size + 1 + 1, 0, none⟩) 1 1, .slice none 0 0] 58)).alloc (.cells #[.int .u8 1, .int .i64 0, .int .i64 0, .int .i64 0, .int .i64 5, .int .i64 0, .int .i64 0] 32)) #[.int .u8 0] 5
  simp only [World.size_alloc] at hA hA2 hB
  exact bodyPost_ret (v := plainM.val (some ⟨w.heap.size + 1, 0, none⟩) (some ⟨w.heap.size + 1 + 1, 0, none⟩) none 1 1 0) (by simp [results, Try.results55, go_sem, Md.val, mdV, plainM]) rfl ⟨⟨_, _, rfl, ⟨hA.alloc _, hB, Rd.nil _ _⟩, hA2.alloc _, by omega⟩, (((Below.refl _ _).alloc (Nat.le_refl _) _).alloc (by simp) _).alloc (by simp; omega) _⟩
end Go.Proofs.Ytaiekpdoljleeaa
