/- put, of the reference: walks. Condition: a right machine, a place. -/
import Derived.Test.YtebmgladdgmmeaaVdGQa
namespace Go.Proofs.Ytebmgladdgmmeaa
open Go.RowKit Go.WideShapes
set_option linter.unusedVariables false
set_option linter.unusedSimpArgs false
section
variable {w : World} {g gh gm ch cm : Nat} {s : St}
set_option maxRecDepth 100000 in
set_option maxHeartbeats 4000000 in
theorem put59_0 (x : Int) (hx : U32 x) (hv : Vm w g gh gm s ch cm) : Calls Try.prog 59 #[.pointer (some ⟨g, 0, none⟩), .int .i64 0, .int .u32 x] w (DoPost g gh gm (setP 0 x s) ch cm w) := by
  have c0 := hv.box.c0
  have f0 := hv.box.fz 0
  have HV := Lib.hid hv
  clear hv
  go_enter Try.func59, Try.ntmps59
  go_wp2_with fail
  exact bodyPost_end (v := .tuple #[]) (by simp [results, Try.results59, go_sem]) rfl ⟨rfl, HV.out.reg 0 _ _ (setP_ok HV.out.ok 0 hx).m (fun _ _ => (Mc.set_reg _ _ x).1), Frm.setCell (S := Sg g gh gm) (p := ⟨g, 0, none⟩) (Frm.refl _ _) (fun _ => .inl rfl) _⟩
set_option maxRecDepth 100000 in
set_option maxHeartbeats 4000000 in
theorem put59_1 (x : Int) (hx : U32 x) (hv : Vm w g gh gm s ch cm) : Calls Try.prog 59 #[.pointer (some ⟨g, 0, none⟩), .int .i64 1, .int .u32 x] w (DoPost g gh gm (setP 1 x s) ch cm w) := by
  have c0 := hv.box.c1
  have f0 := hv.box.fz 1
  have HV := Lib.hid hv
  clear hv
  go_enter Try.func59, Try.ntmps59
  go_wp2_with fail
  exact bodyPost_end (v := .tuple #[]) (by simp [results, Try.results59, go_sem]) rfl ⟨rfl, HV.out.reg 1 _ _ (setP_ok HV.out.ok 1 hx).m (fun _ _ => (Mc.set_reg _ _ x).2.1), Frm.setCell (S := Sg g gh gm) (p := ⟨g, 1, none⟩) (Frm.refl _ _) (fun _ => .inl rfl) _⟩
set_option maxRecDepth 100000 in
set_option maxHeartbeats 4000000 in
theorem put59_2 (x : Int) (hx : U32 x) (hv : Vm w g gh gm s ch cm) : Calls Try.prog 59 #[.pointer (some ⟨g, 0, none⟩), .int .i64 2, .int .u32 x] w (DoPost g gh gm (setP 2 x s) ch cm w) := by
  have c0 := hv.box.c2
  have f0 := hv.box.fz 2
  have HV := Lib.hid hv
  clear hv
  go_enter Try.func59, Try.ntmps59
  go_wp2_with fail
  exact bodyPost_end (v := .tuple #[]) (by simp [results, Try.results59, go_sem]) rfl ⟨rfl, HV.out.reg 2 _ _ (setP_ok HV.out.ok 2 hx).m (fun _ _ => (Mc.set_reg _ _ x).2.2.1), Frm.setCell (S := Sg g gh gm) (p := ⟨g, 2, none⟩) (Frm.refl _ _) (fun _ => .inl rfl) _⟩
set_option maxRecDepth 100000 in
set_option maxHeartbeats 4000000 in
theorem put59_3 (x : Int) (hx : U32 x) (hv : Vm w g gh gm s ch cm) : Calls Try.prog 59 #[.pointer (some ⟨g, 0, none⟩), .int .i64 3, .int .u32 x] w (DoPost g gh gm (setP 3 x s) ch cm w) := by
  have c0 := hv.box.c3
  have f0 := hv.box.fz 3
  have HV := Lib.hid hv
  clear hv
  go_enter Try.func59, Try.ntmps59
  go_wp2_with fail
  exact bodyPost_end (v := .tuple #[]) (by simp [results, Try.results59, go_sem]) rfl ⟨rfl, HV.out.reg 3 _ _ (setP_ok HV.out.ok 3 hx).m (fun _ _ => (Mc.set_reg _ _ x).2.2.2.1), Frm.setCell (S := Sg g gh gm) (p := ⟨g, 3, none⟩) (Frm.refl _ _) (fun _ => .inl rfl) _⟩
set_option maxRecDepth 100000 in
set_option maxHeartbeats 4000000 in
theorem put59_4 (x : Int) (hx : U32 x) (hv : Vm w g gh gm s ch cm) : Calls Try.prog 59 #[.pointer (some ⟨g, 0, none⟩), .int .i64 4, .int .u32 x] w (DoPost g gh gm (setP 4 x s) ch cm w) := by
  have hpos := pow_pos hv.ok.p12
  have hlt := idx_lt s.m.b hpos
  have hle : s.ms.length ≤ 4096 := pow_le hv.ok.p12
  have c0 := hv.mcell s.m.b
  have f0 := hv.mrow.fz (idx s.m.b s.ms.length)
  have cr := hv.box.c1
  have cf := hv.box.cm
  have hio := index80 s.m.b s.ms.length hv.ok.m.b hpos
  have HV := Lib.hid hv
  have hgl := hv.box.lt
  have hne : ¬ (gm = g) := hv.gm_ne
  have hki : ((idx s.m.b s.ms.length : Nat) : Int) < (s.ms.length : Int) := by omega
  obtain ⟨n, hn⟩ : ∃ n, s.ms.length = n := ⟨_, rfl⟩
  have HN := Lib.hid hn
  simp only [hn] at hlt hle c0 f0 cf hio hpos hki
  obtain ⟨r, hr⟩ : ∃ r, s.m.b = r := ⟨_, rfl⟩
  have HR := Lib.hid hr
  simp only [hr] at hlt c0 f0 cr hio hki
  obtain ⟨k, hk⟩ : ∃ k, idx r n = k := ⟨_, rfl⟩
  have HKK := Lib.hid hk
  simp only [hk] at hlt c0 f0 hio hki
  have hk0 : (0 : Int) ≤ (k : Int) := by omega
  have wx : IntKind.u8.wrap x = x % 256 := by rw [IntKind.wrap_u8]
  have HIO := Lib.hid hio
  clear hv hio hn hr hk
  go_enter Try.func59, Try.ntmps59
  go_wp2_with fail
  go_region_with (go_at_call 80; (with_reducible refine (HIO.out _).mono ?_); rintro e w1 ⟨rfl, rfl⟩)
  all_goals
    go_wp2_with fail
    have hfin := HV.out.setM k (x % 256) (by omega)
    have he : setP 4 x s = { s with ms := s.ms.set k (x % 256) } := by rw [← HKK.out, ← HN.out, ← HR.out]; rfl
    rw [← he] at hfin
    exact bodyPost_end (v := .tuple #[]) (by simp [results, Try.results59, go_sem]) rfl ⟨rfl, hfin.drew, (Frm.setCell (S := Sg g gh gm) (p := ⟨gm, k, none⟩) (Frm.refl _ _) (fun _ => .inr (.inr rfl)) _).drew⟩
set_option maxRecDepth 100000 in
set_option maxHeartbeats 4000000 in
theorem put59_5 (x : Int) (hx : U32 x) (hv : Vm w g gh gm s ch cm) : Calls Try.prog 59 #[.pointer (some ⟨g, 0, none⟩), .int .i64 5, .int .u32 x] w (DoPost g gh gm (setP 5 x s) ch cm w) := by
  have hpos := pow_pos hv.ok.p12
  have hlt := idx_lt s.m.c hpos
  have hle : s.ms.length ≤ 4096 := pow_le hv.ok.p12
  have c0 := hv.mcell s.m.c
  have f0 := hv.mrow.fz (idx s.m.c s.ms.length)
  have cr := hv.box.c2
  have cf := hv.box.cm
  have hio := index80 s.m.c s.ms.length hv.ok.m.c hpos
  have HV := Lib.hid hv
  have hgl := hv.box.lt
  have hne : ¬ (gm = g) := hv.gm_ne
  have hki : ((idx s.m.c s.ms.length : Nat) : Int) < (s.ms.length : Int) := by omega
  obtain ⟨n, hn⟩ : ∃ n, s.ms.length = n := ⟨_, rfl⟩
  have HN := Lib.hid hn
  simp only [hn] at hlt hle c0 f0 cf hio hpos hki
  obtain ⟨r, hr⟩ : ∃ r, s.m.c = r := ⟨_, rfl⟩
  have HR := Lib.hid hr
  simp only [hr] at hlt c0 f0 cr hio hki
  obtain ⟨k, hk⟩ : ∃ k, idx r n = k := ⟨_, rfl⟩
  have HKK := Lib.hid hk
  simp only [hk] at hlt c0 f0 hio hki
  have hk0 : (0 : Int) ≤ (k : Int) := by omega
  have wx : IntKind.u8.wrap x = x % 256 := by rw [IntKind.wrap_u8]
  have HIO := Lib.hid hio
  clear hv hio hn hr hk
  go_enter Try.func59, Try.ntmps59
  go_wp2_with fail
  go_region_with (go_at_call 80; (with_reducible refine (HIO.out _).mono ?_); rintro e w1 ⟨rfl, rfl⟩)
  all_goals
    go_wp2_with fail
    have hfin := HV.out.setM k (x % 256) (by omega)
    have he : setP 5 x s = { s with ms := s.ms.set k (x % 256) } := by rw [← HKK.out, ← HN.out, ← HR.out]; rfl
    rw [← he] at hfin
    exact bodyPost_end (v := .tuple #[]) (by simp [results, Try.results59, go_sem]) rfl ⟨rfl, hfin.drew, (Frm.setCell (S := Sg g gh gm) (p := ⟨gm, k, none⟩) (Frm.refl _ _) (fun _ => .inr (.inr rfl)) _).drew⟩
set_option maxRecDepth 100000 in
set_option maxHeartbeats 4000000 in
theorem put59_6 (x : Int) (hx : U32 x) (hv : Vm w g gh gm s ch cm) : Calls Try.prog 59 #[.pointer (some ⟨g, 0, none⟩), .int .i64 6, .int .u32 x] w (DoPost g gh gm (setP 6 x s) ch cm w) := by
  have hpos := pow_pos hv.ok.p8
  have hlt := idx_lt s.m.d hpos
  have hle : s.hs.length ≤ 4096 := pow_le (pow_up hv.ok.p8)
  have c0 := hv.hcell s.m.d
  have f0 := hv.hrow.fz (idx s.m.d s.hs.length)
  have cr := hv.box.c3
  have cf := hv.box.ch
  have hio := index80 s.m.d s.hs.length hv.ok.m.d hpos
  have HV := Lib.hid hv
  have hgl := hv.box.lt
  have hne : ¬ (gh = g) := hv.gh_ne
  have hki : ((idx s.m.d s.hs.length : Nat) : Int) < (s.hs.length : Int) := by omega
  obtain ⟨n, hn⟩ : ∃ n, s.hs.length = n := ⟨_, rfl⟩
  have HN := Lib.hid hn
  simp only [hn] at hlt hle c0 f0 cf hio hpos hki
  obtain ⟨r, hr⟩ : ∃ r, s.m.d = r := ⟨_, rfl⟩
  have HR := Lib.hid hr
  simp only [hr] at hlt c0 f0 cr hio hki
  obtain ⟨k, hk⟩ : ∃ k, idx r n = k := ⟨_, rfl⟩
  have HKK := Lib.hid hk
  simp only [hk] at hlt c0 f0 hio hki
  have hk0 : (0 : Int) ≤ (k : Int) := by omega

  have HIO := Lib.hid hio
  clear hv hio hn hr hk
  go_enter Try.func59, Try.ntmps59
  go_wp2_with fail
  go_region_with (go_at_call 80; (with_reducible refine (HIO.out _).mono ?_); rintro e w1 ⟨rfl, rfl⟩)
  all_goals
    go_wp2_with fail
    have hfin := HV.out.setH k x hx
    have he : setP 6 x s = { s with hs := s.hs.set k x } := by rw [← HKK.out, ← HN.out, ← HR.out]; rfl
    rw [← he] at hfin
    exact bodyPost_end (v := .tuple #[]) (by simp [results, Try.results59, go_sem]) rfl ⟨rfl, hfin.drew, (Frm.setCell (S := Sg g gh gm) (p := ⟨gh, k, none⟩) (Frm.refl _ _) (fun _ => .inr (.inl rfl)) _).drew⟩
theorem put59 (p x : Int) (hp : 0 ≤ p ∧ p ≤ 6) (hx : U32 x) (hv : Vm w g gh gm s ch cm) : Calls Try.prog 59 #[.pointer (some ⟨g, 0, none⟩), .int .i64 p, .int .u32 x] w (DoPost g gh gm (setP p x s) ch cm w) := by
  rcases (show p = 0 ∨ p = 1 ∨ p = 2 ∨ p = 3 ∨ p = 4 ∨ p = 5 ∨ p = 6 from by omega) with rfl | rfl | rfl | rfl | rfl | rfl | rfl
  · exact put59_0 x hx hv
  · exact put59_1 x hx hv
  · exact put59_2 x hx hv
  · exact put59_3 x hx hv
  · exact put59_4 x hx hv
  · exact put59_5 x hx hv
  · exact put59_6 x hx hv
end
end Go.Proofs.Ytebmgladdgmmeaa
