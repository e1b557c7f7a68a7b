/- The reference coder's Take: walks. -/
import Derived.Test.YtbjbpbblalcpkaaDear
namespace Go.Proofs.Ytbjbpbblalcpkaa
open Go.RowKit Go.WideShapes
set_option linter.unusedVariables false
def set2 (cs : Array Value) (X Y : Int) : Array Value := (cs.setIfInBounds 0 (.int .u64 X)).setIfInBounds 1 (.int .u64 Y)
theorem set2_0 {cs : Array Value} {X Y : Int} (h : 2 ≤ cs.size) : (set2 cs X Y)[0]? = some (.int .u64 X) := by
  unfold set2; rw [Array.getElem?_setIfInBounds_ne (by decide), Array.getElem?_setIfInBounds_self_of_lt (by omega)]
theorem set2_1 {cs : Array Value} {X Y : Int} (h : 2 ≤ cs.size) : (set2 cs X Y)[1]? = some (.int .u64 Y) := by
  unfold set2; rw [Array.getElem?_setIfInBounds_self_of_lt (by simp; omega)]
theorem set2_set {cs : Array Value} {X Y a b : Int} : ((set2 cs X Y).setIfInBounds 0 (.int .u64 a)).setIfInBounds 1 (.int .u64 b) = set2 cs a b := by
  obtain ⟨l⟩ := cs
  unfold set2
  rcases l with _ | ⟨u, _ | ⟨u1, l⟩⟩ <;> simp
theorem set2_y {cs : Array Value} {x m : Int} (h0 : cs[0]? = some (.int .u64 x)) : cs.setIfInBounds 1 (.int .u64 m) = set2 cs x m := by
  obtain ⟨l⟩ := cs
  unfold set2
  rcases l with _ | ⟨u, _ | ⟨u1, l⟩⟩ <;> simp_all
theorem set2_x {cs : Array Value} {y m : Int} (h1 : cs[1]? = some (.int .u64 y)) : cs.setIfInBounds 0 (.int .u64 m) = set2 cs m y := by
  obtain ⟨l⟩ := cs
  unfold set2
  rcases l with _ | ⟨u, _ | ⟨u1, l⟩⟩ <;> simp_all
theorem frm_low {S : Nat → Prop} {a w w2 : World} {n : Nat} (h : Frm S a w) (hb : Below a.heap.size (w.drewN n) w2) : Frm S a w2 := ⟨hb.os.trans h.os, hb.tape.trans h.tape, hb.output.trans h.output, Nat.le_trans h.size hb.size, fun k hk hn => (hb.block k hk).trans (h.block k hk hn)⟩
structure TakeRelR (g : Nat) (t : TypeId) (cs : Array Value) (X0 Y0 : Int) (w0 : World) (k : Nat) (v : Value) (w : World) : Prop where
  ex : ∃ x y so, need x y = k ∧ Ivl x y ∧ norm X0 Y0 = (so ++ (norm x y).1, (norm x y).2) ∧ so.length + k ≤ 4 ∧ Blk w g t (set2 cs x y) ∧ w.ownsRow w0.heap.size 5 1 v so.length (octs so)
  frm : Frm (fun k => k = g) w0 w
structure TakeR (g : Nat) (t : TypeId) (cs : Array Value) (b X0 Y0 : Int) (w0 : World) (e : Ending) (w : World) : Prop where
  ex : ∃ v, e = .returned (.tuple #[.int .i64 b, v]) ∧ w.ownsRow w0.heap.size 5 1 v (norm X0 Y0).1.length (octs (norm X0 Y0).1)
  blk : Blk w g t (set2 cs (norm X0 Y0).2.1 (norm X0 Y0).2.2)
  frm : Frm (fun k => k = g) w0 w
theorem takeR_of {g : Nat} {t : TypeId} {cs : Array Value} {b X0 Y0 X Y : Int} {so : List Int} {v : Value} {w0 wr : World} (hn : norm X0 Y0 = (so ++ (norm X Y).1, (norm X Y).2)) (hq : X / 16777216 ≠ Y / 16777216) (hb : Blk wr g t (set2 cs X Y))
    (ho : wr.ownsRow w0.heap.size 5 1 v so.length (octs so)) (hf : Frm (fun k => k = g) w0 wr) (n : Nat) : TakeR g t cs b X0 Y0 w0 (.returned (.tuple #[.int .i64 b, v])) (wr.drewN n) := by
  rw [norm_done hq] at hn
  simp only [List.append_nil] at hn
  refine ⟨⟨v, rfl, ?_⟩, ?_, hf.drewN n⟩
  · rw [hn]; exact ho
  · rw [hn]; exact hb.drewN n
theorem takeR_step {g : Nat} {t : TypeId} {cs : Array Value} {X0 Y0 X Y : Int} {so : List Int} {v2 : Value} {w0 w2 : World} {n : Nat} (hiv : Ivl X Y) (hn : norm X0 Y0 = (so ++ (norm X Y).1, (norm X Y).2)) (hsl : so.length + need X Y ≤ 4) (hq : X / 16777216 = Y / 16777216)
    (hb : Blk w2 g t (set2 cs X Y)) (ho : w2.ownsRow w0.heap.size 5 1 v2 n (octs so ++ [.int .u8 (X / 16777216)])) (ht : 5 ≠ t) (hf : Frm (fun k => k = g) w0 w2) :
    TakeRelR g t cs X0 Y0 w0 (need (nx X) (ny Y)) v2 ((w2.setCell ⟨g, 0, none⟩ (.int .u64 (nx X))).setCell ⟨g, 1, none⟩ (.int .u64 (ny Y))) := by
  obtain ⟨h1, h2⟩ := need_succ hiv hq
  rw [octs_snoc] at ho
  have hn' : n = (so ++ [X / 16777216]).length := by have := ho.1; rw [octs_length] at this; omega
  subst hn'
  have h3 : Frm (fun k => k = g) w2 ((w2.setCell ⟨g, 0, none⟩ (.int .u64 (nx X))).setCell ⟨g, 1, none⟩ (.int .u64 (ny Y))) :=
    ((Frm.refl (fun k => k = g) w2).setCell (p := ⟨g, 0, none⟩) (fun _ => rfl) _).setCell (p := ⟨g, 1, none⟩) (fun _ => rfl) _
  refine ⟨⟨nx X, ny Y, so ++ [X / 16777216], rfl, h2, ?_, ?_, ?_, ?_⟩, hf.trans h3 fun _ _ h => h⟩
  · rw [hn, norm_more hiv hq, List.append_assoc]; rfl
  · rw [List.length_append, List.length_singleton]; omega
  · have := (hb.set 0 (.int .u64 (nx X))).set 1 (.int .u64 (ny Y)); rwa [set2_set] at this
  · exact h3.own ho fun k hk e => hb.apart ho ht k hk e
set_option maxRecDepth 100000 in
set_option maxHeartbeats 4000000 in
theorem takeR_one (g : Nat) (t : TypeId) (cs : Array Value) (x y p z : Int) (w : World) (hb : Blk w g t cs) (h0 : cs[0]? = some (.int .u64 x)) (h1 : cs[1]? = some (.int .u64 y)) (hn : Nrm x y) (p0 : 1 ≤ p) (p1 : p ≤ 65535) (z0 : 0 ≤ z) (z1 : z ≤ 4294967295) (ht : 5 ≠ t) :
    Calls Try.prog 30 #[.pointer (some ⟨g, 0, none⟩), .int .i64 1, .int .i64 p, .int .u64 z] w (TakeR g t cs 1 x (mid x y p) w) := by
  have c0 := (hb.cell 0).trans h0
  have c1 := (hb.cell 1).trans h1
  have f0 := hb.frozen 0
  have f1 := hb.frozen 1
  have x0 := hn.x0
  have y1 := hn.y1
  have hxy : x < y := by have := hn.df; have := hn.xy; omega
  have hi : Ivl x (mid x y p) := by have := cut_ivl (b := 1) hn p0 p1; simpa [cutX, cutY] using this
  have hmi := mid_in hn.x0 hxy p0 p1
  have hm0 : 0 ≤ mid x y p := by omega
  have hm1 : mid x y p + 1 ≤ 4294967295 := by omega
  have g1 : 0 ≤ y - x := by omega
  have g2 : y - x ≤ 4294967295 := by omega
  have hq1 : 0 ≤ (y - x) / 65536 * p := Int.mul_nonneg (by omega) (by omega)
  have hq2 : (y - x) / 65536 * p ≤ (y - x) / 65536 * 65535 := Int.mul_le_mul_of_nonneg_left p1 (by omega)
  have hq3 : 0 ≤ (y - x) % 65536 * p := Int.mul_nonneg (by omega) (by omega)
  have hq4 : (y - x) % 65536 * p ≤ (y - x) % 65536 * 65535 := Int.mul_le_mul_of_nonneg_left p1 (by omega)
  obtain ⟨m, hm⟩ : ∃ m, mid x y p = m := ⟨_, rfl⟩
  have hme : x + (y - x) / 65536 * p + (y - x) % 65536 * p / 65536 = m := hm
  have hsz : 2 ≤ cs.size := by
    rcases Nat.lt_or_ge 1 cs.size with h | h
    · exact h
    · rw [Array.getElem?_eq_none h] at h1; cases h1
  have HB := Lib.hid hb
  have H0 := Lib.hid h0
  have H1 := Lib.hid h1
  have HN := Lib.hid hn
  have HME := Lib.hid hme
  have hgl := hb.lt
  rw [hm] at hi hm0 hm1 ⊢
  have HI := Lib.hid hi
  clear hb h0 h1 hn hi hm hme hmi
  go_enter Try.func30, Try.ntmps30
  go_wp2_with fail
  go_quiet (fail)
  rw [HME.out]
  go_wp2_with fail
  have hb1 : Blk ((w.drewN nq).setCell ⟨g, 1, none⟩ (.int .u64 m)) g t (set2 cs x m) := by
    have h0 := H0.out
    have h1 := H1.out
    rw [← set2_y h0]; exact (HB.out.drewN nq).set 1 _
  have hf1 : Frm (fun k => k = g) w ((w.drewN nq).setCell ⟨g, 1, none⟩ (.int .u64 m)) := ((Frm.refl (fun k => k = g) w).drewN nq).setCell (p := ⟨g, 1, none⟩) (fun _ => rfl) _
  have HB1 := Lib.hid hb1
  have HF1 := Lib.hid hf1
  clear hb1 hf1 c0 c1 f0 f1 hq1 hq2 hq3 hq4
  go_loopg [11] (need x m) (fun k v wr => TakeRelR g t cs x m w k v wr)
  case atStart => exact ⟨⟨x, m, [], rfl, HI.out, by simp, by have := need_le x m; simp; omega, HB1.out, ⟨rfl, .inl ⟨rfl, rfl⟩⟩⟩, HF1.out⟩
  case round =>
    obtain ⟨⟨X, Y, so, hk, hi, hn, hsl, hb, ho⟩, hf⟩ := hrel
    have c0 := (hb.cell 0).trans (set2_0 hsz)
    have c1 := (hb.cell 1).trans (set2_1 hsz)
    have f0 := hb.frozen 0
    have f1 := hb.frozen 1
    have i0 := hi.x0
    have i1 := hi.y1
    have i2 := hi.xy
    have HK := Lib.hid hk
    have HIV := Lib.hid hi
    have HNR := Lib.hid hn
    have HBR := Lib.hid hb
    have HO := Lib.hid ho
    have HFR := Lib.hid hf
    clear hk hi hn hb ho hf
    by_cases hq : X / 16777216 = Y / 16777216
    · have gq : (X / 16777216 == Y / 16777216) = true := beq_iff_eq.2 hq
      have HQ := Lib.hid hq
      clear hq
      go_wp2_with fail
      go_quiet (fail)
      go_wp2_with (at_builtin; (refine wpList_app1 (P := Try.prog) (t := 30) (e := 5) (z := .int .u8 0) (bytes := 1) (w := wr.drewN nq) tBytes ?_ (.tmp 72) (.tmp 79) ?_ w.heap.size u11 so.length (octs so) ?_ HO.out (.int .u8 (X / 16777216)) rfl (wr.drewN nq).heap.size ?_ rfl (by omega) (by unfold maxLen; omega) HFR.out.size ?_; rfl; rfl; rfl; rfl; intro v2 w2 o2 _ hb2; have B2 := Lib.hid ((hb2.block g hgl).trans (HBR.out.drewN nq)); have c0 := (Blk.cell B2.out 0).trans (set2_0 hsz); have c1 := (Blk.cell B2.out 1).trans (set2_1 hsz); have f0 := Blk.frozen B2.out 0; have f1 := Blk.frozen B2.out 1; have O2 := Lib.hid o2; have BB2 := Lib.hid hb2; clear o2 hb2))
      go_roundg (need (nx X) (ny Y))
      case measure =>
        have := (need_succ HIV.out HQ.out).1
        have := HK.out
        omega
      case rel => exact takeR_step HIV.out HNR.out (by rw [HK.out]; exact hsl) HQ.out B2.out O2.out ht (frm_low HFR.out BB2.out)
    · have gq : (X / 16777216 == Y / 16777216) = false := beq_eq_false_iff_ne.2 hq
      have HQ := Lib.hid hq
      clear hq
      go_wp2_with fail
      go_quiet (fail)
      go_wp2_with fail
      go_ret2
      exact takeR_of HNR.out HQ.out HBR.out HO.out HFR.out nq
set_option maxRecDepth 100000 in
set_option maxHeartbeats 4000000 in
theorem takeR_zero (g : Nat) (t : TypeId) (cs : Array Value) (x y p z : Int) (w : World) (hb : Blk w g t cs) (h0 : cs[0]? = some (.int .u64 x)) (h1 : cs[1]? = some (.int .u64 y)) (hn : Nrm x y) (p0 : 1 ≤ p) (p1 : p ≤ 65535) (z0 : 0 ≤ z) (z1 : z ≤ 4294967295) (ht : 5 ≠ t) :
    Calls Try.prog 30 #[.pointer (some ⟨g, 0, none⟩), .int .i64 0, .int .i64 p, .int .u64 z] w (TakeR g t cs 0 (mid x y p + 1) y w) := by
  have c0 := (hb.cell 0).trans h0
  have c1 := (hb.cell 1).trans h1
  have f0 := hb.frozen 0
  have f1 := hb.frozen 1
  have x0 := hn.x0
  have y1 := hn.y1
  have hxy : x < y := by have := hn.df; have := hn.xy; omega
  have hi : Ivl (mid x y p + 1) y := by have := cut_ivl (b := 0) hn p0 p1; simpa [cutX, cutY] using this
  have hmi := mid_in hn.x0 hxy p0 p1
  have hm0 : 0 ≤ mid x y p := by omega
  have hm1 : mid x y p + 1 ≤ 4294967295 := by omega
  have g1 : 0 ≤ y - x := by omega
  have g2 : y - x ≤ 4294967295 := by omega
  have hq1 : 0 ≤ (y - x) / 65536 * p := Int.mul_nonneg (by omega) (by omega)
  have hq2 : (y - x) / 65536 * p ≤ (y - x) / 65536 * 65535 := Int.mul_le_mul_of_nonneg_left p1 (by omega)
  have hq3 : 0 ≤ (y - x) % 65536 * p := Int.mul_nonneg (by omega) (by omega)
  have hq4 : (y - x) % 65536 * p ≤ (y - x) % 65536 * 65535 := Int.mul_le_mul_of_nonneg_left p1 (by omega)
  obtain ⟨m, hm⟩ : ∃ m, mid x y p = m := ⟨_, rfl⟩
  have hme : x + (y - x) / 65536 * p + (y - x) % 65536 * p / 65536 = m := hm
  have hsz : 2 ≤ cs.size := by
    rcases Nat.lt_or_ge 1 cs.size with h | h
    · exact h
    · rw [Array.getElem?_eq_none h] at h1; cases h1
  have HB := Lib.hid hb
  have H0 := Lib.hid h0
  have H1 := Lib.hid h1
  have HN := Lib.hid hn
  have HME := Lib.hid hme
  have hgl := hb.lt
  rw [hm] at hi hm0 hm1 ⊢
  have HI := Lib.hid hi
  clear hb h0 h1 hn hi hm hme hmi
  go_enter Try.func30, Try.ntmps30
  go_wp2_with fail
  go_quiet (fail)
  rw [HME.out]
  go_wp2_with fail
  have hb1 : Blk ((w.drewN nq).setCell ⟨g, 0, none⟩ (.int .u64 (m + 1))) g t (set2 cs (m + 1) y) := by
    have h0 := H0.out
    have h1 := H1.out
    rw [← set2_x h1]; exact (HB.out.drewN nq).set 0 _
  have hf1 : Frm (fun k => k = g) w ((w.drewN nq).setCell ⟨g, 0, none⟩ (.int .u64 (m + 1))) := ((Frm.refl (fun k => k = g) w).drewN nq).setCell (p := ⟨g, 0, none⟩) (fun _ => rfl) _
  have HB1 := Lib.hid hb1
  have HF1 := Lib.hid hf1
  clear hb1 hf1 c0 c1 f0 f1 hq1 hq2 hq3 hq4
  go_loopg [11] (need (m + 1) y) (fun k v wr => TakeRelR g t cs (m + 1) y w k v wr)
  case atStart => exact ⟨⟨(m + 1), y, [], rfl, HI.out, by simp, by have := need_le (m + 1) y; simp; omega, HB1.out, ⟨rfl, .inl ⟨rfl, rfl⟩⟩⟩, HF1.out⟩
  case round =>
    obtain ⟨⟨X, Y, so, hk, hi, hn, hsl, hb, ho⟩, hf⟩ := hrel
    have c0 := (hb.cell 0).trans (set2_0 hsz)
    have c1 := (hb.cell 1).trans (set2_1 hsz)
    have f0 := hb.frozen 0
    have f1 := hb.frozen 1
    have i0 := hi.x0
    have i1 := hi.y1
    have i2 := hi.xy
    have HK := Lib.hid hk
    have HIV := Lib.hid hi
    have HNR := Lib.hid hn
    have HBR := Lib.hid hb
    have HO := Lib.hid ho
    have HFR := Lib.hid hf
    clear hk hi hn hb ho hf
    by_cases hq : X / 16777216 = Y / 16777216
    · have gq : (X / 16777216 == Y / 16777216) = true := beq_iff_eq.2 hq
      have HQ := Lib.hid hq
      clear hq
      go_wp2_with fail
      go_quiet (fail)
      go_wp2_with (at_builtin; (refine wpList_app1 (P := Try.prog) (t := 30) (e := 5) (z := .int .u8 0) (bytes := 1) (w := wr.drewN nq) tBytes ?_ (.tmp 72) (.tmp 79) ?_ w.heap.size u11 so.length (octs so) ?_ HO.out (.int .u8 (X / 16777216)) rfl (wr.drewN nq).heap.size ?_ rfl (by omega) (by unfold maxLen; omega) HFR.out.size ?_; rfl; rfl; rfl; rfl; intro v2 w2 o2 _ hb2; have B2 := Lib.hid ((hb2.block g hgl).trans (HBR.out.drewN nq)); have c0 := (Blk.cell B2.out 0).trans (set2_0 hsz); have c1 := (Blk.cell B2.out 1).trans (set2_1 hsz); have f0 := Blk.frozen B2.out 0; have f1 := Blk.frozen B2.out 1; have O2 := Lib.hid o2; have BB2 := Lib.hid hb2; clear o2 hb2))
      go_roundg (need (nx X) (ny Y))
      case measure =>
        have := (need_succ HIV.out HQ.out).1
        have := HK.out
        omega
      case rel => exact takeR_step HIV.out HNR.out (by rw [HK.out]; exact hsl) HQ.out B2.out O2.out ht (frm_low HFR.out BB2.out)
    · have gq : (X / 16777216 == Y / 16777216) = false := beq_eq_false_iff_ne.2 hq
      have HQ := Lib.hid hq
      clear hq
      go_wp2_with fail
      go_quiet (fail)
      go_wp2_with fail
      go_ret2
      exact takeR_of HNR.out HQ.out HBR.out HO.out HFR.out nq
set_option maxRecDepth 100000 in
set_option maxHeartbeats 4000000 in
theorem takeR_low (g : Nat) (t : TypeId) (cs : Array Value) (x y p z : Int) (w : World) (hb : Blk w g t cs) (h0 : cs[0]? = some (.int .u64 x)) (h1 : cs[1]? = some (.int .u64 y)) (hn : Nrm x y) (p0 : 1 ≤ p) (p1 : p ≤ 65535) (z0 : 0 ≤ z) (z1 : z ≤ 4294967295) (ht : 5 ≠ t) (gz : decide (z ≤ mid x y p) = true) :
    Calls Try.prog 30 #[.pointer (some ⟨g, 0, none⟩), .int .i64 (-1), .int .i64 p, .int .u64 z] w (TakeR g t cs 1 x (mid x y p) w) := by
  have c0 := (hb.cell 0).trans h0
  have c1 := (hb.cell 1).trans h1
  have f0 := hb.frozen 0
  have f1 := hb.frozen 1
  have x0 := hn.x0
  have y1 := hn.y1
  have hxy : x < y := by have := hn.df; have := hn.xy; omega
  have hi : Ivl x (mid x y p) := by have := cut_ivl (b := 1) hn p0 p1; simpa [cutX, cutY] using this
  have hmi := mid_in hn.x0 hxy p0 p1
  have hm0 : 0 ≤ mid x y p := by omega
  have hm1 : mid x y p + 1 ≤ 4294967295 := by omega
  have g1 : 0 ≤ y - x := by omega
  have g2 : y - x ≤ 4294967295 := by omega
  have hq1 : 0 ≤ (y - x) / 65536 * p := Int.mul_nonneg (by omega) (by omega)
  have hq2 : (y - x) / 65536 * p ≤ (y - x) / 65536 * 65535 := Int.mul_le_mul_of_nonneg_left p1 (by omega)
  have hq3 : 0 ≤ (y - x) % 65536 * p := Int.mul_nonneg (by omega) (by omega)
  have hq4 : (y - x) % 65536 * p ≤ (y - x) % 65536 * 65535 := Int.mul_le_mul_of_nonneg_left p1 (by omega)
  obtain ⟨m, hm⟩ : ∃ m, mid x y p = m := ⟨_, rfl⟩
  have hme : x + (y - x) / 65536 * p + (y - x) % 65536 * p / 65536 = m := hm
  have hsz : 2 ≤ cs.size := by
    rcases Nat.lt_or_ge 1 cs.size with h | h
    · exact h
    · rw [Array.getElem?_eq_none h] at h1; cases h1
  have HB := Lib.hid hb
  have H0 := Lib.hid h0
  have H1 := Lib.hid h1
  have HN := Lib.hid hn
  have HME := Lib.hid hme
  have hgl := hb.lt
  rw [hm] at hi hm0 hm1 gz ⊢
  have HI := Lib.hid hi
  clear hb h0 h1 hn hi hm hme hmi
  go_enter Try.func30, Try.ntmps30
  go_wp2_with fail
  go_quiet (fail)
  rw [HME.out]
  go_wp2_with fail
  have hb1 : Blk ((w.drewN nq).setCell ⟨g, 1, none⟩ (.int .u64 m)) g t (set2 cs x m) := by
    have h0 := H0.out
    have h1 := H1.out
    rw [← set2_y h0]; exact (HB.out.drewN nq).set 1 _
  have hf1 : Frm (fun k => k = g) w ((w.drewN nq).setCell ⟨g, 1, none⟩ (.int .u64 m)) := ((Frm.refl (fun k => k = g) w).drewN nq).setCell (p := ⟨g, 1, none⟩) (fun _ => rfl) _
  have HB1 := Lib.hid hb1
  have HF1 := Lib.hid hf1
  clear hb1 hf1 c0 c1 f0 f1 hq1 hq2 hq3 hq4
  go_loopg [11] (need x m) (fun k v wr => TakeRelR g t cs x m w k v wr)
  case atStart => exact ⟨⟨x, m, [], rfl, HI.out, by simp, by have := need_le x m; simp; omega, HB1.out, ⟨rfl, .inl ⟨rfl, rfl⟩⟩⟩, HF1.out⟩
  case round =>
    obtain ⟨⟨X, Y, so, hk, hi, hn, hsl, hb, ho⟩, hf⟩ := hrel
    have c0 := (hb.cell 0).trans (set2_0 hsz)
    have c1 := (hb.cell 1).trans (set2_1 hsz)
    have f0 := hb.frozen 0
    have f1 := hb.frozen 1
    have i0 := hi.x0
    have i1 := hi.y1
    have i2 := hi.xy
    have HK := Lib.hid hk
    have HIV := Lib.hid hi
    have HNR := Lib.hid hn
    have HBR := Lib.hid hb
    have HO := Lib.hid ho
    have HFR := Lib.hid hf
    clear hk hi hn hb ho hf
    by_cases hq : X / 16777216 = Y / 16777216
    · have gq : (X / 16777216 == Y / 16777216) = true := beq_iff_eq.2 hq
      have HQ := Lib.hid hq
      clear hq
      go_wp2_with fail
      go_quiet (fail)
      go_wp2_with (at_builtin; (refine wpList_app1 (P := Try.prog) (t := 30) (e := 5) (z := .int .u8 0) (bytes := 1) (w := wr.drewN nq) tBytes ?_ (.tmp 72) (.tmp 79) ?_ w.heap.size u11 so.length (octs so) ?_ HO.out (.int .u8 (X / 16777216)) rfl (wr.drewN nq).heap.size ?_ rfl (by omega) (by unfold maxLen; omega) HFR.out.size ?_; rfl; rfl; rfl; rfl; intro v2 w2 o2 _ hb2; have B2 := Lib.hid ((hb2.block g hgl).trans (HBR.out.drewN nq)); have c0 := (Blk.cell B2.out 0).trans (set2_0 hsz); have c1 := (Blk.cell B2.out 1).trans (set2_1 hsz); have f0 := Blk.frozen B2.out 0; have f1 := Blk.frozen B2.out 1; have O2 := Lib.hid o2; have BB2 := Lib.hid hb2; clear o2 hb2))
      go_roundg (need (nx X) (ny Y))
      case measure =>
        have := (need_succ HIV.out HQ.out).1
        have := HK.out
        omega
      case rel => exact takeR_step HIV.out HNR.out (by rw [HK.out]; exact hsl) HQ.out B2.out O2.out ht (frm_low HFR.out BB2.out)
    · have gq : (X / 16777216 == Y / 16777216) = false := beq_eq_false_iff_ne.2 hq
      have HQ := Lib.hid hq
      clear hq
      go_wp2_with fail
      go_quiet (fail)
      go_wp2_with fail
      go_ret2
      exact takeR_of HNR.out HQ.out HBR.out HO.out HFR.out nq
set_option maxRecDepth 100000 in
set_option maxHeartbeats 4000000 in
theorem takeR_high (g : Nat) (t : TypeId) (cs : Array Value) (x y p z : Int) (w : World) (hb : Blk w g t cs) (h0 : cs[0]? = some (.int .u64 x)) (h1 : cs[1]? = some (.int .u64 y)) (hn : Nrm x y) (p0 : 1 ≤ p) (p1 : p ≤ 65535) (z0 : 0 ≤ z) (z1 : z ≤ 4294967295) (ht : 5 ≠ t) (gz : decide (z ≤ mid x y p) = false) :
    Calls Try.prog 30 #[.pointer (some ⟨g, 0, none⟩), .int .i64 (-1), .int .i64 p, .int .u64 z] w (TakeR g t cs 0 (mid x y p + 1) y w) := by
  have c0 := (hb.cell 0).trans h0
  have c1 := (hb.cell 1).trans h1
  have f0 := hb.frozen 0
  have f1 := hb.frozen 1
  have x0 := hn.x0
  have y1 := hn.y1
  have hxy : x < y := by have := hn.df; have := hn.xy; omega
  have hi : Ivl (mid x y p + 1) y := by have := cut_ivl (b := 0) hn p0 p1; simpa [cutX, cutY] using this
  have hmi := mid_in hn.x0 hxy p0 p1
  have hm0 : 0 ≤ mid x y p := by omega
  have hm1 : mid x y p + 1 ≤ 4294967295 := by omega
  have g1 : 0 ≤ y - x := by omega
  have g2 : y - x ≤ 4294967295 := by omega
  have hq1 : 0 ≤ (y - x) / 65536 * p := Int.mul_nonneg (by omega) (by omega)
  have hq2 : (y - x) / 65536 * p ≤ (y - x) / 65536 * 65535 := Int.mul_le_mul_of_nonneg_left p1 (by omega)
  have hq3 : 0 ≤ (y - x) % 65536 * p := Int.mul_nonneg (by omega) (by omega)
  have hq4 : (y - x) % 65536 * p ≤ (y - x) % 65536 * 65535 := Int.mul_le_mul_of_nonneg_left p1 (by omega)
  obtain ⟨m, hm⟩ : ∃ m, mid x y p = m := ⟨_, rfl⟩
  have hme : x + (y - x) / 65536 * p + (y - x) % 65536 * p / 65536 = m := hm
  have hsz : 2 ≤ cs.size := by
    rcases Nat.lt_or_ge 1 cs.size with h | h
    · exact h
    · rw [Array.getElem?_eq_none h] at h1; cases h1
  have HB := Lib.hid hb
  have H0 := Lib.hid h0
  have H1 := Lib.hid h1
  have HN := Lib.hid hn
  have HME := Lib.hid hme
  have hgl := hb.lt
  rw [hm] at hi hm0 hm1 gz ⊢
  have HI := Lib.hid hi
  clear hb h0 h1 hn hi hm hme hmi
  go_enter Try.func30, Try.ntmps30
  go_wp2_with fail
  go_quiet (fail)
  rw [HME.out]
  go_wp2_with fail
  have hb1 : Blk ((w.drewN nq).setCell ⟨g, 0, none⟩ (.int .u64 (m + 1))) g t (set2 cs (m + 1) y) := by
    have h0 := H0.out
    have h1 := H1.out
    rw [← set2_x h1]; exact (HB.out.drewN nq).set 0 _
  have hf1 : Frm (fun k => k = g) w ((w.drewN nq).setCell ⟨g, 0, none⟩ (.int .u64 (m + 1))) := ((Frm.refl (fun k => k = g) w).drewN nq).setCell (p := ⟨g, 0, none⟩) (fun _ => rfl) _
  have HB1 := Lib.hid hb1
  have HF1 := Lib.hid hf1
  clear hb1 hf1 c0 c1 f0 f1 hq1 hq2 hq3 hq4
  go_loopg [11] (need (m + 1) y) (fun k v wr => TakeRelR g t cs (m + 1) y w k v wr)
  case atStart => exact ⟨⟨(m + 1), y, [], rfl, HI.out, by simp, by have := need_le (m + 1) y; simp; omega, HB1.out, ⟨rfl, .inl ⟨rfl, rfl⟩⟩⟩, HF1.out⟩
  case round =>
    obtain ⟨⟨X, Y, so, hk, hi, hn, hsl, hb, ho⟩, hf⟩ := hrel
    have c0 := (hb.cell 0).trans (set2_0 hsz)
    have c1 := (hb.cell 1).trans (set2_1 hsz)
    have f0 := hb.frozen 0
    have f1 := hb.frozen 1
    have i0 := hi.x0
    have i1 := hi.y1
    have i2 := hi.xy
    have HK := Lib.hid hk
    have HIV := Lib.hid hi
    have HNR := Lib.hid hn
    have HBR := Lib.hid hb
    have HO := Lib.hid ho
    have HFR := Lib.hid hf
    clear hk hi hn hb ho hf
    by_cases hq : X / 16777216 = Y / 16777216
    · have gq : (X / 16777216 == Y / 16777216) = true := beq_iff_eq.2 hq
      have HQ := Lib.hid hq
      clear hq
      go_wp2_with fail
      go_quiet (fail)
      go_wp2_with (at_builtin; (refine wpList_app1 (P := Try.prog) (t := 30) (e := 5) (z := .int .u8 0) (bytes := 1) (w := wr.drewN nq) tBytes ?_ (.tmp 72) (.tmp 79) ?_ w.heap.size u11 so.length (octs so) ?_ HO.out (.int .u8 (X / 16777216)) rfl (wr.drewN nq).heap.size ?_ rfl (by omega) (by unfold maxLen; omega) HFR.out.size ?_; rfl; rfl; rfl; rfl; intro v2 w2 o2 _ hb2; have B2 := Lib.hid ((hb2.block g hgl).trans (HBR.out.drewN nq)); have c0 := (Blk.cell B2.out 0).trans (set2_0 hsz); have c1 := (Blk.cell B2.out 1).trans (set2_1 hsz); have f0 := Blk.frozen B2.out 0; have f1 := Blk.frozen B2.out 1; have O2 := Lib.hid o2; have BB2 := Lib.hid hb2; clear o2 hb2))
      go_roundg (need (nx X) (ny Y))
      case measure =>
        have := (need_succ HIV.out HQ.out).1
        have := HK.out
        omega
      case rel => exact takeR_step HIV.out HNR.out (by rw [HK.out]; exact hsl) HQ.out B2.out O2.out ht (frm_low HFR.out BB2.out)
    · have gq : (X / 16777216 == Y / 16777216) = false := beq_eq_false_iff_ne.2 hq
      have HQ := Lib.hid hq
      clear hq
      go_wp2_with fail
      go_quiet (fail)
      go_wp2_with fail
      go_ret2
      exact takeR_of HNR.out HQ.out HBR.out HO.out HFR.out nq
end Go.Proofs.Ytbjbpbblalcpkaa
