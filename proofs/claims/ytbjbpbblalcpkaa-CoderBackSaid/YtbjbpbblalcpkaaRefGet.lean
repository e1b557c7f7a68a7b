/- The reference decoder: made, Get: walks. -/
import Derived.Test.YtbjbpbblalcpkaaRefDec
namespace Go.Proofs.Ytbjbpbblalcpkaa
open Go.RowKit Go.WideShapes
set_option linter.unusedVariables false
theorem DecR.drew' {B : Nat} {w : World} {g n : Nat} {x y z : Int} {bs : List Int} {v : Value} (h : DecR B w g x y bs n z v) : DecR B w.drew g x y bs n z v := h.drewN 1
theorem nexts_fst (bs : List Int) : ∀ n, (nexts bs n (0, 0)).1 = min n bs.length
  | 0 => by simp [nexts]
  | n + 1 => by
    have := nexts_fst bs n
    show (dnext bs (nexts bs n (0, 0))).1 = _
    unfold dnext
    split <;> simp only <;> omega
def zN (bs : List Int) (n : Nat) : Int := (nexts bs n (0, 0)).2
theorem nexts_eq (bs : List Int) (n : Nat) : nexts bs n (0, 0) = (min n bs.length, zN bs n) := by
  rw [← nexts_fst]; rfl
theorem zN_succ (bs : List Int) (n : Nat) : zN bs (n + 1) = zN bs n * 256 % 4294967296 + bs.getD n 0 := by
  show (dnext bs (nexts bs n (0, 0))).2 = _
  rw [nexts_eq]
  unfold dnext
  by_cases h : n < bs.length
  · rw [if_pos (by simp only; omega)]
    simp only
    rw [show min n bs.length = n by omega]
  · rw [if_neg (by simp only; omega)]
    simp only
    rw [List.getD_eq_getElem?_getD, List.getElem?_eq_none (by omega)]
    simp
theorem zN_le (bs : List Int) (ho : Oct bs) : ∀ n, 0 ≤ zN bs n ∧ zN bs n ≤ 4294967295
  | 0 => by simp [zN, nexts]
  | n + 1 => by
    have := zN_le bs ho n
    have := ho.getD n
    rw [zN_succ]
    omega
theorem zN_small (bs : List Int) (ho : Oct bs) (n : Nat) (h : n ≤ 3) : zN bs n ≤ 16777215 := by
  have h0 : zN bs 0 = 0 := rfl
  have e1 := zN_succ bs 0
  have e2 := zN_succ bs 1
  have e3 := zN_succ bs 2
  have o0 := ho.getD 0
  have o1 := ho.getD 1
  have o2 := ho.getD 2
  rcases n with _ | _ | _ | _ | n
  · omega
  · omega
  · simp only [Nat.zero_add] at e1 e2 ⊢; omega
  · simp only [Nat.zero_add, Nat.reduceAdd] at e1 e2 e3 ⊢; omega
  · omega
theorem DecR.setZ {B : Nat} {w : World} {g n : Nat} {x y z z' : Int} {bs : List Int} {v : Value} (h : DecR B w g x y bs n z v) : DecR B (w.setCell ⟨g, 4, none⟩ (.int .u64 z')) g x y bs n z' v ∧ Frm (fun k => k = g) w (w.setCell ⟨g, 4, none⟩ (.int .u64 z')) := by
  have f1 : Frm (fun j => j = g) w (w.setCell ⟨g, 4, none⟩ (.int .u64 z')) := (Frm.refl (fun j => j = g) w).setCell (p := ⟨g, 4, none⟩) (fun _ => rfl) _
  refine ⟨⟨?_, f1.own h.own fun j hj e => h.blk.apart h.own (by decide) j hj e, h.ge, h.oct⟩, f1⟩
  have := h.blk.set 4 (.int .u64 z')
  simpa using this
structure NewDecR (bs : List Int) (w0 : World) (e : Ending) (w : World) : Prop where
  ex : ∃ g v, e = .returned (.pointer (some ⟨g, 0, none⟩)) ∧ DecR w0.heap.size w g 0 4294967295 bs 4 (zN bs 4) v ∧ w0.heap.size ≤ g
  low : Below w0.heap.size w0 w
set_option maxRecDepth 100000 in
set_option maxHeartbeats 4000000 in
theorem newDecR_any (bs : List Int) (A : Option Addr) (n c : Nat) (w : World) (hn : n = bs.length) (ho : Oct bs) (hr : Rd w A (octs bs)) (hm : n ≤ 1000000000) :
    Calls Try.prog 21 #[.slice A n c] w (NewDecR bs w) := by
  have HN := Lib.hid hn
  have HR := Lib.hid hr
  have HO := Lib.hid ho
  clear hn hr ho
  go_enter Try.func21, Try.ntmps21
  go_wp2_with fail
  refine (begunR_any _).mono ?_
  rintro e w1 ⟨rfl, hb1⟩
  have o1 : (w1.alloc (.cells #[] 5)).ownsRow w.heap.size 5 1 (.slice (some ⟨w1.heap.size, 0, none⟩) 0 0) 0 [] := ⟨rfl, .inr ⟨w1.heap.size, 0, #[], rfl, hb1.size, Blk.new _ _ _, by omega, by unfold maxLen; omega, rfl, rfl⟩⟩
  have HR1 := Lib.hid ((HR.out.below hb1 rfl).alloc (.cells #[] 5))
  have B1 := Lib.hid (hb1.alloc hb1.size (.cells #[] 5))
  have O1 := Lib.hid o1
  have hs1 := hb1.size
  clear hb1 o1 HR
  go_wp2_with (at_builtin; (refine wpList_app (P := Try.prog) (t := 30) (e := 5) (z := .int .u8 0) (bytes := 1) (w := w1.alloc (.cells #[] 5)) tBytes ?_ (.tmp 6) (.tmp 7) ?_ w.heap.size (.slice (some ⟨w1.heap.size, 0, none⟩) 0 0) 0 [] ?_ O1.out A n c (octs bs) ?_ (by rw [octs_length]; exact HN.out) HR1.out (octs_one bs) (by omega) (by unfold maxLen; omega) B1.out.size ?_; rfl; rfl; rfl; rfl; intro v2 w2 o2 _ hb2; obtain ⟨A2, c2, rfl, hc2⟩ := own_slice o2))
  rw [List.nil_append, Nat.zero_add, HN.out] at o2
  have hbw := Lib.hid ((B1.out.trans hb2).alloc (B1.out.trans hb2).size (.cells #[.int .u64 0, .int .u64 4294967295, .slice A2 n c2, .int .i64 0, .int .u64 0] 69))
  have hd0 : DecR w.heap.size (w2.alloc (.cells #[.int .u64 0, .int .u64 4294967295, .slice A2 n c2, .int .i64 0, .int .u64 0] 69)) w2.heap.size 0 4294967295 bs 0 (zN bs 0) (.slice A2 n c2) :=
    ⟨Blk.new _ _ _, by rw [HN.out]; exact o2.alloc _, (B1.out.trans hb2).size, HO.out⟩
  have HD0 := Lib.hid hd0
  have hsz : w.heap.size ≤ w2.heap.size := (B1.out.trans hb2).size
  have hlb : bs.length ≤ 1000000000 := by have := HN.out; omega
  clear hd0 hb2 o2 B1 O1 HR1
  go_loopw [4] (fun i wr => ∃ k : Nat, k ≤ 4 ∧ i = .int .i64 k ∧ DecR w.heap.size wr w2.heap.size 0 4294967295 bs k (zN bs k) (.slice A2 n c2) ∧ Below w.heap.size w wr) (fun i _ => 4 - (intOf i).toNat)
  case atStart => exact ⟨0, by omega, rfl, HD0.out, hbw.out⟩
  case round =>
    obtain ⟨k, hk, rfl, hd, hb⟩ := hrel
    have c4 := hd.blk.cell 4
    simp at c4
    have z0 := (zN_le bs HO.out k).1
    have HD := Lib.hid hd
    have HB := Lib.hid hb
    have hg2 := hd.blk.lt
    clear hd hb
    by_cases hk4 : k < 4
    · have z1 := zN_small bs HO.out k (by omega)
      have hC := HO.out.getD k
      have hzs := Lib.hid (zN_succ bs k)
      obtain ⟨C, hCe⟩ : ∃ C, bs.getD k 0 = C := ⟨_, rfl⟩
      have HC := Lib.hid hCe
      rw [hCe] at hC hzs
      obtain ⟨Z, hZe⟩ : ∃ Z, zN bs k = Z := ⟨_, rfl⟩
      rw [hZe] at z0 z1 hzs c4 HD
      clear hCe hZe
      go_wp2_with fail
      go_region_with
        (first
          | (go_at_call 34; (refine (nextR_any _ _ _ _ bs _ _ _ _ (by first | exact HD.out | exact HD.out.drew') (by omega) hlb).mono ?_); rintro e w3 ⟨hr, hd3, hf3⟩; rw [HC.out] at hr; subst hr; have k4 := hd3.blk.cell 4; have kf := hd3.blk.frozen 4; simp at k4))
      all_goals
        go_wp2
        go_roundw
        case rel => 
          have hz2 : zN bs (k + 1) = Z * 256 + C := by rw [hzs.out]; omega
          obtain ⟨q1, q2⟩ := hd3.setZ (z' := Z * 256 + C)
          have hfr : Frm (fun k => k = w2.heap.size) wr w3 := by first | exact hf3 | exact Frm.of_drew hf3
          exact ⟨k + 1, by omega, by go_num, by rw [hz2]; exact q1, HB.out.trans ((hfr.trans q2 fun _ _ h => h).to_below HB.out.size fun _ e => by omega)⟩
        case measure => simp [intOf]; omega
    · have hk5 : k = 4 := by omega
      subst hk5
      go_wp2
      go_ret
      exact ⟨⟨w2.heap.size, _, rfl, HD.out, hsz⟩, HB.out⟩
structure GetOkR (B g : Nat) (b x y : Int) (bs : List Int) (n : Nat) (z : Int) (v : Value) (w0 : World) (e : Ending) (w : World) : Prop where
  ret : e = .returned (.tuple #[.int .i64 b, .int .i64 0])
  dec : DecR B w g x y bs n z v
  frm : Frm (fun k => k = g) w0 w
theorem takeR_dec {B g n : Nat} {x y z b X0 Y0 : Int} {bs : List Int} {v : Value} {w w' : World} {e : Ending} (h : DecR B w g x y bs n z v) (t : TakeR g 69 #[.int .u64 x, .int .u64 y, v, .int .i64 n, .int .u64 z] b X0 Y0 w e w') :
    DecR B w' g (norm X0 Y0).2.1 (norm X0 Y0).2.2 bs n z v :=
  ⟨by simpa [set2] using t.blk, t.frm.own h.own fun j hj e => h.blk.apart h.own (by decide) j hj e, h.ge, h.oct⟩
set_option maxRecDepth 100000 in
set_option maxHeartbeats 4000000 in
theorem getR_one (B g : Nat) (x y p : Int) (bs : List Int) (n : Nat) (v : Value) (w : World) (he : DecR B w g x y bs n (zN bs n) v) (hn : Nrm x y) (hl : bs.length ≤ 1000000000) (hn1 : n ≤ 999999990) (p0 : 1 ≤ p) (p1 : p ≤ 65535) (gz : decide (zN bs n ≤ mid x y p) = true) :
    Calls Try.prog 22 #[.pointer (some ⟨g, 0, none⟩), .int .i64 p] w (GetOkR B g 1 (step 1 p x y).2.1 (step 1 p x y).2.2 bs (n + (step 1 p x y).1.length) (zN bs (n + (step 1 p x y).1.length)) v w) := by
  have hst : norm x (mid x y p) = step 1 p x y := by simp [step, cutX, cutY]
  have hsl : (step 1 p x y).1.length ≤ 4 := by
    rw [show step 1 p x y = norm (cutX 1 p x y) (cutY 1 p x y) from rfl, norm_len _ _ _ rfl (cut_ivl hn p0 p1)]
    exact need_le _ _
  have c4 := he.blk.cell 4
  simp at c4
  have z0 := (zN_le bs he.oct n).1
  have z1 := (zN_le bs he.oct n).2
  have HE := Lib.hid he
  have HOC := Lib.hid he.oct
  have HST := Lib.hid hst
  have hT := Lib.hid (takeR_low g 69 #[.int .u64 x, .int .u64 y, v, .int .i64 n, .int .u64 (zN bs n)] x y p (zN bs n))
  have HT := Lib.hid (hT.out w.drew he.blk rfl rfl hn p0 p1 z0 z1 (by decide) gz)
  clear he hn gz hst hT
  obtain ⟨r, hr⟩ : ∃ r, step 1 p x y = r := ⟨_, rfl⟩
  rw [hr] at hsl HST ⊢
  clear hr
  obtain ⟨so, X, Y⟩ := r
  dsimp only at hsl ⊢
  obtain ⟨L, hL⟩ : ∃ L, so.length = L := ⟨_, rfl⟩
  rw [hL] at hsl ⊢
  have HL := Lib.hid hL
  clear hL
  go_enter Try.func22, Try.ntmps22
  go_wp2_with fail
  go_region_with
    (first
      | (go_at_call 30; (refine HT.out.mono ?_); rintro e w3 ht3; obtain ⟨v3, hr3, o3⟩ := ht3.ex; subst hr3))
  obtain ⟨A3, c3, rfl, hc3⟩ := own_slice o3
  have hd3 := takeR_dec HE.out.drew' ht3
  have hf3 := Frm.of_drew ht3.frm
  rw [HST.out] at hd3 ⊢
  rw [show ((so, X, Y) : List Int × Int × Int).1.length = L from HL.out]
  have hd3 : DecR B w3 g X Y bs n (zN bs n) v := hd3
  clear HST HT hc3 o3 ht3 c4
  have HD3 := Lib.hid hd3
  have HF3 := Lib.hid hf3
  clear hd3 hf3 HE
  go_wp2_with fail
  go_loopw [8] (fun i wr => ∃ k : Nat, k ≤ L ∧ i = .int .i64 k ∧ DecR B wr g X Y bs (n + k) (zN bs (n + k)) v ∧ Frm (fun k => k = g) w wr) (fun i _ => L - (intOf i).toNat)
  case atStart => exact ⟨0, by omega, rfl, HD3.out, HF3.out⟩
  case round =>
    obtain ⟨k, hk, rfl, hd, hf⟩ := hrel
    have c4 := hd.blk.cell 4
    simp at c4
    have z0 := (zN_le bs HOC.out (n + k)).1
    have z1 := (zN_le bs HOC.out (n + k)).2
    have HD := Lib.hid hd
    have HF := Lib.hid hf
    clear hd hf
    by_cases hkL : k < L
    · have hC := HOC.out.getD (n + k)
      have hzs := Lib.hid (zN_succ bs (n + k))
      obtain ⟨C, hCe⟩ : ∃ C, bs.getD (n + k) 0 = C := ⟨_, rfl⟩
      have HC := Lib.hid hCe
      rw [hCe] at hC hzs
      obtain ⟨Z, hZe⟩ : ∃ Z, zN bs (n + k) = Z := ⟨_, rfl⟩
      rw [hZe] at z0 z1 hzs c4 HD
      clear hCe hZe
      go_wp2_with fail
      go_region_with
        (first
          | (go_at_call 34; (refine (nextR_any _ _ _ _ bs _ _ _ _ (by first | exact HD.out | exact HD.out.drew') (by omega) hl).mono ?_); rintro e w3 ⟨hr, hd3, hf3⟩; rw [HC.out] at hr; subst hr; have k4 := hd3.blk.cell 4; have kf := hd3.blk.frozen 4; simp at k4))
      all_goals
        go_wp2
        go_roundw
        case rel =>
          obtain ⟨q1, q2⟩ := hd3.setZ (z' := Z * 256 % 4294967296 + C)
          have hfr : Frm (fun k => k = g) wr w3 := by first | exact Frm.of_drew hf3 | exact hf3
          exact ⟨k + 1, by omega, by go_num, by rw [show n + (k + 1) = n + k + 1 from rfl, hzs.out]; exact q1, (HF.out.trans hfr fun _ _ h => h).trans q2 fun _ _ h => h⟩
        case measure => simp [intOf]; omega
    · have hk5 : k = L := by omega
      subst hk5
      go_wp2
      go_ret2
      exact ⟨rfl, HD.out, HF.out⟩
set_option maxRecDepth 100000 in
set_option maxHeartbeats 4000000 in
theorem getR_zero (B g : Nat) (x y p : Int) (bs : List Int) (n : Nat) (v : Value) (w : World) (he : DecR B w g x y bs n (zN bs n) v) (hn : Nrm x y) (hl : bs.length ≤ 1000000000) (hn1 : n ≤ 999999990) (p0 : 1 ≤ p) (p1 : p ≤ 65535) (gz : decide (zN bs n ≤ mid x y p) = false) :
    Calls Try.prog 22 #[.pointer (some ⟨g, 0, none⟩), .int .i64 p] w (GetOkR B g 0 (step 0 p x y).2.1 (step 0 p x y).2.2 bs (n + (step 0 p x y).1.length) (zN bs (n + (step 0 p x y).1.length)) v w) := by
  have hst : norm (mid x y p + 1) y = step 0 p x y := by simp [step, cutX, cutY]
  have hsl : (step 0 p x y).1.length ≤ 4 := by
    rw [show step 0 p x y = norm (cutX 0 p x y) (cutY 0 p x y) from rfl, norm_len _ _ _ rfl (cut_ivl hn p0 p1)]
    exact need_le _ _
  have c4 := he.blk.cell 4
  simp at c4
  have z0 := (zN_le bs he.oct n).1
  have z1 := (zN_le bs he.oct n).2
  have HE := Lib.hid he
  have HOC := Lib.hid he.oct
  have HST := Lib.hid hst
  have hT := Lib.hid (takeR_high g 69 #[.int .u64 x, .int .u64 y, v, .int .i64 n, .int .u64 (zN bs n)] x y p (zN bs n))
  have HT := Lib.hid (hT.out w.drew he.blk rfl rfl hn p0 p1 z0 z1 (by decide) gz)
  clear he hn gz hst hT
  obtain ⟨r, hr⟩ : ∃ r, step 0 p x y = r := ⟨_, rfl⟩
  rw [hr] at hsl HST ⊢
  clear hr
  obtain ⟨so, X, Y⟩ := r
  dsimp only at hsl ⊢
  obtain ⟨L, hL⟩ : ∃ L, so.length = L := ⟨_, rfl⟩
  rw [hL] at hsl ⊢
  have HL := Lib.hid hL
  clear hL
  go_enter Try.func22, Try.ntmps22
  go_wp2_with fail
  go_region_with
    (first
      | (go_at_call 30; (refine HT.out.mono ?_); rintro e w3 ht3; obtain ⟨v3, hr3, o3⟩ := ht3.ex; subst hr3))
  obtain ⟨A3, c3, rfl, hc3⟩ := own_slice o3
  have hd3 := takeR_dec HE.out.drew' ht3
  have hf3 := Frm.of_drew ht3.frm
  rw [HST.out] at hd3 ⊢
  rw [show ((so, X, Y) : List Int × Int × Int).1.length = L from HL.out]
  have hd3 : DecR B w3 g X Y bs n (zN bs n) v := hd3
  clear HST HT hc3 o3 ht3 c4
  have HD3 := Lib.hid hd3
  have HF3 := Lib.hid hf3
  clear hd3 hf3 HE
  go_wp2_with fail
  go_loopw [8] (fun i wr => ∃ k : Nat, k ≤ L ∧ i = .int .i64 k ∧ DecR B wr g X Y bs (n + k) (zN bs (n + k)) v ∧ Frm (fun k => k = g) w wr) (fun i _ => L - (intOf i).toNat)
  case atStart => exact ⟨0, by omega, rfl, HD3.out, HF3.out⟩
  case round =>
    obtain ⟨k, hk, rfl, hd, hf⟩ := hrel
    have c4 := hd.blk.cell 4
    simp at c4
    have z0 := (zN_le bs HOC.out (n + k)).1
    have z1 := (zN_le bs HOC.out (n + k)).2
    have HD := Lib.hid hd
    have HF := Lib.hid hf
    clear hd hf
    by_cases hkL : k < L
    · have hC := HOC.out.getD (n + k)
      have hzs := Lib.hid (zN_succ bs (n + k))
      obtain ⟨C, hCe⟩ : ∃ C, bs.getD (n + k) 0 = C := ⟨_, rfl⟩
      have HC := Lib.hid hCe
      rw [hCe] at hC hzs
      obtain ⟨Z, hZe⟩ : ∃ Z, zN bs (n + k) = Z := ⟨_, rfl⟩
      rw [hZe] at z0 z1 hzs c4 HD
      clear hCe hZe
      go_wp2_with fail
      go_region_with
        (first
          | (go_at_call 34; (refine (nextR_any _ _ _ _ bs _ _ _ _ (by first | exact HD.out | exact HD.out.drew') (by omega) hl).mono ?_); rintro e w3 ⟨hr, hd3, hf3⟩; rw [HC.out] at hr; subst hr; have k4 := hd3.blk.cell 4; have kf := hd3.blk.frozen 4; simp at k4))
      all_goals
        go_wp2
        go_roundw
        case rel =>
          obtain ⟨q1, q2⟩ := hd3.setZ (z' := Z * 256 % 4294967296 + C)
          have hfr : Frm (fun k => k = g) wr w3 := by first | exact Frm.of_drew hf3 | exact hf3
          exact ⟨k + 1, by omega, by go_num, by rw [show n + (k + 1) = n + k + 1 from rfl, hzs.out]; exact q1, (HF.out.trans hfr fun _ _ h => h).trans q2 fun _ _ h => h⟩
        case measure => simp [intOf]; omega
    · have hk5 : k = L := by omega
      subst hk5
      go_wp2
      go_ret2
      exact ⟨rfl, HD.out, HF.out⟩
theorem getR_ok (B g : Nat) (x y p : Int) (bs : List Int) (n : Nat) (v : Value) (w : World) (he : DecR B w g x y bs n (zN bs n) v) (hn : Nrm x y) (hl : bs.length ≤ 1000000000) (hn1 : n ≤ 999999990) (p0 : 1 ≤ p) (p1 : p ≤ 65535) :
    Calls Try.prog 22 #[.pointer (some ⟨g, 0, none⟩), .int .i64 p] w (GetOkR B g (bitOf x y p (zN bs n)) (step (bitOf x y p (zN bs n)) p x y).2.1 (step (bitOf x y p (zN bs n)) p x y).2.2 bs (n + (step (bitOf x y p (zN bs n)) p x y).1.length) (zN bs (n + (step (bitOf x y p (zN bs n)) p x y).1.length)) v w) := by
  by_cases h : zN bs n ≤ mid x y p
  · rw [show bitOf x y p (zN bs n) = 1 from by unfold bitOf; rw [if_pos h]]
    exact getR_one B g x y p bs n v w he hn hl hn1 p0 p1 (by simpa using h)
  · rw [show bitOf x y p (zN bs n) = 0 from by unfold bitOf; rw [if_neg h]]
    exact getR_zero B g x y p bs n v w he hn hl hn1 p0 p1 (by simpa using h)
theorem getR_arg (g : Nat) (p : Int) (w : World) (h : p < 1 ∨ 65535 < p) : Calls Try.prog 22 #[.pointer (some ⟨g, 0, none⟩), .int .i64 p] w fun e w' => e = .returned (.tuple #[.int .i64 0, .int .i64 2]) ∧ w = w' := by
  by_cases h0 : p < 1
  · clear h
    go_enter Try.func22, Try.ntmps22
    go_wp2
    go_ret2
    exact ⟨rfl, rfl⟩
  · have h1 : 65535 < p := by omega
    clear h
    go_enter Try.func22, Try.ntmps22
    go_wp2
    go_ret2
    exact ⟨rfl, rfl⟩
end Go.Proofs.Ytbjbpbblalcpkaa
