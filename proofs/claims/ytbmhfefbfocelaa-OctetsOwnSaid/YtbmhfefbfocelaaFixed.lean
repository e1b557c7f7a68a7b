/- OctetsFixed's walk: true; nothing that was there is written. No condition. -/
import Derived.Test.YtbmhfefbfocelaaTwice
namespace Go.Proofs.Ytbmhfefbfocelaa
open Go.RowKit Go.WideShapes
set_option linter.unusedVariables false
theorem u8_nx (A : Option Addr) (L c : Nat) (a : Int) (w : World) (hm : L ≤ 140737488351232) (a0 : -9223372036854775808 ≤ a) (a1 : a ≤ 9223372036854775807) (h : a < 0 ∨ (L : Int) < a + 1) : Calls Try.prog 11 #[.slice A L c, .int .i64 a] w (Same w (.tuple #[.int .u8 0, .bool false])) :=
  (u8_no A L c a w (by omega) a0 a1 (by omega)).mono fun _ _ ⟨e, h⟩ => ⟨e, h⟩
theorem text_nx (A : Option Addr) (L c : Nat) (a : Int) (w : World) (hm : L ≤ 140737488351232) (a0 : -9223372036854775808 ≤ a) (a1 : a ≤ 9223372036854775807) (h : a < 0 ∨ (L : Int) < a + 2) : Calls Try.prog 21 #[.slice A L c, .int .i64 a] w (Same w (.tuple #[.string ⟨#[]⟩, .int .i64 0, .bool false])) :=
  (text_no A L c a w (by omega) a0 a1 (by omega)).mono fun _ _ ⟨e, h⟩ => ⟨e, h⟩
set_option maxHeartbeats 2000000 in
theorem nothing_any (A : Option Addr) (L c : Nat) (a : Int) (w : World) (hm : L ≤ 140737488351232) (a0 : -9223372036854775808 ≤ a) (a1 : a ≤ 9223372036854775807) (h : a < 0 ∨ (L : Int) < a + 1) :
    Calls Try.prog 20 #[.slice A L c, .int .i64 a] w (Same w (.bool true)) := by
  have H := Lib.hid h
  clear h
  go_enter Try.func20, Try.ntmps20
  go_wp2_with fail
  refine (u8_nx A L c a _ hm a0 a1 H.out).mono ?_
  rintro e w1 ⟨rfl, rfl⟩
  go_wp2_with fail
  refine (u16_nx A L c a _ hm a0 a1 (by have := H.out; omega)).mono ?_
  rintro e w1 ⟨rfl, rfl⟩
  go_wp2_with fail
  refine (u32_nx A L c a _ hm a0 a1 (by have := H.out; omega)).mono ?_
  rintro e w1 ⟨rfl, rfl⟩
  go_wp2_with fail
  refine (u64_nx A L c a _ hm a0 a1 (by have := H.out; omega)).mono ?_
  rintro e w1 ⟨rfl, rfl⟩
  go_wp2_with fail
  refine (text_nx A L c a _ hm a0 a1 (by have := H.out; omega)).mono ?_
  rintro e w1 ⟨rfl, rfl⟩
  go_wp2
  go_ret
  exact ⟨rfl, rfl⟩
def Below' (w0 : World) (v : Value) (e : Ending) (w : World) : Prop := e = .returned v ∧ Below w0.heap.size w0 w
theorem of_same {f : FuncId} {args : Array Value} {w : World} {v : Value} (h : Calls Try.prog f args w (Same w v)) : Calls Try.prog f args w (Below' w v) :=
  h.mono fun _ _ ⟨he, hw⟩ => ⟨he, hw ▸ Below.refl _ _⟩
theorem text_cut' (bs : List Int) (A : Option Addr) (L c k n : Nat) (w : World) (hL : L = bs.length) (ho : Oct bs) (hr : Rd w A (octs bs)) (h1 : k + 2 ≤ L) (hn : (n : Int) = numI bs k 2) (h3 : L < k + 2 + n) (h2 : L ≤ c) (hm : c ≤ maxLen) :
    Calls Try.prog 21 #[.slice A L c, .int .i64 k] w (Same w (.tuple #[.string ⟨#[]⟩, .int .i64 0, .bool false])) := (text_cut bs A L c k n w hL ho hr h1 hn h3 h2 hm).mono fun _ _ ⟨e, h⟩ => ⟨e, h⟩
theorem text_yes' (bs : List Int) (A : Option Addr) (L c k n : Nat) (w : World) (hL : L = bs.length) (ho : Oct bs) (hr : Rd w A (octs bs)) (h1 : k + 2 ≤ L) (hn : (n : Int) = numI bs k 2) (h3 : k + 2 + n ≤ L) (h2 : L ≤ c) (hm : c ≤ maxLen) :
    Calls Try.prog 21 #[.slice A L c, .int .i64 k] w (Same w (.tuple #[.string (strOfNums ((bs.drop (k + 2)).take n)), .int .i64 (k + 2 + n), .bool true])) := (text_yes bs A L c k n w hL ho hr h1 hn h3 h2 hm).mono fun _ _ ⟨e, h⟩ => ⟨e, h⟩
def zerosZ (n : Nat) : List Int := List.replicate n 0
def zs (n : Nat) : Array Value := (octs (zerosZ n)).toArray
/-- A text of n zeros. -/
theorem zs_str (n : Nat) : (strOfNums (zerosZ n)).size = n := by rw [strOfNums_size, zerosZ, List.length_replicate]
theorem octs_zeros (n : Nat) : octs (zerosZ n) = List.replicate n (.int .u8 0) := by unfold octs zerosZ; rw [List.map_replicate]
structure Most (w0 : World) (e : Ending) (w : World) : Prop where
  ex : ∃ b off c, e = .returned (.tuple #[.slice (some ⟨b, off, none⟩) 65538 c, .int .i64 0]) ∧ w.cell? ⟨b, off + 1, none⟩ = some (.int .u8 255) ∧ w.cell? ⟨b, off + 2, none⟩ = some (.int .u8 255)
  low : Below w0.heap.size w0 w
theorem addText_most (A : Option Addr) (Z : ByteArray) (hZ : Z.size = 65535) (w : World) (hr : Rd w A (octs [7])) : Calls Try.prog 16 #[.slice A 1 1, .string Z] w (Most w) := by
  refine (addText_yes [7] Z A 1 1 w rfl hr (by omega) (by omega) (by omega)).mono ?_
  rintro e w1 ⟨⟨A1, c1, he, _, hl, hown⟩, hb⟩
  rw [hZ] at he hown
  rw [show beI ((65535 : Nat) : Int) 2 = [255, 255] from rfl] at hown
  have hrd : Rd w1 A1 (octs ([7] ++ ([255, 255] ++ strI Z))) := Rd.of_own hown
  obtain ⟨b, off, rfl, _, hc⟩ := hrd (by simp [octs])
  exact ⟨⟨b, off, c1, he, hc 1 _ rfl, hc 2 _ rfl⟩, hb⟩
theorem mk_text {w w' : World} {g n c : Nat} (hown : w'.ownsRow w.heap.size 5 1 (.slice (some ⟨g, 0, none⟩) n c) n (List.replicate n (.int .u8 0))) : (convert 22 9 (.slice (some ⟨g, 0, none⟩) n c)).run Try.prog w' = .ok (.string (strOfNums (zerosZ n))) w' :=
  str_run w' _ n c (zerosZ n) (by rw [zerosZ, List.length_replicate]) (by rw [octs_zeros]; exact Rd.of_own hown)
theorem add8' (bs : List Int) (v : Int) (A : Option Addr) (L c M : Nat) (w : World) (hM : M = L + 1) (hL : L = bs.length) (hr : Rd w A (octs bs)) (hc : L ≤ c) (hb : L ≤ 140737488355000) (h0 : 0 ≤ v) (h1 : v ≤ 255) :
    Calls Try.prog 22 #[.slice A L c, .int .u8 v] w (IsPut bs (beI v 1) M w) := by
  subst hM; exact add8 bs v A L c w hL hr hc hb h0 h1
theorem add16' (bs : List Int) (v : Int) (A : Option Addr) (L c M : Nat) (w : World) (hM : M = L + 2) (hL : L = bs.length) (hr : Rd w A (octs bs)) (hc : L ≤ c) (hb : L ≤ 140737488355000) (h0 : 0 ≤ v) (h1 : v ≤ 65535) :
    Calls Try.prog 19 #[.slice A L c, .int .u16 v] w (IsPut bs (beI v 2) M w) := by
  subst hM; exact add16 bs v A L c w hL hr hc hb h0 h1
theorem add32' (bs : List Int) (v : Int) (A : Option Addr) (L c M : Nat) (w : World) (hM : M = L + 4) (hL : L = bs.length) (hr : Rd w A (octs bs)) (hc : L ≤ c) (hb : L ≤ 140737488355000) (h0 : 0 ≤ v) (h1 : v ≤ 4294967295) :
    Calls Try.prog 18 #[.slice A L c, .int .u32 v] w (IsPut bs (beI v 4) M w) := by
  subst hM; exact add32 bs v A L c w hL hr hc hb h0 h1
theorem add64' (bs : List Int) (v : Int) (A : Option Addr) (L c M : Nat) (w : World) (hM : M = L + 8) (hL : L = bs.length) (hr : Rd w A (octs bs)) (hc : L ≤ c) (hb : L ≤ 140737488355000) (h0 : 0 ≤ v) (h1 : v ≤ 18446744073709551615) :
    Calls Try.prog 15 #[.slice A L c, .int .u64 v] w (IsPut bs (beI v 8) M w) := by
  subst hM; exact add64 bs v A L c w hL hr hc hb h0 h1
theorem addText_over (A : Option Addr) (L c : Nat) (s : ByteArray) (w : World) (hs : s.size = 65536) : Calls Try.prog 16 #[.slice A L c, .string s] w (Same w (.tuple #[.slice none 0 0, .int .i64 3])) :=
  (addText_no s A L c w (by omega) (by unfold maxLen; omega)).mono fun _ _ ⟨e, h⟩ => ⟨e, h⟩
theorem own_cap {w : World} {base n : Nat} {e : TypeId} {size c : Nat} {A : Option Addr} {xs : List Value} (h : w.ownsRow base e size (.slice A n c) n xs) : c ≤ maxLen := by
  rcases h.2 with ⟨h0, _⟩ | ⟨g, cap, cur, hv, _, _, _, hc, _⟩
  · injection h0 with _ _ h0; subst h0; simp [maxLen]
  · injection hv with _ _ hv; subst hv; exact hc
def fulls : List Int := [] ++ beI 255 1 ++ beI 65535 2 ++ beI 4294967295 4 ++ beI 18446744073709551615 8
theorem fulls_eq : fulls = List.replicate 15 255 := by decide +kernel
theorem fulls_num : numI fulls 7 8 = 18446744073709551615 := by decide +kernel
theorem fulls_at {k : Nat} (h : k < 15) : (octs fulls)[k]? = some (.int .u8 255) := by
  rw [fulls_eq]; unfold octs; rw [List.map_replicate, List.getElem?_replicate, if_pos h]
set_option maxRecDepth 100000 in
set_option maxHeartbeats 8000000 in
theorem fixed_any (w : World) :
    Calls Try.prog 6 #[] w fun e w' => e = .returned (.bool true) ∧ Below w.heap.size w w' := by
  have mk7 : ∀ w : World, (Instr.makeSlice 22 (.int .i64 7) (.int .i64 7)).run Try.prog w = .ok (.slice (some ⟨w.heap.size, 0, none⟩) 7 7) (w.alloc (.cells (zs 7) 5)) := fun _ => by kernel_rfl
  have o2 : Oct [0, 2, 5, 6] := by unfold Oct; decide
  have o3 : Oct [0, 3, 5, 6] := by unfold Oct; decide
  have o4 : Oct [9, 0, 0] := by unfold Oct; decide
  have q4 : strOfNums ((([9, 0, 0] : List Int).drop (1 + 2)).take 0) = ⟨#[]⟩ := by rfl
  go_enter Try.func6, Try.ntmps6
  go_wp2_with fail
  refine wp_loop_rounds 8 ?_
  rw [rounds_succ]
  go_wp2_with (go_at_call 20; refine (nothing_any _ 2 2 _ _ (by omega) (by omega) (by omega) (by omega)).mono ?_; rintro e w1 ⟨rfl, rfl⟩)
  rw [rounds_succ]
  go_wp2_with (go_at_call 20; refine (nothing_any _ 2 2 _ _ (by omega) (by omega) (by omega) (by omega)).mono ?_; rintro e w1 ⟨rfl, rfl⟩)
  rw [rounds_succ]
  go_wp2_with (go_at_call 20; refine (nothing_any _ 2 2 _ _ (by omega) (by omega) (by omega) (by omega)).mono ?_; rintro e w1 ⟨rfl, rfl⟩)
  rw [rounds_succ]
  go_wp2_with (go_at_call 20; refine (nothing_any _ 2 2 _ _ (by omega) (by omega) (by omega) (by omega)).mono ?_; rintro e w1 ⟨rfl, rfl⟩)
  rw [rounds_succ]
  go_wp2_with (go_at_call 20; refine (nothing_any _ 2 2 _ _ (by omega) (by omega) (by omega) (by omega)).mono ?_; rintro e w1 ⟨rfl, rfl⟩)
  rw [rounds_succ]
  go_wp2_with (go_at_call 20; refine (nothing_any _ 2 2 _ _ (by omega) (by omega) (by omega) (by omega)).mono ?_; rintro e w1 ⟨rfl, rfl⟩)
  rw [rounds_succ]
  go_wp2_with (go_at_call 20; refine (nothing_any _ 2 2 _ _ (by omega) (by omega) (by omega) (by omega)).mono ?_; rintro e w1 ⟨rfl, rfl⟩)
  rw [rounds_succ]
  go_wp2_with fail
  refine (of_same (nothing_any _ 0 0 _ _ (by omega) (by omega) (by omega) (by omega))).mono ?_
  rintro e w1 ⟨rfl, hb1⟩
  have k1 : Below w.heap.size w w1 := ch0 (by repeat (first | exact Below.refl _ _ | (refine Below.alloc ?_ (by first | (simp; done) | (simp; omega)) _))) hb1
  have K1 := Lib.hid k1
  clear k1 hb1
  go_wp2_with fail
  refine (of_same (u64_nx _ 7 7 0 _ (by omega) (by omega) (by omega) (by omega))).mono ?_
  rintro e w2 ⟨rfl, hb2⟩
  have K2 := Lib.hid (ch1 K1.out hb2)
  clear hb2 K1
  go_wp2_with fail
  refine (of_same (u16_nx _ 2 2 1 _ (by omega) (by omega) (by omega) (by omega))).mono ?_
  rintro e w3 ⟨rfl, hb3⟩
  have K3 := Lib.hid (ch1 K2.out hb3)
  clear hb3 K2
  go_wp2_with fail
  refine (of_same (text_cut' [0, 2, 5, 6] _ 4 4 1 517 _ rfl o2 (rd_octs _ _) (by omega) (by decide) (by omega) (by omega) (by simp [maxLen]))).mono ?_
  rintro e w4 ⟨rfl, hb4⟩
  have K4 := Lib.hid (ch1 K3.out hb4)
  clear hb4 K3
  go_wp2_with fail
  refine (of_same (text_cut' [0, 3, 5, 6] _ 4 4 0 3 _ rfl o3 (rd_octs _ _) (by omega) (by decide) (by omega) (by omega) (by simp [maxLen]))).mono ?_
  rintro e w5 ⟨rfl, hb5⟩
  have K5 := Lib.hid (ch1 K4.out hb5)
  clear hb5 K4
  go_wp2_with fail
  refine (of_same (text_yes' [9, 0, 0] _ 3 3 1 0 _ rfl o4 (rd_octs _ _) (by omega) (by decide) (by omega) (by omega) (by simp [maxLen]))).mono ?_
  rw [q4]
  rintro e w6 ⟨rfl, hb6⟩
  have K6 := Lib.hid (ch1 K5.out hb6)
  clear hb6 K5
  obtain ⟨Z, hZ⟩ : ∃ Z, strOfNums (zerosZ 65535) = Z := ⟨_, rfl⟩
  obtain ⟨Y, hY⟩ : ∃ Y, strOfNums (zerosZ 65536) = Y := ⟨_, rfl⟩
  have sZ : Z.size = 65535 := hZ ▸ zs_str _
  have sY : Y.size = 65536 := hY ▸ zs_str _
  have Z65535 := Lib.hid hZ
  have Z65536 := Lib.hid hY
  have SZ := Lib.hid sZ
  have SY := Lib.hid sY
  clear hZ hY sZ sY
  go_wp2_with (first | (at_make; refine wpList_mk tBytes rfl rfl _ _ rfl w.heap.size .i64 .i64 65535 65535 65535 rfl rfl (by omega) (by omega) (by omega) (by unfold maxLen; omega) (by have := K6.out.size; simp; omega) ?_; intro w7 hown7 hlt7 hb7; have x7 := mk_text hown7; rw [Z65535.out] at x7; rw [World.size_alloc] at x7; clear hown7))
  have r7 := (rd_octs w6 [7]).below hb7 rfl
  have K7 := Lib.hid (ch1 K6.out hb7)
  clear hlt7 hb7
  go_wp2_with fail
  refine (addText_most _ Z SZ.out _ r7).mono ?_
  rintro e w8 ⟨⟨b8, f8, c8, rfl, d1, d2⟩, hb8⟩
  clear r7 x7
  have K8 := Lib.hid (ch0 K7.out hb8)
  clear hb8
  go_wp2_with (first | (at_make; refine wpList_mk tBytes rfl rfl _ _ rfl w.heap.size .i64 .i64 65536 65536 65536 rfl rfl (by omega) (by omega) (by omega) (by unfold maxLen; omega) (by have := K8.out.size; simp; omega) ?_; intro w9 hown9 hlt9 hb9; have x9 := mk_text hown9; rw [Z65536.out] at x9; rw [World.size_alloc] at x9; clear hown9))
  have l8 : b8 < w8.heap.size := block_lt_of_cell d1
  have p1 := (hb9.cell (p := ⟨b8, f8 + 1, none⟩) (by show b8 < _; rw [World.size_alloc]; omega)).trans ((World.cell?_alloc_lt w8 _ ⟨b8, f8 + 1, none⟩ l8).trans d1)
  have p2 := (hb9.cell (p := ⟨b8, f8 + 2, none⟩) (by show b8 < _; rw [World.size_alloc]; omega)).trans ((World.cell?_alloc_lt w8 _ ⟨b8, f8 + 2, none⟩ l8).trans d2)
  have K9 := Lib.hid (ch1 K8.out hb9)
  clear hlt9 hb9 d1 d2 l8
  go_wp2_with fail
  refine (addText_over _ 1 1 Y _ SY.out).mono ?_
  rintro e w10 ⟨rfl, rfl⟩
  clear x9
  go_wp2_with fail
  refine (add8' [] 255 none 0 0 1 _ (by omega) rfl (Rd.nil _ _) (by omega) (by omega) (by omega) (by omega)).mono ?_
  rintro e w11 ⟨⟨A1, c1, rfl, hc1, l1, o1⟩, hb11⟩
  clear p1 p2
  have K11 := Lib.hid (ch0 K9.out hb11)
  have L1 := Lib.hid l1
  have O1 := Lib.hid o1
  clear hb11 l1 o1
  go_wp2_with fail
  refine (add16' ([] ++ beI 255 1) 65535 A1 1 c1 3 _ (by omega) L1.out.symm (Rd.of_own O1.out) hc1 (by omega) (by omega) (by omega)).mono ?_
  rintro e w12 ⟨⟨A2, c2, rfl, hc2, l2, o2'⟩, hb12⟩
  have K12 := Lib.hid (ch0 K11.out hb12)
  have L2 := Lib.hid l2
  have O2 := Lib.hid o2'
  clear hb12 l2 o2'
  go_wp2_with fail
  refine (add32' ([] ++ beI 255 1 ++ beI 65535 2) 4294967295 A2 3 c2 7 _ (by omega) L2.out.symm (Rd.of_own O2.out) hc2 (by omega) (by omega) (by omega)).mono ?_
  rintro e w13 ⟨⟨A3, c3, rfl, hc3, l3, o3'⟩, hb13⟩
  have K13 := Lib.hid (ch0 K12.out hb13)
  have L3 := Lib.hid l3
  have O3 := Lib.hid o3'
  clear hb13 l3 o3'
  go_wp2_with fail
  refine (add64' ([] ++ beI 255 1 ++ beI 65535 2 ++ beI 4294967295 4) 18446744073709551615 A3 7 c3 15 _ (by omega) L3.out.symm (Rd.of_own O3.out) hc3 (by omega) (by omega) (by omega)).mono ?_
  rintro e w14 ⟨⟨A4, c4, rfl, hc4, l4, o4'⟩, hb14⟩
  have K14 := Lib.hid (ch0 K13.out hb14)
  have rf : Rd w14 A4 (octs fulls) := Rd.of_own o4'
  have lf : 15 = fulls.length := l4.symm
  have cm := own_cap o4'
  have CM := Lib.hid cm
  clear cm
  have LF := Lib.hid lf
  clear hb14 l4 o4' lf
  obtain ⟨b, off, rfl, hlt, hcell⟩ := rf (by rw [octs_length, ← LF.out]; omega)
  have RF := Lib.hid rf
  have HC := Lib.hid hcell
  clear rf hcell hlt
  go_wp2_with fail
  go_loop [22, 136] (fun u i => ∃ k : Nat, k ≤ 15 ∧ i = .int .i64 k) (fun _ i => 15 - (intOf i).toNat)
  case atStart => exact ⟨0, by omega, rfl⟩
  case round =>
    obtain ⟨k, hk, rfl⟩ := hrel
    by_cases hk15 : k < 15
    · have hcell := HC.out k _ (fulls_at hk15)
      go_wp2
      go_round
      case rel => exact ⟨k + 1, by omega, rfl⟩
      case measure => simp [intOf]; omega
    · have hnum : (numI fulls 7 8 == 18446744073709551615) = true := by rw [fulls_num]; rfl
      have HN := Lib.hid hnum
      clear hnum
      go_wp2_with fail
      refine (u64_at fulls _ 15 c4 _ _ LF.out (by rw [fulls_eq]; intro x hx; have := List.eq_of_mem_replicate hx; omega) RF.out hc4 CM.out 7 (by omega) (by omega)).mono ?_
      generalize numI fulls 7 8 = N at *
      have hnum := HN.out
      clear HN
      rintro e w15 ⟨rfl, rfl⟩
      go_wp2_with (go_at_call 10; refine (awake_any _).mono ?_; rintro e w16 ⟨rfl, hb16⟩)
      go_ret
      exact ⟨rfl, ch0 K14.out hb16⟩
end Go.Proofs.Ytbmhfefbfocelaa
