/- VersionsNone: a table that New did not make: walks. Condition: none. -/
import Derived.Test.YtlhhkmpidnegcaaVeAk
namespace Go.Proofs.Ytlhhkmpidnegcaa
open Go.RowKit Go.WideShapes
set_option linter.unusedVariables false
set_option linter.unusedSimpArgs false
/-- No table, or one that New did not make. -/
def NoT (p : Value) (w : World) : Prop := p = .pointer none ∨ ∃ g, p = .pointer (some ⟨g, 0, none⟩) ∧ Blk w g 46 #[.pointer none, .int .i64 0, .slice none 0 0]
theorem NoT.below {p : Value} {w w' : World} (h : NoT p w) (hb : Below w.heap.size w w') : NoT p w' := by
  rcases h with h | ⟨g, h, hg⟩
  · exact .inl h
  · exact .inr ⟨g, h, hg.below hb⟩
theorem noT33 (p : Value) (w : World) (h : NoT p w) : Calls Try.prog 33 #[p] w (Same (.bool true) w) := by
  rcases h with rfl | ⟨g, rfl, hg⟩
  · exact none33_nil w
  · exact none33_zero w hg
theorem noT10 (p : Value) (x : Int) (w : World) (h : NoT p w) : Calls Try.prog 10 #[p, .int .i64 x] w (Same (.tuple #[.slice none 0 0, .int .i64 1]) w) := by
  have HN := Lib.hid (noT33 p w h)
  clear h
  go_enter Try.func10, Try.ntmps10
  go_wp2_with fail
  refine (HN.out).mono ?_
  rintro e w1 ⟨rfl, rfl⟩
  go_wp2
  go_ret2
  exact ⟨rfl, rfl⟩
theorem noT13 (p : Value) (w : World) (h : NoT p w) : Calls Try.prog 13 #[p, .agg #[.int .u8 0, .int .u8 0, .int .u8 0, .int .u8 0, .int .u8 0, .int .u8 0, .int .u8 0, .int .u8 0, .int .u8 0, .int .u8 0, .int .u8 0, .int .u8 0, .int .u8 0, .int .u8 0, .int .u8 0, .int .u8 0, .int .u8 0, .int .u8 0, .int .u8 0, .int .u8 0]] w (Quiet (.tuple #[.int .i64 0, .bool false]) w) := by
  have hb := (Below.refl w.heap.size w).alloc (Nat.le_refl _) (.cells #[.int .u8 0, .int .u8 0, .int .u8 0, .int .u8 0, .int .u8 0, .int .u8 0, .int .u8 0, .int .u8 0, .int .u8 0, .int .u8 0, .int .u8 0, .int .u8 0, .int .u8 0, .int .u8 0, .int .u8 0, .int .u8 0, .int .u8 0, .int .u8 0, .int .u8 0, .int .u8 0] 50)
  have HN := Lib.hid (noT33 p _ (h.below hb))
  have HB := Lib.hid hb
  clear h hb
  go_enter Try.func13, Try.ntmps13
  go_wp2_with fail
  refine (HN.out).mono ?_
  rintro e w1 ⟨rfl, rfl⟩
  go_wp2
  go_ret2
  exact ⟨rfl, HB.out⟩
set_option maxRecDepth 100000 in
theorem noT14 (p : Value) (x : Int) (w : World) (h : NoT p w) : Calls Try.prog 14 #[p, .int .i64 x] w (Quiet (.tuple #[.agg zeroA, .bool false]) w) := by
  have hal := (Below.refl w.heap.size w).alloc (Nat.le_refl _) (.cells zeroA 52)
  have hld := at_load w
  have HN := Lib.hid (noT33 p _ (h.below hal))
  have HAL := Lib.hid hal
  have HLD := Lib.hid hld
  clear h hal hld
  go_enter Try.func14, Try.ntmps14
  go_wp2_with fail
  refine (HN.out).mono ?_
  rintro e w1 ⟨rfl, rfl⟩
  go_wp2_with (refine wpList_store_row rfl 52 (.tmp 4) (.tmp 8) rfl w.heap.size zeroA rfl rfl 52 zeroA (heap_alloc_new _ _) zeroA_info rfl (by kernel_rfl) ?_; rw [World.setRow_alloc_new])
  have hld := HLD.out
  exact bodyPost_ret (v := .tuple #[.agg zeroA, .bool false]) (by simp [results, Try.results14, asAddr, Result.andThen, hld]) rfl ⟨rfl, HAL.out⟩
set_option maxRecDepth 100000 in
theorem noT7 (p : Value) (x : Int) (w : World) (h : NoT p w) : Calls Try.prog 7 #[p, .int .i64 x, .slice none 0 0, .agg #[.int .i64 0, .slice none 0 0]] w (Quiet (.int .i64 1) w) := by
  have hb := ((Below.refl w.heap.size w).alloc (Nat.le_refl _) (.cells #[p] 23)).alloc (by simp) (.cells #[.int .i64 0, .slice none 0 0] 29)
  have HN := Lib.hid (noT33 p _ (h.below hb))
  have HB := Lib.hid hb
  have hp : ∃ a, p = .pointer a := by
    rcases h with h | ⟨g, h, _⟩
    · exact ⟨_, h⟩
    · exact ⟨_, h⟩
  obtain ⟨a, rfl⟩ := hp
  clear h hb
  go_enter Try.func7, Try.ntmps7
  go_wp2_with fail
  refine (HN.out).mono ?_
  rintro e w1 ⟨rfl, rfl⟩
  go_wp2
  go_ret
  exact ⟨rfl, HB.out⟩
theorem noT9 (p : Value) (w : World) (h : NoT p w) : Calls Try.prog 9 #[p] w (Same (.int .i64 0) w) := by
  have HN := Lib.hid (noT33 p w h)
  clear h
  go_enter Try.func9, Try.ntmps9
  go_wp2_with fail
  refine (HN.out).mono ?_
  rintro e w1 ⟨rfl, rfl⟩
  go_wp2
  go_ret
  exact ⟨rfl, rfl⟩
theorem noT15 (p : Value) (w : World) (h : NoT p w) : Calls Try.prog 15 #[p] w (Same (.int .i64 0) w) := by
  have HN := Lib.hid (noT33 p w h)
  clear h
  go_enter Try.func15, Try.ntmps15
  go_wp2_with fail
  refine (HN.out).mono ?_
  rintro e w1 ⟨rfl, rfl⟩
  go_wp2
  go_ret
  exact ⟨rfl, rfl⟩
theorem noT16 (p : Value) (w : World) (h : NoT p w) : Calls Try.prog 16 #[p] w (Same (.int .i64 0) w) := by
  have HN := Lib.hid (noT33 p w h)
  clear h
  go_enter Try.func16, Try.ntmps16
  go_wp2_with fail
  refine (HN.out).mono ?_
  rintro e w1 ⟨rfl, rfl⟩
  go_wp2
  go_ret
  exact ⟨rfl, rfl⟩
theorem noT19 (p : Value) (w : World) (h : NoT p w) : Calls Try.prog 19 #[p] w (Same (.pointer none) w) := by
  have HN := Lib.hid (noT33 p w h)
  clear h
  go_enter Try.func19, Try.ntmps19
  go_wp2_with fail
  refine (HN.out).mono ?_
  rintro e w1 ⟨rfl, rfl⟩
  go_wp2
  go_ret
  exact ⟨rfl, rfl⟩
theorem noT17 (p : Value) (s : ByteArray) (A : Option Addr) (n c : Nat) (w : World) (h : NoT p w) : Calls Try.prog 17 #[p, .agg #[.string s, .slice A n c]] w (Quiet (.int .i64 0) w) := by
  have hb := (Below.refl w.heap.size w).alloc (Nat.le_refl _) (.cells #[.string s, .slice A n c] 41)
  have HN := Lib.hid (noT33 p _ (h.below hb))
  have HB := Lib.hid hb
  clear h hb
  go_enter Try.func17, Try.ntmps17
  go_wp2_with fail
  refine (HN.out).mono ?_
  rintro e w1 ⟨rfl, rfl⟩
  go_wp2
  go_ret
  exact ⟨rfl, HB.out⟩
set_option maxRecDepth 100000 in
set_option maxHeartbeats 8000000 in
theorem none4 (x : Int) (w : World) : Calls Try.prog 4 #[.int .i64 x] w (Quiet (.bool true) w) := by
  have hb0 := ((Below.refl w.heap.size w).alloc (Nat.le_refl _) (.cells #[.pointer none, .int .i64 0, .slice none 0 0] 46)).alloc (by simp) (.cells #[.pointer none, .pointer (some ⟨w.heap.size, 0, none⟩)] 23)
  have kg := (Blk.new w 46 #[.pointer none, .int .i64 0, .slice none 0 0]).alloc (.cells #[.pointer none, .pointer (some ⟨w.heap.size, 0, none⟩)] 23)
  have kr := Blk.new (w.alloc (.cells #[.pointer none, .int .i64 0, .slice none 0 0] 46)) 23 #[.pointer none, .pointer (some ⟨w.heap.size, 0, none⟩)]
  rw [show (w.alloc (.cells #[.pointer none, .int .i64 0, .slice none 0 0] 46)).heap.size = w.heap.size + 1 by simp] at kr
  have hrow : ∀ W, Below ((w.alloc (.cells #[.pointer none, .int .i64 0, .slice none 0 0] 46)).alloc (.cells #[.pointer none, .pointer (some ⟨w.heap.size, 0, none⟩)] 23)).heap.size ((w.alloc (.cells #[.pointer none, .int .i64 0, .slice none 0 0] 46)).alloc (.cells #[.pointer none, .pointer (some ⟨w.heap.size, 0, none⟩)] 23)) W → ∀ k : Nat, k < 2 → ∃ a, W.cell? ⟨w.heap.size + 1, k, none⟩ = some (.pointer a) ∧ NoT (.pointer a) W := fun W hW k hk => by
    have h1 := (kr.below hW).cell k
    rcases k with _ | _ | k
    · exact ⟨none, h1, .inl rfl⟩
    · exact ⟨_, h1, .inr ⟨_, rfl, kg.below hW⟩⟩
    · omega
  have HB0 := Lib.hid hb0
  have HROW := Lib.hid hrow
  clear hb0 kg kr hrow
  go_enter Try.func4, Try.ntmps4
  go_wp2_with fail
  generalize ((w.alloc (.cells #[.pointer none, .int .i64 0, .slice none 0 0] 46)).alloc (.cells #[.pointer none, .pointer (some ⟨w.heap.size, 0, none⟩)] 23)) = w3 at HB0 HROW ⊢
  obtain ⟨rb, hrb⟩ : ∃ y, w.heap.size + 1 = y := ⟨_, rfl⟩
  rw [hrb] at HROW ⊢
  clear hrb
  go_loopw [17] (fun i wr => ∃ k : Nat, k ≤ 2 ∧ i = .int .i64 k ∧ Below w3.heap.size w3 wr) (fun i _ => 2 - (intOf i).toNat)
  case atStart => exact ⟨0, by omega, rfl, Below.refl _ _⟩
  case round =>
    obtain ⟨k, hk, rfl, hbr⟩ := hrel
    have HBR := Lib.hid hbr
    clear hbr
    by_cases hlt : k < 2
    · obtain ⟨a, ha, hno⟩ := HROW.out wr HBR.out k hlt
      have HNO := Lib.hid hno
      clear hno
      have hk2 : (k : Int) < 2 := by omega
      go_wp2_with fail
      refine (noT10 _ x wr HNO.out).mono ?_
      rintro e w4 ⟨rfl, rfl⟩
      go_wp2_with fail
      refine (noT13 _ wr HNO.out).mono ?_
      rintro e w5 ⟨rfl, hb5⟩
      have HN5 := Lib.hid (HNO.out.below hb5)
      have HB5 := Lib.hid (HBR.out.trans (hb5.mono HBR.out.size))
      clear hb5
      go_wp2_with fail
      refine (noT14 _ x w5 HN5.out).mono ?_
      rintro e w6 ⟨rfl, hb6⟩
      have hb7 := hb6.alloc hb6.size (.cells zeroA 52)
      have HN7 := Lib.hid (HN5.out.below hb7)
      have HB7 := Lib.hid (HB5.out.trans (hb7.mono HB5.out.size))
      clear hb6 hb7
      go_wp2_with (refine wpList_store_row rfl 52 (.tmp 10) (.tmp 37) rfl w6.heap.size zeroA rfl rfl 52 zeroA (heap_alloc_new _ _) zeroA_info rfl (by kernel_rfl) ?_; rw [World.setRow_alloc_new])
      generalize w6.alloc (.cells zeroA 52) = w7 at HN7 HB7 ⊢
      go_wp2_with fail
      refine (noT7 _ x w7 HN7.out).mono ?_
      rintro e w8 ⟨rfl, hb8⟩
      have HN8 := Lib.hid (HN7.out.below hb8)
      have HB8 := Lib.hid (HB7.out.trans (hb8.mono HB7.out.size))
      clear hb8
      go_wp2_with fail
      refine (noT9 _ w8 HN8.out).mono ?_
      rintro e w9 ⟨rfl, rfl⟩
      go_wp2_with fail
      refine (noT15 _ w8 HN8.out).mono ?_
      rintro e w9 ⟨rfl, rfl⟩
      go_wp2_with fail
      refine (noT16 _ w8 HN8.out).mono ?_
      rintro e w9 ⟨rfl, rfl⟩
      go_wp2_with fail
      refine (file_any _ _ _ _ _).mono ?_
      rintro e w10 ⟨rfl, hb10⟩
      have hb11 := ((Below.refl w8.heap.size w8).alloc (Nat.le_refl _) (.cells #[.int .i64 1] 3)).trans (hb10.mono (by simp))
      have HN10 := Lib.hid (HN8.out.below hb11)
      have HB10 := Lib.hid (HB8.out.trans (hb11.mono HB8.out.size))
      clear hb10 hb11
      go_wp2_with fail
      refine (noT17 _ _ _ _ _ w10 HN10.out).mono ?_
      rintro e w11 ⟨rfl, hb12⟩
      have HN12 := Lib.hid (HN10.out.below hb12)
      have HB12 := Lib.hid (HB10.out.trans (hb12.mono HB10.out.size))
      clear hb12
      go_wp2_with fail
      refine (noT19 _ w11 HN12.out).mono ?_
      rintro e w12 ⟨rfl, rfl⟩
      go_wp2_with fail
      go_roundw
      case rel => exact ⟨k + 1, by omega, by go_num, HB12.out⟩
      case measure => simp [intOf]; omega
    · obtain ⟨w9, rfl⟩ : ∃ y : World, y = wr := ⟨_, rfl⟩
      have hk2 : ¬ (k : Int) < 2 := by omega
      go_wp2_with fail
      refine (awake12 w9).mono ?_
      rintro e wz ⟨rfl, hbz⟩
      have HBZ := Lib.hid (HB0.out.trans ((HBR.out.trans (hbz.mono HBR.out.size)).mono HB0.out.size))
      clear hbz
      go_wp2
      go_ret
      exact ⟨rfl, HBZ.out⟩
theorem none_law (x : Int) (w : World) : Calls Try.prog 4 #[.int .i64 x] w fun e w' => e = .returned (.bool true) ∧ Below w.heap.size w w' := (none4 x w).mono fun _ _ h => ⟨h.ret, h.low⟩
end Go.Proofs.Ytlhhkmpidnegcaa
