/- Missing blends are refused: walk. -/
import Derived.Test.YtnohfeaamfjimaaVnBlLs
import Derived.OpenShut
namespace Go.Proofs.Ytnohfeaamfjimaa
open Go.RowKit Go.WideShapes Go.ChangeShapes Go.ChangeAt
set_option linter.unusedVariables false
set_option linter.unusedSimpArgs false
set_option maxRecDepth 100000 in
set_option maxHeartbeats 4000000 in
theorem none_law {H : Type} {enc : TypeId × Value → H} {base : Nat} {d : DataW H} {ps : List MemPlace} (v : Value) (bit : Int) (w : World) (hv : Value.okWide Try.prog w .any base 42 v) (hk : DataW.Trod enc Try.prog w 0 (fun _ => true) true 42 v d ps) (hb : (Lit.int .i64 bit).wf = true) :
    Calls Try.prog 5 #[v, .int .i64 bit] w (Quiet (.bool true) w) := by
  obtain ⟨A, n, c, rfl⟩ := okWide_slice Try.underlying42 hv
  clear hv hk hb
  have hz : ∀ W : World, (W.alloc (.cells #[.slice none 0 0, .int .i64 0, .int .i64 0, .int .i64 0, .slice none 0 0] 59)).cell? ⟨W.heap.size, 0, none⟩ = some (.slice none 0 0) := fun W => (Blk.new W 59 _).cell 0
  have HZ := Lib.hid hz
  clear hz
  go_enter Try.func5, Try.ntmps5
  go_wp2_with fail
  have h0 := HZ.out w
  have HB := Lib.hid ((Below.refl w.heap.size w).alloc (Nat.le_refl _) (.cells #[.slice none 0 0, .int .i64 0, .int .i64 0, .int .i64 0, .slice none 0 0] 59))
  obtain ⟨w1, hw1⟩ : ∃ x, w.alloc (.cells #[.slice none 0 0, .int .i64 0, .int .i64 0, .int .i64 0, .slice none 0 0] 59) = x := ⟨_, rfl⟩
  obtain ⟨B, hB⟩ : ∃ x, w.heap.size = x := ⟨_, rfl⟩
  rw [hw1] at h0 HB ⊢
  have HBB := Lib.hid hB
  rw [hB] at h0 ⊢
  clear hw1 hB
  refine (ctxNil A n c w1).mono ?_
  rintro e w2 ⟨rfl, rfl⟩
  go_wp2_with fail
  refine (ctxNo B A n c w2 h0).mono ?_
  rintro e w3 ⟨rfl, rfl⟩
  go_wp2_with fail
  refine (learnNil bit w3).mono ?_
  rintro e w4 ⟨rfl, rfl⟩
  go_wp2_with fail
  refine (learnNo B bit w4 h0).mono ?_
  rintro e w5 ⟨rfl, rfl⟩
  go_wp2_with fail
  refine (guessNil w5).mono ?_
  rintro e w6 ⟨rfl, rfl⟩
  go_wp2_with fail
  refine (guessNo B w6 h0).mono ?_
  rintro e w7 ⟨rfl, rfl⟩
  go_wp2_with fail
  refine (bitsNil w7).mono ?_
  rintro e w8 ⟨rfl, rfl⟩
  go_wp2_with fail
  refine (bitsNo B w8 h0).mono ?_
  rintro e w9 ⟨rfl, rfl⟩
  go_wp2_with fail
  refine (leansNil w9).mono ?_
  rintro e w10 ⟨rfl, rfl⟩
  go_wp2_with fail
  refine (leansNo B w10 h0).mono ?_
  rintro e w11 ⟨rfl, rfl⟩
  go_wp2_with fail
  refine (awake_any w11).mono ?_
  rintro e w12 ⟨rfl, hb12⟩
  have HB12 := Lib.hid hb12
  clear hb12
  go_wp2
  go_ret
  have hbb := HB.out
  exact ⟨rfl, bl_step hbb HB12.out⟩
end Go.Proofs.Ytnohfeaamfjimaa
