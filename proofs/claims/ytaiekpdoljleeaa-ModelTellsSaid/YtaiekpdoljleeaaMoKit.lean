/- Help for models' statements: bytes copied, compared, opened; bytes joined to numbers. No condition. -/
import Derived.Test.YtaiekpdoljleeaaMoPl
import Derived.Laws.BitsAllLaws
namespace Go.Proofs.Ytaiekpdoljleeaa
open Go.RowKit Go.WideShapes Go.ChangeShapes Go.Deep
set_option linter.unusedVariables false
set_option linter.unusedSimpArgs false
set_option linter.unusedVariables false
set_option linter.unusedSimpArgs false
def octs (l : List Int) : List Value := l.map (.int .u8)
theorem octs_one (l : List Int) : ∀ u ∈ octs l, u.oneCell' = true := fun u hu => by
  obtain ⟨x, _, rfl⟩ := List.mem_map.1 hu; rfl
theorem octs_length (l : List Int) : (octs l).length = l.length := by simp [octs]
theorem tBytes : SlT Try.prog 37 5 (.int .u8 0) 1 := ⟨Try.underlying37, by kernel_rfl, rfl⟩
theorem octs_at {l : List Int} {k : Nat} (h : k < l.length) : (octs l)[k]? = some (.int .u8 (l.getD k 0)) := by
  unfold octs
  rw [List.getElem?_map, List.getD_eq_getElem?_getD, List.getElem?_eq_getElem h]
  rfl
theorem or_long (x y : Int) (x0 : 0 ≤ x) (x1 : x ≤ 255) (y0 : 0 ≤ y) (y1 : y ≤ 255) : bits .or .i64 (x * 256) y = x * 256 + y := by
  obtain ⟨a, rfl⟩ := Int.eq_ofNat_of_zero_le x0
  obtain ⟨b, rfl⟩ := Int.eq_ofNat_of_zero_le y0
  have h1 : (BitVec.ofInt 64 ((a : Int) * 256)).toNat = a * 256 := by
    rw [BitVec.toNat_ofInt]; omega
  have h2 : (BitVec.ofInt 64 (b : Int)).toNat = b := by
    rw [BitVec.toNat_ofInt]; omega
  show IntKind.i64.wrap ((BitVec.ofInt 64 ((a : Int) * 256) ||| BitVec.ofInt 64 (b : Int)).toNat : Int) = _
  rw [BitVec.toNat_or, h1, h2, nat_join 8 _ _ (by omega) (by omega), IntKind.wrap_i64]
  omega
set_option linter.unusedVariables false
set_option linter.unusedSimpArgs false
set_option maxRecDepth 100000 in
set_option maxHeartbeats 1000000 in
/-- Same..: are the two lists one? -/
theorem sameB (xs ys : List Int) (A B : Option Addr) (n m c d : Nat) (w : World) (hn : n = xs.length) (hm : m = ys.length) (hA : Rd w A (xs.map (.int .u8))) (hB : Rd w B (ys.map (.int .u8))) (hl : n ≤ 9223372036854775807) :
    Calls Try.prog 24 #[.slice A n c, .slice B m d] w fun e w' => e = .returned (.bool (decide (xs = ys))) ∧ Below w.heap.size w w' := by
  have HA := Lib.hid hA
  have HB := Lib.hid hB
  clear hA hB
  have Hn := Lib.hid hn
  have Hm := Lib.hid hm
  clear hn hm
  by_cases hnm : n = m
  · have hq : ((n : Int) != (m : Int)) = false := by simp [hnm]
    have HQ := Lib.hid hnm
    clear hnm
    go_enter Try.func24, Try.ntmps24
    go_wp2_with fail
    go_loopw [5] (fun i wr => ∃ k : Nat, i = .int .i64 k ∧ k ≤ n ∧ xs.take k = ys.take k ∧ Below w.heap.size w wr) (fun i _ => n - (intOf i).toNat)
    case atStart => exact ⟨0, rfl, by omega, by simp, Below.refl _ _⟩
    case round =>
      obtain ⟨k, rfl, hk, ht, hb⟩ := hrel
      have HT := Lib.hid ht
      clear ht
      by_cases hlt : k < n
      · obtain ⟨x, hx⟩ : ∃ x, xs[k]? = some x := ⟨_, List.getElem?_eq_getElem (by rw [← Hn.out]; exact hlt)⟩
        obtain ⟨y, hy⟩ : ∃ y, ys[k]? = some y := ⟨_, List.getElem?_eq_getElem (by rw [← Hm.out, ← HQ.out]; exact hlt)⟩
        obtain ⟨b1, o1, rfl, _, hc1⟩ := ((HA.out).below hb rfl).at (k := k) (u := .int .u8 x) (by rw [List.getElem?_map, hx]; rfl)
        obtain ⟨b2, o2, rfl, _, hc2⟩ := ((HB.out).below hb rfl).at (k := k) (u := .int .u8 y) (by rw [List.getElem?_map, hy]; rfl)
        have HX := Lib.hid hx
        have HY := Lib.hid hy
        clear hx hy
        have hkm : (k : Int) < (m : Int) := by have := HQ.out; omega
        have hkn : (k : Int) < (n : Int) := by omega
        by_cases hxy : x = y
        · have e : (x != y) = false := by simp [hxy]
          have HE := Lib.hid hxy
          clear hxy
          go_wp2_with fail
          go_quiet (fail)
          go_wp2
          go_roundw
          case rel => exact ⟨k + 1, by go_num, by omega, by rw [List.take_add_one, List.take_add_one, HT.out, HX.out, HY.out, HE.out], below_drewN hb _⟩
          case measure => simp [intOf]; omega
        · have e : (x != y) = true := by simp [hxy]
          have HE := Lib.hid hxy
          clear hxy
          go_wp2_with fail
          go_quiet (fail)
          go_wp2
          go_ret
          refine ⟨ret_bool (decide_eq_false fun he => HE.out ?_).symm, below_drewN hb _⟩
          have := HX.out
          rw [he, HY.out] at this
          exact (Option.some.inj this).symm
      · go_wp2
        go_ret
        refine ⟨ret_bool (decide_eq_true ?_).symm, hb⟩
        have h1 := HT.out
        rwa [List.take_of_length_le (by rw [← Hn.out]; omega), List.take_of_length_le (by rw [← Hm.out, ← HQ.out]; omega)] at h1
  · have hq : ((n : Int) != (m : Int)) = true := by simp; omega
    have HQ := Lib.hid hnm
    clear hnm
    go_enter Try.func24, Try.ntmps24
    go_wp2
    go_ret
    exact ⟨ret_bool (decide_eq_false fun he => HQ.out (by rw [Hn.out, Hm.out, he])).symm, Below.refl _ _⟩
theorem sameB1 (xs : List Int) (A B : Option Addr) (n m c d : Nat) (w : World) (hn : n = xs.length) (hm : m = xs.length) (hA : Rd w A (octs xs)) (hB : Rd w B (octs xs)) (hl : xs.length ≤ 9223372036854775807) :
    Calls Try.prog 24 #[.slice A n c, .slice B m d] w (Quiet (.bool true) w) := by
  have h := sameB xs xs A B n m c d w hn hm hA hB (by omega)
  rw [show decide (xs = xs) = true from decide_eq_true rfl] at h
  exact h.mono fun e w' ⟨h1, h2⟩ => ⟨h1, h2⟩
structure OwnsV (e : TypeId) (xs : List Value) (n : Nat) (w0 : World) (en : Ending) (w : World) : Prop where
  ex : ∃ A c, en = .returned (.slice A n c) ∧ n ≤ c ∧ w.ownsRow w0.heap.size e 1 (.slice A n c) n xs
  low : Below w0.heap.size w0 w
set_option maxHeartbeats 1000000 in
/-- Copy..: the same in memory of its own. -/
theorem copyB (xs : List Int) (A : Option Addr) (n c : Nat) (w : World) (hn : n = xs.length) (hA : Rd w A (xs.map (.int .u8))) (hl : n ≤ 1000000000) :
    Calls Try.prog 28 #[.slice A n c] w (OwnsV 5 (xs.map (.int .u8)) n w) := by
  have HA := Lib.hid hA
  have Hn := Lib.hid hn
  clear hA hn
  go_enter Try.func28, Try.ntmps28
  go_wp2_with fail
  go_loopw [3, 4] (fun v i wr => ∃ k : Nat, k ≤ n ∧ i = .int .i64 k ∧ wr.ownsRow w.heap.size 5 1 v k ((xs.map (.int .u8)).take k) ∧ Below w.heap.size w wr) (fun _ i _ => n - (intOf i).toNat)
  case atStart => exact ⟨0, by omega, rfl, ⟨rfl, .inl ⟨rfl, rfl⟩⟩, Below.refl _ _⟩
  case round =>
    obtain ⟨k, hk, rfl, ho, hb⟩ := hrel
    by_cases hlt : k < n
    · obtain ⟨u, hu⟩ : ∃ u, (xs.map (Value.int .u8))[k]? = some u := ⟨_, List.getElem?_eq_getElem (by rw [List.length_map, ← Hn.out]; exact hlt)⟩
      obtain ⟨b1, o1, rfl, _, hc1⟩ := (HA.out.below hb rfl).at hu
      obtain ⟨z, rfl⟩ : ∃ z, u = .int .u8 z := by
        rw [List.getElem?_map] at hu
        obtain ⟨z, _, hz⟩ := Option.map_eq_some_iff.1 hu
        exact ⟨z, hz.symm⟩
      have HU := Lib.hid hu
      clear hu
      go_wp2_with (at_builtin; refine wpList_app1 tBytes rfl (.tmp 11) (.tmp 16) rfl w.heap.size _ k _ rfl ho _ (by rfl) _ rfl rfl (by omega) (by unfold maxLen; omega) hb.size ?_; intro v2 w2 o2 _ hb2)
      go_roundw
      case rel =>
        refine ⟨k + 1, by omega, by go_num, ?_, hb.trans hb2⟩
        rw [List.take_add_one, HU.out]
        exact o2
      case measure => simp [intOf]; omega
    · have hkn : k = n := by omega
      subst hkn
      go_wp2
      go_ret
      rw [List.take_of_length_le (by rw [List.length_map, ← Hn.out]; omega)] at ho
      obtain ⟨A2, c2, rfl, hc2⟩ := own_slice ho
      exact ⟨⟨A2, c2, rfl, hc2, ho⟩, hb⟩
set_option maxRecDepth 100000 in
theorem open_bytesV {H : Type} {enc : TypeId × Value → H} {base : Nat} {d : DataW H} {ps : List MemPlace} {v : Value} {w : World} (hv : Value.okWide Try.prog w .any base 37 v) (hk : DataW.Trod enc Try.prog w 0 (fun _ => true) true 37 v d ps) :
    ∃ bs A c, v = .slice A bs.length c ∧ Oct bs ∧ Rd w A (octs bs) ∧ bs.length ≤ c ∧ c ≤ maxLen := by
  obtain ⟨a, len, cap, rfl⟩ := okWide_slice Try.underlying37 hv
  obtain ⟨fuel, hf⟩ := hk
  rcases open_ints Try.underlying37 Try.underlying5 (by kernel_rfl) hf with ⟨hcs, _⟩ | ⟨x, l, c, zs, hcs, _, hl, hm, hz, _, hcell, hwz⟩
  · simp [Value.cells] at hcs
    obtain ⟨rfl, rfl, rfl⟩ := hcs
    exact ⟨[], none, 0, rfl, (by intro x hx; cases hx), Rd.nil _ _, Nat.le_refl _, by simp [maxLen]⟩
  · simp [Value.cells] at hcs
    obtain ⟨rfl, rfl, rfl⟩ := hcs
    simp at hz
    refine ⟨zs.take len, some x, cap, by rw [List.length_take]; congr 1; omega, (Oct.of_wf hwz).take len, fun hn => ?_, by rw [List.length_take]; omega, hm⟩
    rw [octs_length, List.length_take] at hn
    obtain ⟨b, off, spot⟩ := x
    have h0 := hcell 0 (by omega)
    have hspot : spot = none := by simpa [Addr.add] using World.cell?_spot h0
    subst hspot
    refine ⟨b, off, rfl, block_lt_of_cell h0, fun i u hu => ?_⟩
    unfold octs at hu
    rw [List.getElem?_map, List.getElem?_take] at hu
    have hi : i < zs.length := by
      rcases Nat.lt_or_ge i zs.length with h | h
      · exact h
      · rw [List.getElem?_eq_none h] at hu; split at hu <;> cases hu
    have := hcell i hi
    rw [addr_add] at this
    rw [this]
    split at hu
    · rw [List.getElem?_eq_getElem hi] at hu
      rw [List.getD_eq_getElem?_getD, List.getElem?_eq_getElem hi]
      simpa using hu
    · cases hu
theorem oct_lit (l : List Int) (h : l.all (fun x => decide (0 ≤ x) && decide (x ≤ 255)) = true) : Oct l := fun x hx => by
  have := (List.all_eq_true.1 h) x hx
  simp only [Bool.and_eq_true, decide_eq_true_eq] at this
  exact this
end Go.Proofs.Ytaiekpdoljleeaa
