/- The fixed examples that every statement of chapter 25 asks ('awake'): true. -/
import Derived.Test.YtjcaahilgobfhaaEqual
namespace Go.Proofs.Ytjcaahilgobfhaa
open Go.RowKit Go.WideShapes
set_option linter.unusedVariables false
theorem ints_eq (l : List Nat) : ints l = (l.map Int.ofNat).map (.int .i64) := by simp [ints]
theorem ofNat_inj {l m : List Nat} : l.map Int.ofNat = m.map Int.ofNat ↔ l = m := by
  constructor
  · intro h
    have : (l.map Int.ofNat).map Int.toNat = (m.map Int.ofNat).map Int.toNat := by rw [h]
    simpa [List.map_map, Function.comp_def] using this
  · rintro rfl; rfl
set_option maxHeartbeats 400000 in
theorem sameI (l m : List Nat) (A B : Option Addr) (n k c d : Nat) (w : World) (hn : n = l.length) (hk : k = m.length) (hA : Rd w A (ints l)) (hB : Rd w B (ints m)) (hl : n ≤ 9223372036854775807) :
    Calls Try.prog 11 #[.slice A n c, .slice B k d] w fun e w' => e = .returned (.bool (decide (l = m))) ∧ Below w.heap.size w w' := by
  rw [ints_eq] at hA hB
  have HA := Lib.hid hA
  have HB := Lib.hid hB
  have Hn := Lib.hid hn
  have Hk := Lib.hid hk
  clear hA hB hn hk
  go_enter Try.func11, Try.ntmps11
  go_wp2_with fail
  refine (equalI _ _ _ _ _ _ _ _ _ (by rw [Hn.out]; simp) (by rw [Hk.out]; simp) HA.out HB.out hl).mono ?_
  rintro e w1 ⟨rfl, hb1⟩
  go_wp2
  go_ret
  exact ⟨ret_bool (by simp only [ofNat_inj]), hb1⟩
def zerosN (n : Nat) : List Int := List.replicate n 0
theorem zeros_oct (n : Nat) : Oct (zerosN n) := fun x hx => by have := List.eq_of_mem_replicate hx; omega
theorem zeros_length (n : Nat) : (zerosN n).length = n := by simp [zerosN]
theorem cut_nil {l : List Nat} (h : Cut [] 0 l) : l = [] := h.uniq (.done (by simp))
theorem next_nil {n : Nat} (h : IsNext [] n) : n = 0 := by have := h.le; simpa using this
theorem cut_short {bs : List Int} {l : List Nat} (h0 : 0 < bs.length) (h1 : bs.length < 64) (h : Cut bs 0 l) : l = [bs.length] := by
  refine h.uniq ?_
  have hN : IsNext (bs.drop 0) bs.length := ⟨by simp, by omega, fun _ => h0, fun k _ hk hl => by have := hl.1; omega, .inl (by simp)⟩
  have := Cut.more (i := 0) h0 hN (.done (by omega))
  simpa using this
def zs (n : Nat) : Array Value := (octs (zerosN n)).toArray
theorem rd_new (w : World) (l : List Value) (e : TypeId) : Rd (w.alloc (.cells l.toArray e)) (some ⟨w.heap.size, 0, none⟩) l := fun _ => by
  refine ⟨_, 0, rfl, by simp, fun i u hu => ?_⟩
  rw [cell_of_row _ _ _ _ _ _ (heap_alloc_new _ _), Nat.zero_add]
  simpa using hu
theorem rd_zs (w : World) (n : Nat) : Rd (w.alloc (.cells (zs n) 5)) (some ⟨w.heap.size, 0, none⟩) (octs (zerosN n)) := rd_new w _ 5
theorem rd_63 (w : World) : Rd (w.alloc (.cells #[.int .i64 63] 3)) (some ⟨w.heap.size, 0, none⟩) (ints [63]) := rd_new w [.int .i64 63] 3
theorem rd_63b (w : World) (o : Obj) : Rd ((w.alloc o).alloc (.cells #[.int .i64 63] 3)) (some ⟨w.heap.size + 1, 0, none⟩) (ints [63]) := by
  have := rd_63 (w.alloc o)
  simpa using this
theorem rd_zsb (w : World) (o : Obj) (n : Nat) : Rd ((w.alloc o).alloc (.cells (zs n) 5)) (some ⟨w.heap.size + 1, 0, none⟩) (octs (zerosN n)) := by
  have := rd_zs (w.alloc o) n
  simpa using this
/-- Cuts of what reads as bytes: the list, of a slice that reads as it. -/
structure CutsTo (bs : List Int) (w0 : World) (l : List Nat) (e : Ending) (w : World) : Prop where
  ex : ∃ A c, e = .returned (.slice A l.length c) ∧ Rd w A (ints l)
  low : Below w0.heap.size w0 w
theorem cuts_to (bs : List Int) (A : Option Addr) (n c : Nat) (w : World) (l : List Nat) (hl : Cut bs 0 l) (hn : n = bs.length) (ho : Oct bs) (hr : Rd w A (octs bs)) (hm : n ≤ 1000000) (hc : n ≤ c) (hcm : c ≤ maxLen) :
    Calls Try.prog 12 #[.slice A n c] w (CutsTo bs w l) := by
  subst hn
  refine (cuts_any bs A c w ho hr hm hc hcm).mono ?_
  rintro e w' ⟨⟨v, l', rfl, hl', _, hown⟩, hb⟩
  obtain rfl := hl.uniq hl'
  obtain ⟨A', c', rfl, _⟩ := own_slice hown
  exact ⟨⟨A', c', rfl, Rd.of_own hown⟩, hb⟩
theorem ref_to (bs : List Int) (A : Option Addr) (n c : Nat) (w : World) (l : List Nat) (hl : Cut bs 0 l) (hn : n = bs.length) (ho : Oct bs) (hr : Rd w A (octs bs)) (hm : n ≤ 1000000) :
    Calls Try.prog 13 #[.slice A n c] w (CutsTo bs w l) := by
  subst hn
  refine (refCuts_any bs A c w ho hr hm).mono ?_
  rintro e w' ⟨⟨v, l', rfl, hl', _, hown⟩, hb⟩
  obtain rfl := hl.uniq hl'
  obtain ⟨A', c', rfl, _⟩ := own_slice hown
  exact ⟨⟨A', c', rfl, Rd.of_own hown⟩, hb⟩
theorem cut_len {bs : List Int} {i : Nat} {l : List Nat} (h : Cut bs i l) : l.length ≤ bs.length - i := by
  induction h with
  | done _ => simp
  | more hi hn _ ih =>
    have := hn.pos (by simp; omega)
    simp only [List.length_cons]
    omega
theorem cut_ex (bs : List Int) : ∃ l, Cut bs 0 l := by
  have go : ∀ (n i : Nat), bs.length - i ≤ n → ∃ l, Cut bs i l := by
    intro n
    induction n with
    | zero => exact fun i h => ⟨[], .done (by omega)⟩
    | succ n ih =>
      intro i h
      by_cases hi : i < bs.length
      · obtain ⟨k, hk⟩ := next_ex (bs.drop i)
        have := hk.pos (by simp; omega)
        obtain ⟨l, hl⟩ := ih (i + k) (by omega)
        exact ⟨_, .more hi hk hl⟩
      · exact ⟨[], .done (by omega)⟩
  exact go _ 0 (Nat.le_refl _)
set_option maxRecDepth 100000 in
set_option maxHeartbeats 4000000 in
theorem cutAwake_any (w : World) :
    Calls Try.prog 15 #[] w fun e w' => e = .returned (.bool true) ∧ Below w.heap.size w w' := by
  have mk63 : ∀ w : World, (Instr.makeSlice 22 (.int .i64 63) (.int .i64 63)).run Try.prog w = .ok (.slice (some ⟨w.heap.size, 0, none⟩) 63 63) (w.alloc (.cells (zs 63) 5)) := fun _ => by kernel_rfl
  have mk300 : ∀ w : World, (Instr.makeSlice 22 (.int .i64 300) (.int .i64 300)).run Try.prog w = .ok (.slice (some ⟨w.heap.size, 0, none⟩) 300 300) (w.alloc (.cells (zs 300) 5)) := fun _ => by kernel_rfl
  obtain ⟨l3, hl3⟩ := cut_ex (zerosN 300)
  obtain ⟨l0, hl0⟩ := cut_ex (zerosN 63)
  have e63 := cut_short (by simp [zerosN]) (by simp [zerosN]) hl0
  rw [zeros_length] at e63
  have H3 := Lib.hid hl3
  subst e63
  have H0 := Lib.hid hl0
  clear hl3 hl0
  go_enter Try.func15, Try.ntmps15
  go_wp2_with fail
  have z63 : 63 = (zerosN 63).length := (zeros_length 63).symm
  have z300 : 300 = (zerosN 300).length := (zeros_length 300).symm
  have Z63 := Lib.hid z63
  have Z300 := Lib.hid z300
  clear z63 z300
  go_region_with (first
    | (go_at_call_of 12 (Value.slice none 0 0); refine (cuts_to [] none 0 0 _ [] (.done (by simp)) rfl (by intro x hx; cases hx) (Rd.nil _ _) (by omega) (by omega) (by simp [maxLen])).mono ?_; rintro e w1 ⟨⟨A1, c1, rfl, hr1⟩, hb1⟩)
    | (go_at_call 14; refine (next_at [] none 0 0 _ rfl (by intro x hx; cases hx) (Rd.nil _ _) (by simp [maxLen])).mono ?_; rintro e w2 ⟨⟨n2, rfl, hn2⟩, hb2⟩; obtain rfl := next_nil hn2)
    | (go_at_call 12; ((with_reducible refine (cuts_to (zerosN 63) _ 63 63 _ [63] H0.out Z63.out (zeros_oct 63) (by first | exact rd_zs _ _ | exact (rd_zs _ _).alloc _ | exact rd_zsb _ _ _ | exact (rd_zsb _ _ _).alloc _) (by omega) (by omega) (by simp [maxLen])).mono ?_); rintro e w3 ⟨⟨A3, c3, rfl, hr3⟩, hb3⟩))
    | (go_at_call 11; ((with_reducible refine (sameI [63] [63] A3 _ _ _ _ _ _ (by simp) (by simp) (by first | exact hr3 | exact hr3.alloc _) (by first | exact rd_63 _ | exact ((rd_63 _).below hb3 rfl) | exact (((rd_63 _).alloc _).below hb3 rfl) | exact rd_63b _ _ | exact ((rd_63b _ _).below hb3 rfl)) (by simp)).mono ?_); rintro e w4 ⟨rfl, hb4⟩))
    | (go_at_call 12; ((with_reducible refine (cuts_to (zerosN 300) _ 300 300 _ l3 H3.out Z300.out (zeros_oct 300) (by first | exact rd_zs _ _ | exact (rd_zs _ _).alloc _ | exact rd_zsb _ _ _ | exact (rd_zsb _ _ _).alloc _) (by omega) (by omega) (by simp [maxLen])).mono ?_); rintro e w5 ⟨⟨A5, c5, rfl, hr5⟩, hb5⟩))
    | (go_at_call 13; ((with_reducible refine (ref_to (zerosN 300) _ 300 300 _ l3 H3.out Z300.out (zeros_oct 300) (by first | exact rd_zs _ _ | exact ((rd_zs _ _).below hb5 rfl) | exact (((rd_zs _ _).alloc _).below hb5 rfl) | exact ((rd_zsb _ _ _).below hb5 rfl)) (by omega)).mono ?_); rintro e w6 ⟨⟨A6, c6, rfl, hr6⟩, hb6⟩))
    | (go_at_call 11; ((with_reducible refine (sameI l3 l3 A5 A6 _ _ _ _ _ (by simp) (by simp) (by first | exact hr5.below hb6 rfl | exact (hr5.alloc _).below hb6 rfl) hr6 (by have := cut_len H3.out; rw [zeros_length] at this; omega)).mono ?_); rintro e w7 ⟨rfl, hb7⟩)))
  all_goals
    go_wp2
    go_ret
    have k1 : Below w.heap.size w w1 := of_drew hb1
    have k2 := ch0 k1 hb2
    have k3 : Below w.heap.size w w3 := by first | exact ch0 k2 hb3 | exact ch1 k2 hb3 | exact ch2 k2 hb3
    have k4 : Below w.heap.size w w4 := by first | exact ch0 k3 hb4 | exact ch1 k3 hb4 | exact ch2 k3 hb4
    have k5 : Below w.heap.size w w5 := by first | exact ch0 k4 hb5 | exact ch1 k4 hb5 | exact ch2 k4 hb5
    have k6 : Below w.heap.size w w6 := by first | exact ch0 k5 hb6 | exact ch1 k5 hb6 | exact ch2 k5 hb6
    have k7 : Below w.heap.size w w7 := by first | exact ch0 k6 hb7 | exact ch1 k6 hb7 | exact ch2 k6 hb7
    exact ⟨rfl, k7⟩
end Go.Proofs.Ytjcaahilgobfhaa
