/- A machine's cells; large: the walk. Condition: none. · power, of both: walks. Condition: at most 5000. · right, of both: walks. Condition: memories of at most 5000 places. · quillpresskit's Same.. and Copy.., slices.Clone, over words and bytes: walks. Condition: at most 10^9 elements. -/
import Derived.Test.YtebmgladdgmmeaaVdSt
import Derived.Deep.MidRow
import Derived.Deep.WholeRow
namespace Go.Proofs.Ytebmgladdgmmeaa
open Go.RowKit Go.WideShapes
set_option linter.unusedVariables false
set_option linter.unusedSimpArgs false
/-- A machine, but for its memories. -/
structure Mc where
  a : Int
  b : Int
  c : Int
  d : Int
  f : Bool
  r : List Int
def U32 (x : Int) : Prop := 0 ≤ x ∧ x ≤ 4294967295
structure Mc.ok (m : Mc) : Prop where
  a : U32 m.a
  b : U32 m.b
  c : U32 m.c
  d : U32 m.d
  len : m.r.length = 256
  r : ∀ x ∈ m.r, U32 x
def Mc.list (m : Mc) (vh vm : Value) : List Value := [.int .u32 m.a, .int .u32 m.b, .int .u32 m.c, .int .u32 m.d, .bool m.f] ++ (m.r.map (.int .u32) ++ [vh, vm])
def Mc.cells (m : Mc) (vh vm : Value) : Array Value := (m.list vh vm).toArray
theorem Mc.size {m : Mc} (h : m.ok) (vh vm : Value) : (m.cells vh vm).size = 263 := by
  simp [Mc.cells, Mc.list, h.len]
theorem size50 : (Try.prog.info? 50).map (·.size) = some 263 := by kernel_rfl
/-- A box that holds a machine. -/
structure MBox (w : World) (g : Nat) (m : Mc) (vh vm : Value) : Prop where
  blk : Blk w g 50 (m.cells vh vm)
  ok : m.ok
section
variable {w w' : World} {g : Nat} {m : Mc} {vh vm : Value}
theorem MBox.c0 (h : MBox w g m vh vm) : w.cell? ⟨g, 0, none⟩ = some (.int .u32 m.a) := by rw [h.blk.cell 0]; rfl
theorem MBox.c1 (h : MBox w g m vh vm) : w.cell? ⟨g, 1, none⟩ = some (.int .u32 m.b) := by rw [h.blk.cell 1]; rfl
theorem MBox.c2 (h : MBox w g m vh vm) : w.cell? ⟨g, 2, none⟩ = some (.int .u32 m.c) := by rw [h.blk.cell 2]; rfl
theorem MBox.c3 (h : MBox w g m vh vm) : w.cell? ⟨g, 3, none⟩ = some (.int .u32 m.d) := by rw [h.blk.cell 3]; rfl
theorem MBox.c4 (h : MBox w g m vh vm) : w.cell? ⟨g, 4, none⟩ = some (.bool m.f) := by rw [h.blk.cell 4]; rfl
theorem MBox.cr (h : MBox w g m vh vm) {k : Nat} {x : Int} (hx : m.r[k]? = some x) : w.cell? ⟨g, 5 + k, none⟩ = some (.int .u32 x) := by
  have hk : k < m.r.length := (List.getElem?_eq_some_iff.1 hx).1
  rw [h.blk.cell (5 + k)]
  simp only [Mc.cells, Mc.list, List.getElem?_toArray]
  rw [List.getElem?_append_right (by simp), List.getElem?_append_left (by simp; omega)]
  simp [hx]
theorem MBox.ch (h : MBox w g m vh vm) : w.cell? ⟨g, 261, none⟩ = some vh := by
  rw [h.blk.cell 261]
  simp only [Mc.cells, Mc.list, List.getElem?_toArray]
  rw [List.getElem?_append_right (by simp), List.getElem?_append_right (by simp [h.ok.len])]
  simp [h.ok.len]
theorem MBox.cm (h : MBox w g m vh vm) : w.cell? ⟨g, 262, none⟩ = some vm := by
  rw [h.blk.cell 262]
  simp only [Mc.cells, Mc.list, List.getElem?_toArray]
  rw [List.getElem?_append_right (by simp), List.getElem?_append_right (by simp [h.ok.len])]
  simp [h.ok.len]
theorem MBox.fz (h : MBox w g m vh vm) (k : Nat) : w.frozen? ⟨g, k, none⟩ = false := h.blk.frozen k
theorem MBox.lt (h : MBox w g m vh vm) : g < w.heap.size := h.blk.lt
theorem MBox.below (h : MBox w g m vh vm) (hb : Below w.heap.size w w') : MBox w' g m vh vm := ⟨h.blk.below hb, h.ok⟩
theorem MBox.range (h : MBox w g m vh vm) : w.rangeAt g 0 (m.list vh vm) := fun j v hv => by
  rw [Nat.zero_add, h.blk.cell j]
  simpa [Mc.cells] using hv
theorem MBox.new (h : m.ok) (w : World) (vh vm : Value) : MBox (w.alloc (.cells (m.cells vh vm) 50)) w.heap.size m vh vm := ⟨Blk.new w 50 _, h⟩
end
set_option maxRecDepth 100000 in
set_option maxHeartbeats 2000000 in
theorem large_any (m : Mc) (hm : m.ok) (Ah Am : Option Addr) (nh ch nm cm : Nat) (w : World) :
    Calls Try.prog 20 #[.agg (m.cells (.slice Ah nh ch) (.slice Am nm cm))] w (Quiet (.bool (decide (300 < nh) || decide (5000 < nm))) w) := by
  have hbx := MBox.new hm w (.slice Ah nh ch) (.slice Am nm cm)
  have e1 := hbx.ch
  have e2 := hbx.cm
  have hal := Lib.hid ((Below.refl w.heap.size w).alloc (Nat.le_refl _) (.cells (m.cells (.slice Ah nh ch) (.slice Am nm cm)) 50))
  clear hbx
  have i1 : decide ((300 : Int) < (nh : Int)) = decide (300 < nh) := by
    by_cases e : 300 < nh
    · rw [decide_eq_true e]; simp; omega
    · rw [decide_eq_false e]; simp; omega
  have i2 : decide ((5000 : Int) < (nm : Int)) = decide (5000 < nm) := by
    by_cases e : 5000 < nm
    · rw [decide_eq_true e]; simp; omega
    · rw [decide_eq_false e]; simp; omega
  generalize m.cells (.slice Ah nh ch) (.slice Am nm cm) = cs at *
  cases hz : decide (300 < nh)
  · go_enter Try.func20, Try.ntmps20
    go_wp2_with fail
    go_ret
    exact ⟨by simp, hal.out⟩
  · go_enter Try.func20, Try.ntmps20
    go_wp2_with fail
    go_ret
    exact ⟨by simp, hal.out⟩
end Go.Proofs.Ytebmgladdgmmeaa
namespace Go.Proofs.Ytebmgladdgmmeaa
open Go.RowKit Go.WideShapes
set_option linter.unusedVariables false
set_option linter.unusedSimpArgs false
def powF (n most : Nat) : Bool := (List.range (most + 1)).any fun k => n == 2 ^ k
def lgF (n : Nat) : Nat := ((List.range 13).filter fun k => decide (2 ^ k ≤ n)).length
theorem and_table : (List.range 5001).all (fun n => n == 0 || ((bits BinOp.and IntKind.i64 (n : Int) ((n : Int) - 1) == 0) == powF n 12)) = true := by decide +kernel
theorem and_pow {n : Nat} (h0 : 1 ≤ n) (h1 : n ≤ 5000) : (bits BinOp.and IntKind.i64 (n : Int) ((n : Int) - 1) == 0) = powF n 12 := by
  have h := List.all_eq_true.1 and_table n (List.mem_range.2 (by omega))
  simp only [Bool.or_eq_true, beq_iff_eq] at h
  rcases h with h | h
  · omega
  · exact h
theorem pow_cases {n : Nat} (h : powF n 12 = true) : n = 1 ∨ n = 2 ∨ n = 4 ∨ n = 8 ∨ n = 16 ∨ n = 32 ∨ n = 64 ∨ n = 128 ∨ n = 256 ∨ n = 512 ∨ n = 1024 ∨ n = 2048 ∨ n = 4096 := by
  unfold powF at h
  obtain ⟨k, hk, e⟩ := List.any_eq_true.1 h
  have hk := List.mem_range.1 hk
  have e := eq_of_beq e
  subst e
  rcases (show k = 0 ∨ k = 1 ∨ k = 2 ∨ k = 3 ∨ k = 4 ∨ k = 5 ∨ k = 6 ∨ k = 7 ∨ k = 8 ∨ k = 9 ∨ k = 10 ∨ k = 11 ∨ k = 12 by omega) with rfl | rfl | rfl | rfl | rfl | rfl | rfl | rfl | rfl | rfl | rfl | rfl | rfl <;> simp
theorem pow_less {n most : Nat} (hm : most ≤ 12) (h : powF n 12 = false) : powF n most = false := by
  unfold powF at h ⊢
  rw [List.any_eq_false] at h ⊢
  intro k hk
  have hk := List.mem_range.1 hk
  exact h k (List.mem_range.2 (by omega))
set_option maxRecDepth 100000 in
set_option maxHeartbeats 4000000 in
theorem power_zero (most : Nat) (w : World) : Calls Try.prog 73 #[.int .i64 0, .int .i64 most] w (Quiet (.bool false) w) := by
  go_enter Try.func73, Try.ntmps73
  go_wp2_with fail
  go_ret
  exact ⟨rfl, Below.refl _ _⟩
set_option maxRecDepth 100000 in
set_option maxHeartbeats 4000000 in
theorem power_no (n most : Nat) (hn : 1 ≤ n) (hn2 : n ≤ 5000) (hp : powF n 12 = false) (w : World) :
    Calls Try.prog 73 #[.int .i64 n, .int .i64 most] w (Quiet (.bool false) w) := by
  have h1 : (1 : Int) ≤ (n : Int) := by omega
  have h2 : (n : Int) ≤ 5000 := by omega
  have h3 : decide ((0 : Int) < (n : Int)) = true := by simp; omega
  have h4 : decide (0 < n) = true := by simp; omega
  have h5 := and_pow hn hn2
  rw [hp] at h5
  have h6 : ¬ bits BinOp.and IntKind.i64 (n : Int) ((n : Int) - 1) = 0 := by simpa using h5
  go_enter Try.func73, Try.ntmps73
  go_wp2_with fail
  go_ret
  exact ⟨by simp [h5], Below.refl _ _⟩
set_option maxRecDepth 100000 in
set_option maxHeartbeats 16000000 in
theorem len64_any (n : Nat) (hp : powF n 12 = true) (w : World) : Calls Try.prog 92 #[.int .u64 n] w (Same (.int .i64 ((lgF n : Nat) : Int)) w) := by
  rcases pow_cases hp with rfl | rfl | rfl | rfl | rfl | rfl | rfl | rfl | rfl | rfl | rfl | rfl | rfl
  all_goals
    clear hp
    go_enter Try.func92, Try.ntmps92
    go_wp2_with fail
    go_ret
    exact ⟨by kernel_rfl, rfl⟩
set_option maxRecDepth 100000 in
theorem len_any (n : Nat) (hp : powF n 12 = true) (w : World) : Calls Try.prog 84 #[.int .u64 n] w (Same (.int .i64 ((lgF n : Nat) : Int)) w) := by
  have H := Lib.hid (len64_any n hp w)
  obtain ⟨v, hv⟩ : ∃ v, ((lgF n : Nat) : Int) = v := ⟨_, rfl⟩
  rw [hv] at H ⊢
  clear hp hv
  go_enter Try.func84, Try.ntmps84
  go_wp2_with fail
  refine H.out.mono ?_
  rintro e w1 ⟨rfl, rfl⟩
  go_wp2_with fail
  go_ret
  exact ⟨rfl, rfl⟩
set_option maxRecDepth 100000 in
set_option maxHeartbeats 16000000 in
theorem power_yes (n most : Nat) (hp : powF n 12 = true) (hm : most = 8 ∨ most = 12) (w : World) :
    Calls Try.prog 73 #[.int .i64 n, .int .i64 most] w (Quiet (.bool (powF n most)) w) := by
  have H := Lib.hid (len_any n hp)
  rcases pow_cases hp with rfl | rfl | rfl | rfl | rfl | rfl | rfl | rfl | rfl | rfl | rfl | rfl | rfl <;> rcases hm with rfl | rfl
  all_goals
    clear hp
    go_enter Try.func73, Try.ntmps73
    go_wp2_with fail
    refine (H.out _).mono ?_
    rintro e w1 ⟨rfl, rfl⟩
    go_wp2_with fail
    go_ret
    exact ⟨rfl, Below.refl _ _⟩
theorem power_any (n most : Nat) (hn : n ≤ 5000) (hm : most = 8 ∨ most = 12) (w : World) : Calls Try.prog 73 #[.int .i64 n, .int .i64 most] w (Quiet (.bool (powF n most)) w) := by
  rcases Nat.eq_zero_or_pos n with rfl | h0
  · rw [show powF 0 most = false by rcases hm with rfl | rfl <;> decide]
    exact power_zero most w
  · cases hp : powF n 12
    · rw [pow_less (by omega) hp]
      exact power_no n most h0 hn hp w
    · exact power_yes n most hp hm w
end Go.Proofs.Ytebmgladdgmmeaa
namespace Go.Proofs.Ytebmgladdgmmeaa
open Go.RowKit Go.WideShapes
set_option linter.unusedVariables false
set_option linter.unusedSimpArgs false
def rightM (nh nm : Nat) : Bool := powF nh 8 && powF nm 12
set_option maxRecDepth 100000 in
set_option maxHeartbeats 4000000 in
theorem right_vm (m : Mc) (g : Nat) (Ah Am : Option Addr) (nh ch nm cm : Nat) (w : World) (hb : MBox w g m (.slice Ah nh ch) (.slice Am nm cm)) (hh : nh ≤ 5000) (hm : nm ≤ 5000) :
    Calls Try.prog 53 #[.pointer (some ⟨g, 0, none⟩)] w (Quiet (.bool (rightM nh nm)) w) := by
  have e1 := hb.ch
  have hb2 := Lib.hid hb
  have H1 := Lib.hid (power_any nh 8 hh (.inl rfl))
  have H2 := Lib.hid (power_any nm 12 hm (.inr rfl))
  unfold rightM
  obtain ⟨x, hx⟩ : ∃ x, powF nh 8 = x := ⟨_, rfl⟩
  obtain ⟨y, hy⟩ : ∃ y, powF nm 12 = y := ⟨_, rfl⟩
  rw [hx] at H1
  rw [hy] at H2
  rw [hx, hy]
  clear hb hx hy
  cases x
  · go_enter Try.func53, Try.ntmps53
    go_wp2_with fail
    refine (H1.out _).mono ?_
    rintro e w1 ⟨rfl, hb1⟩
    have K1 := Lib.hid hb1
    clear hb1
    go_wp2_with fail
    go_ret
    exact ⟨rfl, K1.out⟩
  · go_enter Try.func53, Try.ntmps53
    go_wp2_with fail
    refine (H1.out _).mono ?_
    rintro e w1 ⟨rfl, hb1⟩
    have e2 := (hb2.out.below hb1).cm
    have K1 := Lib.hid hb1
    clear hb1
    go_wp2_with fail
    refine (H2.out _).mono ?_
    rintro e w2 ⟨rfl, hb1⟩
    have K2 := Lib.hid (ch0 K1.out hb1)
    clear hb1
    go_wp2_with fail
    go_ret
    exact ⟨rfl, K2.out⟩
structure AtPw (n M : Nat) (w0 : World) (p i : Value) (w : World) : Prop where
  ex : ∃ k : Nat, k ≤ M + 1 ∧ i = .int .i64 k ∧ p = .int .i64 ((2 ^ k : Nat) : Int) ∧ (List.range k).any (fun j => n == 2 ^ j) = false
  same : w0 = w
set_option maxRecDepth 100000 in
set_option maxHeartbeats 4000000 in
theorem power_ref (n most : Nat) (hm : most ≤ 12) (w : World) : Calls Try.prog 77 #[.int .i64 n, .int .i64 most] w (Quiet (.bool (powF n most)) w) := by
  have hst : AtPw n most w (.int .i64 1) (.int .i64 0) w := ⟨⟨0, by omega, rfl, rfl, rfl⟩, rfl⟩
  have HST := Lib.hid hst
  clear hst
  go_enter Try.func77, Try.ntmps77
  go_wp2_with fail
  go_loopw [5, 6] (fun p i wr => AtPw n most w p i wr) (fun _ i _ => most + 1 - (intOf i).toNat)
  case atStart => exact HST.out
  case round =>
    obtain ⟨⟨k, hk, rfl, rfl, hno⟩, rfl⟩ := hrel
    clear HST
    by_cases hkm : k ≤ most
    · have g1 : decide ((k : Int) ≤ (most : Int)) = true := by simp; omega
      have g1n : decide (k ≤ most) = true := by simp; omega
      have hpw : 2 ^ k ≤ 4096 := by
        have := Nat.pow_le_pow_right (n := 2) (by omega) (show k ≤ 12 by omega)
        simpa using this
      obtain ⟨p, hp⟩ : ∃ p, 2 ^ k = p := ⟨_, rfl⟩
      rw [hp] at hpw ⊢
      have HP := Lib.hid hp
      have HNO := Lib.hid hno
      have hpI : (p : Int) ≤ 4096 := by omega
      clear hno hp
      by_cases hnp : n = p
      · subst hnp
        have g2 : ((n : Int) == (n : Int)) = true := by simp
        go_wp2_with fail
        go_ret
        refine ⟨?_, Below.refl _ _⟩
        have : powF n most = true := by
          unfold powF
          rw [List.any_eq_true]
          exact ⟨k, List.mem_range.2 (by omega), by rw [HP.out]; simp⟩
        rw [this]
        rfl
      · have g2 : ((n : Int) == (p : Int)) = false := by simpa using (fun h => hnp (by omega))
        have hend : AtPw n most w (.int .i64 ((p : Int) * 2)) (.int .i64 ((k : Int) + 1)) w := ⟨⟨k + 1, by omega, by go_num, by rw [Nat.pow_succ, HP.out]; simp, by
          rw [List.range_succ, List.any_append, HNO.out]
          simp [HP.out, hnp]⟩, rfl⟩
        have HEND := Lib.hid hend
        clear hend
        go_wp2_with fail
        refine ⟨HEND.out, ?_⟩
        simp [intOf]
        omega
    · obtain rfl : k = most + 1 := by omega
      have hpf : powF n most = false := hno
      have HPF := Lib.hid hpf
      clear hpf hno
      have g1 : decide (((most : Int) + 1) ≤ (most : Int)) = false := by simp; omega
      have g1n : decide (most + 1 ≤ most) = false := by simp
      go_wp2_with fail
      go_ret
      refine ⟨?_, Below.refl _ _⟩
      rw [HPF.out]
      rfl
set_option maxRecDepth 100000 in
set_option maxHeartbeats 4000000 in
theorem right_ref (m : Mc) (hok : m.ok) (Ah Am : Option Addr) (nh ch nm cm : Nat) (w : World) :
    Calls Try.prog 56 #[.agg (m.cells (.slice Ah nh ch) (.slice Am nm cm))] w (Quiet (.bool (rightM nh nm)) w) := by
  have hb := MBox.new hok w (.slice Ah nh ch) (.slice Am nm cm)
  have e1 := hb.ch
  have hb2 := Lib.hid hb
  have hal := Lib.hid ((Below.refl w.heap.size w).alloc (Nat.le_refl _) (.cells (m.cells (.slice Ah nh ch) (.slice Am nm cm)) 50))
  have H1 := Lib.hid (power_ref nh 8 (by omega))
  have H2 := Lib.hid (power_ref nm 12 (by omega))
  unfold rightM
  obtain ⟨x, hx⟩ : ∃ x, powF nh 8 = x := ⟨_, rfl⟩
  obtain ⟨y, hy⟩ : ∃ y, powF nm 12 = y := ⟨_, rfl⟩
  rw [hx] at H1
  rw [hy] at H2
  rw [hx, hy]
  clear hb hx hy
  have hcs := fun w1 (hb1 : Below (w.alloc (.cells (m.cells (.slice Ah nh ch) (.slice Am nm cm)) 50)).heap.size _ w1) => (hb2.out.below hb1).cm
  have HCS := Lib.hid hcs
  clear hcs hb2
  generalize hcc : m.cells (.slice Ah nh ch) (.slice Am nm cm) = cs at e1 HCS hal ⊢
  clear hcc
  cases x
  · go_enter Try.func56, Try.ntmps56
    go_wp2_with fail
    refine (H1.out _).mono ?_
    rintro e w1 ⟨rfl, hb1⟩
    have K1 := Lib.hid (ch0 hal.out hb1)
    clear hb1
    go_wp2_with fail
    go_ret
    exact ⟨rfl, K1.out⟩
  · go_enter Try.func56, Try.ntmps56
    go_wp2_with fail
    refine (H1.out _).mono ?_
    rintro e w1 ⟨rfl, hb1⟩
    have e2 := HCS.out w1 hb1
    have K1 := Lib.hid (ch0 hal.out hb1)
    clear hb1
    go_wp2_with fail
    refine (H2.out _).mono ?_
    rintro e w2 ⟨rfl, hb1⟩
    have K2 := Lib.hid (ch0 K1.out hb1)
    clear hb1
    go_wp2_with fail
    go_ret
    exact ⟨rfl, K2.out⟩
end Go.Proofs.Ytebmgladdgmmeaa
namespace Go.Proofs.Ytebmgladdgmmeaa
open Go.RowKit Go.WideShapes
set_option linter.unusedVariables false
set_option linter.unusedSimpArgs false
theorem tW : SlT Try.prog 47 45 (.int .u32 0) 4 := ⟨Try.underlying47, by kernel_rfl, rfl⟩
theorem tB : SlT Try.prog 48 5 (.int .u8 0) 1 := ⟨Try.underlying48, by kernel_rfl, rfl⟩
/-- What is handed back: a row of the call's own. -/
structure OwnsV (e : TypeId) (xs : List Value) (n : Nat) (w0 : World) (en : Ending) (w : World) : Prop where
  ex : ∃ A c, en = .returned (.slice A n c) ∧ n ≤ c ∧ w.ownsRow w0.heap.size e 1 (.slice A n c) n xs
  low : Below w0.heap.size w0 w
set_option maxRecDepth 100000 in
set_option maxHeartbeats 1000000 in
/-- Same..: are the two lists one? -/
theorem sameBytes_any (xs ys : List Int) (A B : Option Addr) (n m c d : Nat) (w : World) (hn : n = xs.length) (hm : m = ys.length) (hA : Rd w A (xs.map (.int .u8))) (hB : Rd w B (ys.map (.int .u8))) (hl : n ≤ 9223372036854775807) :
    Calls Try.prog 33 #[.slice A n c, .slice B m d] w fun e w' => e = .returned (.bool (decide (xs = ys))) ∧ Below w.heap.size w w' := by
  have HA := Lib.hid hA
  have HB := Lib.hid hB
  clear hA hB
  have Hn := Lib.hid hn
  have Hm := Lib.hid hm
  clear hn hm
  by_cases hnm : n = m
  · have hq : ((n : Int) != (m : Int)) = false := by simp [hnm]
    have HQ := Lib.hid hnm
    clear hnm
    go_enter Try.func33, Try.ntmps33
    go_wp2_with fail
    go_loopw [5] (fun i wr => ∃ k : Nat, i = .int .i64 k ∧ k ≤ n ∧ xs.take k = ys.take k ∧ Below w.heap.size w wr) (fun i _ => n - (intOf i).toNat)
    case atStart => exact ⟨0, rfl, by omega, by simp, Below.refl _ _⟩
    case round =>
      obtain ⟨k, rfl, hk, ht, hb⟩ := hrel
      have HT := Lib.hid ht
      clear ht
      by_cases hlt : k < n
      · obtain ⟨x, hx⟩ : ∃ x, xs[k]? = some x := ⟨_, List.getElem?_eq_getElem (by rw [← Hn.out]; exact hlt)⟩
        obtain ⟨y, hy⟩ : ∃ y, ys[k]? = some y := ⟨_, List.getElem?_eq_getElem (by rw [← Hm.out, ← HQ.out]; exact hlt)⟩
        obtain ⟨b1, o1, rfl, _, hc1⟩ := ((HA.out).below hb rfl).at (k := k) (u := .int .u8 x) (by rw [List.getElem?_map, hx]; rfl)
        obtain ⟨b2, o2, rfl, _, hc2⟩ := ((HB.out).below hb rfl).at (k := k) (u := .int .u8 y) (by rw [List.getElem?_map, hy]; rfl)
        have HX := Lib.hid hx
        have HY := Lib.hid hy
        clear hx hy
        have hkm : (k : Int) < (m : Int) := by have := HQ.out; omega
        have hkn : (k : Int) < (n : Int) := by omega
        by_cases hxy : x = y
        · have e : (x != y) = false := by simp [hxy]
          have HE := Lib.hid hxy
          clear hxy
          go_wp2_with fail
          go_quiet (fail)
          go_wp2
          go_roundw
          case rel => exact ⟨k + 1, by go_num, by omega, by rw [List.take_add_one, List.take_add_one, HT.out, HX.out, HY.out, HE.out], below_drewN hb _⟩
          case measure => simp [intOf]; omega
        · have e : (x != y) = true := by simp [hxy]
          have HE := Lib.hid hxy
          clear hxy
          go_wp2_with fail
          go_quiet (fail)
          go_wp2
          go_ret
          refine ⟨ret_bool (decide_eq_false fun he => HE.out ?_).symm, below_drewN hb _⟩
          have := HX.out
          rw [he, HY.out] at this
          exact (Option.some.inj this).symm
      · go_wp2
        go_ret
        refine ⟨ret_bool (decide_eq_true ?_).symm, hb⟩
        have h1 := HT.out
        rwa [List.take_of_length_le (by rw [← Hn.out]; omega), List.take_of_length_le (by rw [← Hm.out, ← HQ.out]; omega)] at h1
  · have hq : ((n : Int) != (m : Int)) = true := by simp; omega
    have HQ := Lib.hid hnm
    clear hnm
    go_enter Try.func33, Try.ntmps33
    go_wp2
    go_ret
    exact ⟨ret_bool (decide_eq_false fun he => HQ.out (by rw [Hn.out, Hm.out, he])).symm, Below.refl _ _⟩

set_option maxRecDepth 100000 in
set_option maxHeartbeats 1000000 in
/-- Same..: are the two lists one? -/
theorem sameWords_any (xs ys : List Int) (A B : Option Addr) (n m c d : Nat) (w : World) (hn : n = xs.length) (hm : m = ys.length) (hA : Rd w A (xs.map (.int .u32))) (hB : Rd w B (ys.map (.int .u32))) (hl : n ≤ 9223372036854775807) :
    Calls Try.prog 55 #[.slice A n c, .slice B m d] w fun e w' => e = .returned (.bool (decide (xs = ys))) ∧ Below w.heap.size w w' := by
  have HA := Lib.hid hA
  have HB := Lib.hid hB
  clear hA hB
  have Hn := Lib.hid hn
  have Hm := Lib.hid hm
  clear hn hm
  by_cases hnm : n = m
  · have hq : ((n : Int) != (m : Int)) = false := by simp [hnm]
    have HQ := Lib.hid hnm
    clear hnm
    go_enter Try.func55, Try.ntmps55
    go_wp2_with fail
    go_loopw [5] (fun i wr => ∃ k : Nat, i = .int .i64 k ∧ k ≤ n ∧ xs.take k = ys.take k ∧ Below w.heap.size w wr) (fun i _ => n - (intOf i).toNat)
    case atStart => exact ⟨0, rfl, by omega, by simp, Below.refl _ _⟩
    case round =>
      obtain ⟨k, rfl, hk, ht, hb⟩ := hrel
      have HT := Lib.hid ht
      clear ht
      by_cases hlt : k < n
      · obtain ⟨x, hx⟩ : ∃ x, xs[k]? = some x := ⟨_, List.getElem?_eq_getElem (by rw [← Hn.out]; exact hlt)⟩
        obtain ⟨y, hy⟩ : ∃ y, ys[k]? = some y := ⟨_, List.getElem?_eq_getElem (by rw [← Hm.out, ← HQ.out]; exact hlt)⟩
        obtain ⟨b1, o1, rfl, _, hc1⟩ := ((HA.out).below hb rfl).at (k := k) (u := .int .u32 x) (by rw [List.getElem?_map, hx]; rfl)
        obtain ⟨b2, o2, rfl, _, hc2⟩ := ((HB.out).below hb rfl).at (k := k) (u := .int .u32 y) (by rw [List.getElem?_map, hy]; rfl)
        have HX := Lib.hid hx
        have HY := Lib.hid hy
        clear hx hy
        have hkm : (k : Int) < (m : Int) := by have := HQ.out; omega
        have hkn : (k : Int) < (n : Int) := by omega
        by_cases hxy : x = y
        · have e : (x != y) = false := by simp [hxy]
          have HE := Lib.hid hxy
          clear hxy
          go_wp2_with fail
          go_quiet (fail)
          go_wp2
          go_roundw
          case rel => exact ⟨k + 1, by go_num, by omega, by rw [List.take_add_one, List.take_add_one, HT.out, HX.out, HY.out, HE.out], below_drewN hb _⟩
          case measure => simp [intOf]; omega
        · have e : (x != y) = true := by simp [hxy]
          have HE := Lib.hid hxy
          clear hxy
          go_wp2_with fail
          go_quiet (fail)
          go_wp2
          go_ret
          refine ⟨ret_bool (decide_eq_false fun he => HE.out ?_).symm, below_drewN hb _⟩
          have := HX.out
          rw [he, HY.out] at this
          exact (Option.some.inj this).symm
      · go_wp2
        go_ret
        refine ⟨ret_bool (decide_eq_true ?_).symm, hb⟩
        have h1 := HT.out
        rwa [List.take_of_length_le (by rw [← Hn.out]; omega), List.take_of_length_le (by rw [← Hm.out, ← HQ.out]; omega)] at h1
  · have hq : ((n : Int) != (m : Int)) = true := by simp; omega
    have HQ := Lib.hid hnm
    clear hnm
    go_enter Try.func55, Try.ntmps55
    go_wp2
    go_ret
    exact ⟨ret_bool (decide_eq_false fun he => HQ.out (by rw [Hn.out, Hm.out, he])).symm, Below.refl _ _⟩

set_option maxHeartbeats 1000000 in
/-- Copy..: the same in memory of its own. -/
theorem copyWords_any (xs : List Int) (A : Option Addr) (n c : Nat) (w : World) (hn : n = xs.length) (hA : Rd w A (xs.map (.int .u32))) (hl : n ≤ 1000000000) :
    Calls Try.prog 50 #[.slice A n c] w (OwnsV 45 (xs.map (.int .u32)) n w) := by
  have HA := Lib.hid hA
  have Hn := Lib.hid hn
  clear hA hn
  go_enter Try.func50, Try.ntmps50
  go_wp2_with fail
  go_loopw [3, 4] (fun v i wr => ∃ k : Nat, k ≤ n ∧ i = .int .i64 k ∧ wr.ownsRow w.heap.size 45 1 v k ((xs.map (.int .u32)).take k) ∧ Below w.heap.size w wr) (fun _ i _ => n - (intOf i).toNat)
  case atStart => exact ⟨0, by omega, rfl, ⟨rfl, .inl ⟨rfl, rfl⟩⟩, Below.refl _ _⟩
  case round =>
    obtain ⟨k, hk, rfl, ho, hb⟩ := hrel
    by_cases hlt : k < n
    · obtain ⟨u, hu⟩ : ∃ u, (xs.map (Value.int .u32))[k]? = some u := ⟨_, List.getElem?_eq_getElem (by rw [List.length_map, ← Hn.out]; exact hlt)⟩
      obtain ⟨b1, o1, rfl, _, hc1⟩ := (HA.out.below hb rfl).at hu
      obtain ⟨z, rfl⟩ : ∃ z, u = .int .u32 z := by
        rw [List.getElem?_map] at hu
        obtain ⟨z, _, hz⟩ := Option.map_eq_some_iff.1 hu
        exact ⟨z, hz.symm⟩
      have HU := Lib.hid hu
      clear hu
      go_wp2_with (at_builtin; refine wpList_app1 tW rfl (.tmp 11) (.tmp 16) rfl w.heap.size _ k _ rfl ho _ (by rfl) _ rfl rfl (by omega) (by unfold maxLen; omega) hb.size ?_; intro v2 w2 o2 _ hb2)
      go_roundw
      case rel =>
        refine ⟨k + 1, by omega, by go_num, ?_, hb.trans hb2⟩
        rw [List.take_add_one, HU.out]
        exact o2
      case measure => simp [intOf]; omega
    · have hkn : k = n := by omega
      subst hkn
      go_wp2
      go_ret
      rw [List.take_of_length_le (by rw [List.length_map, ← Hn.out]; omega)] at ho
      obtain ⟨A2, c2, rfl, hc2⟩ := own_slice ho
      exact ⟨⟨A2, c2, rfl, hc2, ho⟩, hb⟩

set_option maxHeartbeats 1000000 in
/-- Copy..: the same in memory of its own. -/
theorem copyBytes_any (xs : List Int) (A : Option Addr) (n c : Nat) (w : World) (hn : n = xs.length) (hA : Rd w A (xs.map (.int .u8))) (hl : n ≤ 1000000000) :
    Calls Try.prog 51 #[.slice A n c] w (OwnsV 5 (xs.map (.int .u8)) n w) := by
  have HA := Lib.hid hA
  have Hn := Lib.hid hn
  clear hA hn
  go_enter Try.func51, Try.ntmps51
  go_wp2_with fail
  go_loopw [3, 4] (fun v i wr => ∃ k : Nat, k ≤ n ∧ i = .int .i64 k ∧ wr.ownsRow w.heap.size 5 1 v k ((xs.map (.int .u8)).take k) ∧ Below w.heap.size w wr) (fun _ i _ => n - (intOf i).toNat)
  case atStart => exact ⟨0, by omega, rfl, ⟨rfl, .inl ⟨rfl, rfl⟩⟩, Below.refl _ _⟩
  case round =>
    obtain ⟨k, hk, rfl, ho, hb⟩ := hrel
    by_cases hlt : k < n
    · obtain ⟨u, hu⟩ : ∃ u, (xs.map (Value.int .u8))[k]? = some u := ⟨_, List.getElem?_eq_getElem (by rw [List.length_map, ← Hn.out]; exact hlt)⟩
      obtain ⟨b1, o1, rfl, _, hc1⟩ := (HA.out.below hb rfl).at hu
      obtain ⟨z, rfl⟩ : ∃ z, u = .int .u8 z := by
        rw [List.getElem?_map] at hu
        obtain ⟨z, _, hz⟩ := Option.map_eq_some_iff.1 hu
        exact ⟨z, hz.symm⟩
      have HU := Lib.hid hu
      clear hu
      go_wp2_with (at_builtin; refine wpList_app1 tB rfl (.tmp 11) (.tmp 16) rfl w.heap.size _ k _ rfl ho _ (by rfl) _ rfl rfl (by omega) (by unfold maxLen; omega) hb.size ?_; intro v2 w2 o2 _ hb2)
      go_roundw
      case rel =>
        refine ⟨k + 1, by omega, by go_num, ?_, hb.trans hb2⟩
        rw [List.take_add_one, HU.out]
        exact o2
      case measure => simp [intOf]; omega
    · have hkn : k = n := by omega
      subst hkn
      go_wp2
      go_ret
      rw [List.take_of_length_le (by rw [List.length_map, ← Hn.out]; omega)] at ho
      obtain ⟨A2, c2, rfl, hc2⟩ := own_slice ho
      exact ⟨⟨A2, c2, rfl, hc2, ho⟩, hb⟩

end Go.Proofs.Ytebmgladdgmmeaa
