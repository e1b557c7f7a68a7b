/- blend's units, plain: what each tells and becomes; how one lies in memory; each method by one contract. · blend's units, plain: what they tell stays in its range; a right unit stays right. No program in sight. · blend's units: how one leans, by one contract for all kinds. · blend's units: how one learns, ends a byte and takes a context, each by one contract for all kinds. · blend: which function a unit's method is: facts for calls through the interface. · A blend in memory: what lies where, what one more lean turns. Plain over the memory. -/
import Derived.Test.YtnohfeaamfjimaaVrBlK4
namespace Go.Proofs.Ytnohfeaamfjimaa
open Go.RowKit Go.WideShapes
set_option linter.unusedVariables false
set_option linter.unusedSimpArgs false
structure Un where
  p : Pt
  h : Int
  t : List Int
  b : List Int
  x : List Int
  ptr : Nat
  len : Nat
structure Loc where
  g : Nat
  s : Nat
  t : Nat
def Loc.has (l : Loc) (b : Nat) : Prop := b = l.g ∨ b = l.s ∨ b = l.t
def tyU (k : Int) : TypeId := if k = 2 then 91 else if k = 3 then 95 else if k = 4 then 99 else if k = 5 then 102 else if k = 6 then 106 else if k = 7 then 108 else if k = 8 then 113 else if k = 9 then 115 else 117
def ptU (k : Int) : TypeId := if k = 2 then 85 else if k = 3 then 92 else if k = 4 then 97 else if k = 5 then 100 else if k = 6 then 103 else if k = 7 then 107 else if k = 8 then 109 else if k = 9 then 114 else 116
def sl (g n : Nat) : Value := .slice (some ⟨g, 0, none⟩) n n
def Un.tail (u : Un) (l : Loc) : List Value :=
  if u.p.k = 2 ∨ u.p.k = 9 then [sl l.t (u.t.length / 2)]
  else if u.p.k = 3 ∨ u.p.k = 8 then sl l.s u.b.length :: ints u.x
  else if u.p.k = 4 then [sl l.s u.b.length, sl l.t u.t.length, .int .i64 (u.ptr : Int), .int .i64 (u.len : Int)]
  else if u.p.k = 6 ∨ u.p.k = 7 then [sl l.t u.t.length]
  else []
def Un.cells (u : Un) (l : Loc) : List Value := u.p.cells ++ [.int .u32 u.h] ++ u.tail l
structure UB (w : World) (u : Un) (l : Loc) : Prop where
  g : Blk w l.g (tyU u.p.k) (u.cells l).toArray
  s : u.p.k = 3 ∨ u.p.k = 4 ∨ u.p.k = 8 → Blk w l.s 5 (octs u.b).toArray
  t : u.p.k = 2 ∨ u.p.k = 9 → Blk w l.t 89 (ints u.t).toArray
  t' : u.p.k = 4 ∨ u.p.k = 6 ∨ u.p.k = 7 → Blk w l.t 3 (ints u.t).toArray
theorem UB.frm {S : Nat → Prop} {w w' : World} {u : Un} {l : Loc} (h : UB w u l) (hf : Frm S w w') (hn : ∀ b, l.has b → ¬ S b) : UB w' u l :=
  ⟨h.g.frm hf (hn _ (.inl rfl)), fun k => (h.s k).frm hf (hn _ (.inr (.inl rfl))), fun k => (h.t k).frm hf (hn _ (.inr (.inr rfl))), fun k => (h.t' k).frm hf (hn _ (.inr (.inr rfl)))⟩
theorem UB.below {w w' : World} {u : Un} {l : Loc} (h : UB w u l) (hb : Below w.heap.size w w') : UB w' u l :=
  ⟨h.g.below hb, fun k => (h.s k).below hb, fun k => (h.t k).below hb, fun k => (h.t' k).below hb⟩
theorem UB.cell {w : World} {u : Un} {l : Loc} (h : UB w u l) {j : Nat} {v : Value} (hv : (u.cells l)[j]? = some v) : w.cell? ⟨l.g, j, none⟩ = some v := by
  rw [h.g.cell, List.getElem?_toArray]
  exact hv
theorem cells_lo (u : Un) (l : Loc) (j : Nat) (hj : j < 8) : (u.cells l)[j]? = (u.p.cells ++ [.int .u32 u.h])[j]? := by
  unfold Un.cells
  rw [List.getElem?_append_left]
  simp [Pt.cells]
  omega
theorem cells_hi (u : Un) (l : Loc) (j : Nat) : (u.cells l)[8 + j]? = (u.tail l)[j]? := by
  unfold Un.cells
  rw [List.getElem?_append_right (by simp [Pt.cells])]
  congr 1
  simp [Pt.cells]
section
variable {w : World} {u : Un} {l : Loc}
theorem UB.c1 (h : UB w u l) : w.cell? ⟨l.g, 1, none⟩ = some (.int .i64 u.p.s) := h.cell ((cells_lo u l 1 (by omega)).trans rfl)
theorem UB.c2 (h : UB w u l) : w.cell? ⟨l.g, 2, none⟩ = some (.int .i64 u.p.a) := h.cell ((cells_lo u l 2 (by omega)).trans rfl)
theorem UB.c3 (h : UB w u l) : w.cell? ⟨l.g, 3, none⟩ = some (.int .i64 u.p.b) := h.cell ((cells_lo u l 3 (by omega)).trans rfl)
theorem UB.c4 (h : UB w u l) : w.cell? ⟨l.g, 4, none⟩ = some (.int .i64 u.p.c) := h.cell ((cells_lo u l 4 (by omega)).trans rfl)
theorem UB.c5 (h : UB w u l) : w.cell? ⟨l.g, 5, none⟩ = some (.int .i64 u.p.r) := h.cell ((cells_lo u l 5 (by omega)).trans rfl)
theorem UB.c6 (h : UB w u l) : w.cell? ⟨l.g, 6, none⟩ = some (.int .i64 u.p.l) := h.cell ((cells_lo u l 6 (by omega)).trans rfl)
theorem UB.c7 (h : UB w u l) : w.cell? ⟨l.g, 7, none⟩ = some (.int .u32 u.h) := h.cell ((cells_lo u l 7 (by omega)).trans rfl)
theorem UB.hi (h : UB w u l) {j : Nat} {v : Value} (hv : (u.tail l)[j]? = some v) : w.cell? ⟨l.g, 8 + j, none⟩ = some v := h.cell ((cells_hi u l j).trans hv)
end
theorem tail29 (u : Un) (l : Loc) (h : u.p.k = 2 ∨ u.p.k = 9) : u.tail l = [sl l.t (u.t.length / 2)] := if_pos h
theorem tail38 (u : Un) (l : Loc) (h : u.p.k = 3 ∨ u.p.k = 8) : u.tail l = sl l.s u.b.length :: ints u.x := by
  unfold Un.tail
  rw [if_neg (by omega), if_pos h]
theorem tail4 (u : Un) (l : Loc) (h : u.p.k = 4) : u.tail l = [sl l.s u.b.length, sl l.t u.t.length, .int .i64 (u.ptr : Int), .int .i64 (u.len : Int)] := by
  unfold Un.tail
  rw [if_neg (by omega), if_neg (by omega), if_pos h]
theorem tail67 (u : Un) (l : Loc) (h : u.p.k = 6 ∨ u.p.k = 7) : u.tail l = [sl l.t u.t.length] := by
  unfold Un.tail
  rw [if_neg (by omega), if_neg (by omega), if_neg (by omega), if_pos h]
/-! ### What a unit tells -/
def Un.sz (u : Un) : Nat := u.p.s.toNat
def Un.at' (u : Un) (c : Int) : Nat := (placeI u.h c u.sz).toNat
def Un.A (u : Un) : Nat := u.p.a.toNat
def Un.Bn (u : Un) : Nat := u.p.b.toNat
def Un.st (u : Un) (c : Int) : Nat := (u.b.getD (u.at' c) 0).toNat
def Un.ent (u : Un) (c : Int) (L : List Int) : Nat := u.at' c * 32 + ((L.getD u.A 0 + 2047) / 128).toNat
def leanU (u : Un) (c : Int) (bits : Nat) (L : List Int) : Int :=
  if u.p.k = 2 then stI (u.t.getD (u.at' c * 2) 0 / 1024)
  else if u.p.k = 3 then stI (u.x.getD (u.st c) 0 / 16)
  else if u.p.k = 4 then maL u.len (u.b.getD u.ptr 0) c bits
  else if u.p.k = 5 then (u.p.c * L.getD u.A 0 + (256 - u.p.c) * L.getD u.Bn 0) / 256
  else if u.p.k = 6 then (u.t.getD (u.at' c) 0 * L.getD u.A 0 + (65536 - u.t.getD (u.at' c) 0) * L.getD u.Bn 0) / 65536
  else if u.p.k = 7 then intoI (dotK u.t L (u.at' c * u.Bn) u.A u.Bn / 65536) (-2047) 2047
  else if u.p.k = 8 then isL (u.x.getD (u.st c * 2) 0) (u.x.getD (u.st c * 2 + 1) 0) (L.getD u.A 0)
  else if u.p.k = 9 then stI (u.t.getD (u.ent c L * 2) 0 / 1024)
  else u.p.c
def slowT (t : List Int) (k : Nat) (bit lim : Int) : List Int := (t.set k (chL (t.getD k 0) (t.getD (k + 1) 0) bit)).set (k + 1) (min (t.getD (k + 1) 0 + 1) lim)
def learnU (u : Un) (c : Int) (L : List Int) (d bit : Int) : Un :=
  if u.p.k = 2 then { u with t := slowT u.t (u.at' c * 2) bit u.p.l }
  else if u.p.k = 3 then { u with x := u.x.set (u.st c) (hiL (u.x.getD (u.st c) 0) bit), b := u.b.set (u.at' c) (nextI (u.st c) bit) }
  else if u.p.k = 6 then { u with t := u.t.set (u.at' c) (paL (u.t.getD (u.at' c) 0) (4095 * bit - sqI d) u.p.r (L.getD u.A 0) (L.getD u.Bn 0)) }
  else if u.p.k = 7 then { u with t := mixK u.t L (u.at' c * u.Bn) u.A ((4095 * bit - sqI d) * u.p.r) u.Bn }
  else if u.p.k = 8 then { u with x := (u.x.set (u.st c * 2) (isU (u.x.getD (u.st c * 2) 0) (4095 * bit - sqI d) (L.getD u.A 0))).set (u.st c * 2 + 1) (isV (u.x.getD (u.st c * 2 + 1) 0) (4095 * bit - sqI d)), b := u.b.set (u.at' c) (nextI (u.st c) bit) }
  else if u.p.k = 9 then { u with t := slowT u.t (u.ent c L * 2) bit u.p.l }
  else u
def ctxU (u : Un) (wh : Nat) (h : Int) : Un :=
  if u.p.k = 4 then { u with h := h, ptr := ptrF u.b.length (u.t.getD (placeI h 1 u.sz).toNat 0).toNat u.ptr u.len, len := lenF u.b u.b.length (u.t.getD (placeI h 1 u.sz).toNat 0).toNat wh u.len, t := u.t.set (placeI h 1 u.sz).toNat wh }
  else { u with h := h }
def endU (u : Un) (c : Int) (wh : Nat) : Un :=
  if u.p.k = 4 then { u with ptr := ptrE u.len u.b.length u.ptr (u.b.getD u.ptr 0) (c % 256), len := lenE u.len (u.b.getD u.ptr 0) (c % 256), b := u.b.set (wh % u.b.length) (c % 256) }
  else u
def SlowOk (t : List Int) : Prop := ∀ j, j * 2 + 1 < t.length → (0 ≤ t.getD (j * 2) 0 ∧ t.getD (j * 2) 0 ≤ 4194303) ∧ (0 ≤ t.getD (j * 2 + 1) 0 ∧ t.getD (j * 2 + 1) 0 ≤ 1023)
/-- A unit that may stand at place i, wh bytes on. -/
structure Un.Ok (u : Un) (i wh : Nat) : Prop where
  k : 1 ≤ u.p.k ∧ u.p.k ≤ 9
  h : 0 ≤ u.h ∧ u.h ≤ 4294967295
  s : u.p.s = (u.sz : Int) ∧ u.sz ≤ 16
  c1 : u.p.k = 1 → -2047 ≤ u.p.c ∧ u.p.c ≤ 2047
  a : 5 ≤ u.p.k → u.p.a = (u.A : Int) ∧ u.A < i
  b : u.p.k = 5 ∨ u.p.k = 6 → u.p.b = (u.Bn : Int) ∧ u.Bn < i
  b7 : u.p.k = 7 → u.p.b = (u.Bn : Int) ∧ 1 ≤ u.Bn ∧ u.Bn ≤ 8 ∧ u.A + u.Bn ≤ i
  c5 : u.p.k = 5 → 0 ≤ u.p.c ∧ u.p.c ≤ 256
  r : u.p.k = 6 ∨ u.p.k = 7 → 1 ≤ u.p.r ∧ u.p.r ≤ 64
  l : u.p.k = 2 ∨ u.p.k = 9 → 1 ≤ u.p.l ∧ u.p.l ≤ 1023
  t2 : u.p.k = 2 → u.t.length = 2 ^ u.sz * 2 ∧ SlowOk u.t
  t9 : u.p.k = 9 → u.t.length = 2 ^ u.sz * 32 * 2 ∧ SlowOk u.t
  t4 : u.p.k = 4 → u.t.length = 2 ^ u.sz ∧ ∀ q ∈ u.t, 0 ≤ q ∧ q ≤ (wh : Int)
  t6 : u.p.k = 6 → u.t.length = 2 ^ u.sz ∧ ∀ q ∈ u.t, 0 ≤ q ∧ q ≤ 65535
  t7 : u.p.k = 7 → u.t.length = 2 ^ u.sz * u.Bn ∧ ∀ q ∈ u.t, -1048576 ≤ q ∧ q ≤ 1048576
  bs : u.p.k = 3 ∨ u.p.k = 4 ∨ u.p.k = 8 → u.b.length = 2 ^ u.sz ∧ ∀ q ∈ u.b, 0 ≤ q ∧ q ≤ 255
  x3 : u.p.k = 3 → u.x.length = 256 ∧ ∀ q ∈ u.x, 0 ≤ q ∧ q ≤ 65535
  x8 : u.p.k = 8 → u.x.length = 512 ∧ ∀ q ∈ u.x, -1048576 ≤ q ∧ q ≤ 1048576
  m : u.p.k = 4 → u.ptr < 2 ^ u.sz ∧ u.len ≤ 32
section
variable {u : Un} {i wh : Nat}
theorem Un.Ok.pow (h : u.Ok i wh) : 2 ^ u.sz ≤ 65536 := by
  have := Nat.pow_le_pow_right (show 0 < 2 by omega) h.s.2
  simpa using this
theorem Un.Ok.at_lt (h : u.Ok i wh) (c : Int) : u.at' c < 2 ^ u.sz ∧ placeI u.h c u.sz = (u.at' c : Int) := by
  have hb := place_bd u.h c u.sz h.s.2
  unfold Un.at'
  have hp : ((2 ^ u.sz : Nat) : Int) = (2 : Int) ^ u.sz := by push_cast; rfl
  omega
theorem Un.Ok.st_lt (h : u.Ok i wh) (hk : u.p.k = 3 ∨ u.p.k = 8) (c : Int) : u.st c < 256 ∧ u.b[u.at' c]? = some ((u.st c : Nat) : Int) := by
  obtain ⟨h1, h2⟩ := h.bs (by omega)
  have hl : u.at' c < u.b.length := by rw [h1]; exact (h.at_lt c).1
  have h3 := h2 _ (getD_mem hl)
  unfold Un.st
  refine ⟨by omega, ?_⟩
  rw [getD_some hl, Int.toNat_of_nonneg h3.1]
end
end Go.Proofs.Ytnohfeaamfjimaa
namespace Go.Proofs.Ytnohfeaamfjimaa
set_option linter.unusedVariables false
set_option linter.unusedSimpArgs false
def LOk (L : List Int) : Prop := ∀ j, -2047 ≤ L.getD j 0 ∧ L.getD j 0 ≤ 2047
theorem LOk.nil : LOk [] := fun j => by simp
theorem LOk.snoc {L : List Int} {x : Int} (h : LOk L) (h0 : -2047 ≤ x) (h1 : x ≤ 2047) : LOk (L ++ [x]) := fun j => by
  rw [List.getD_eq_getElem?_getD]
  by_cases hj : j < L.length
  · rw [List.getElem?_append_left hj, ← List.getD_eq_getElem?_getD]
    exact h j
  · rw [List.getElem?_append_right (by omega)]
    cases hk : j - L.length with
    | zero => simp; omega
    | succ k => simp
theorem avg_bd {c M x y : Int} (c0 : 0 ≤ c) (c1 : c ≤ M) (hM : 0 < M) (hx : -2047 ≤ x ∧ x ≤ 2047) (hy : -2047 ≤ y ∧ y ≤ 2047) : -2047 ≤ (c * x + (M - c) * y) / M ∧ (c * x + (M - c) * y) / M ≤ 2047 := by
  have h1 := Int.mul_le_mul_of_nonneg_left hx.2 c0
  have h2 := Int.mul_le_mul_of_nonneg_left hx.1 c0
  have h3 := Int.mul_le_mul_of_nonneg_left hy.2 (show 0 ≤ M - c by omega)
  have h4 := Int.mul_le_mul_of_nonneg_left hy.1 (show 0 ≤ M - c by omega)
  have e1 : c * 2047 + (M - c) * 2047 = M * 2047 := by rw [← Int.add_mul]; congr 1; omega
  have e2 : c * (-2047) + (M - c) * (-2047) = M * (-2047) := by rw [← Int.add_mul]; congr 1; omega
  refine ⟨Int.le_ediv_of_mul_le hM (by rw [Int.mul_comm]; omega), ?_⟩
  have : (c * x + (M - c) * y) < 2048 * M := by rw [Int.mul_comm 2048 M]; omega
  have := Int.ediv_lt_of_lt_mul hM this
  omega
theorem getD_or {l : List Int} {P : Int → Prop} (h : ∀ q ∈ l, P q) (h0 : P 0) (i : Nat) : P (l.getD i 0) := by
  by_cases hi : i < l.length
  · exact h _ (getD_mem hi)
  · rw [List.getD_eq_getElem?_getD, List.getElem?_eq_none (by omega)]
    exact h0
theorem leanU_bd {u : Un} {i wh : Nat} (h : u.Ok i wh) {c : Int} {bits : Nat} {L : List Int} (hL : LOk L) : -2047 ≤ leanU u c bits L ∧ leanU u c bits L ≤ 2047 := by
  have hst : ∀ p, -2047 ≤ stI p ∧ stI p ≤ 2047 := fun p => ⟨(st_is p).lo, (st_is p).hi⟩
  unfold leanU
  split
  · exact hst _
  split
  · exact hst _
  split
  · exact maL_bd (by omega)
  split
  · rename_i hk
    have := h.c5 hk
    exact avg_bd this.1 this.2 (by omega) (hL _) (hL _)
  split
  · rename_i hk
    have := getD_or (P := fun q => 0 ≤ q ∧ q ≤ 65535) (h.t6 hk).2 (by omega) (u.at' c)
    exact avg_bd this.1 (by omega) (by omega) (hL _) (hL _)
  split
  · exact into_bd _ _ _ (by omega)
  split
  · exact into_bd _ _ _ (by omega)
  split
  · exact hst _
  · rename_i h2 h3 h4 h5 h6 h7 h8 h9
    have := h.k
    exact h.c1 (by omega)
theorem slowT_length (t : List Int) (k : Nat) (bit lim : Int) : (slowT t k bit lim).length = t.length := by simp [slowT]
theorem slowT_ok {t : List Int} {j : Nat} {bit lim : Int} (h : SlowOk t) (hj : j * 2 + 1 < t.length) (hb : bit = 0 ∨ bit = 1) (hl : 1 ≤ lim ∧ lim ≤ 1023) : SlowOk (slowT t (j * 2) bit lim) := by
  intro i hi
  rw [slowT_length] at hi
  have hi' := h i hi
  have hj' := h j hj
  unfold slowT
  by_cases he : i = j
  · subst he
    have e0 : ((t.set (i * 2) (chL (t.getD (i * 2) 0) (t.getD (i * 2 + 1) 0) bit)).set (i * 2 + 1) (min (t.getD (i * 2 + 1) 0 + 1) lim)).getD (i * 2) 0 = chL (t.getD (i * 2) 0) (t.getD (i * 2 + 1) 0) bit := by
      rw [List.getD_eq_getElem?_getD, List.getElem?_set_ne (by omega), List.getElem?_set_self (by omega)]
      rfl
    have e1 : ((t.set (i * 2) (chL (t.getD (i * 2) 0) (t.getD (i * 2 + 1) 0) bit)).set (i * 2 + 1) (min (t.getD (i * 2 + 1) 0 + 1) lim)).getD (i * 2 + 1) 0 = min (t.getD (i * 2 + 1) 0 + 1) lim := by
      rw [List.getD_eq_getElem?_getD, List.getElem?_set_self (by rw [List.length_set]; omega)]
      rfl
    rw [e0, e1]
    exact ⟨chL_bd hj'.1.1 hj'.1.2 hj'.2.1 hb, by omega⟩
  · have e : ∀ m, m ≠ j * 2 → m ≠ j * 2 + 1 → ((t.set (j * 2) (chL (t.getD (j * 2) 0) (t.getD (j * 2 + 1) 0) bit)).set (j * 2 + 1) (min (t.getD (j * 2 + 1) 0 + 1) lim)).getD m 0 = t.getD m 0 := fun m h1 h2 => by
      rw [List.getD_eq_getElem?_getD, List.getElem?_set_ne (by omega), List.getElem?_set_ne (by omega), List.getD_eq_getElem?_getD]
    rw [e _ (by omega) (by omega), e _ (by omega) (by omega)]
    exact hi'
theorem mem_set_or {l : List Int} {P : Int → Prop} (h : ∀ q ∈ l, P q) {k : Nat} {v : Int} (hv : P v) : ∀ q ∈ l.set k v, P q := fun q hq => by
  rcases List.mem_or_eq_of_mem_set hq with hq | rfl
  · exact h q hq
  · exact hv
theorem Un.Ok.ent_lt {u : Un} {i wh : Nat} (h : u.Ok i wh) {c : Int} {L : List Int} (hL : LOk L) : u.ent c L < 2 ^ u.sz * 32 := by
  have h1 := (h.at_lt c).1
  have h2 := hL u.A
  unfold Un.ent
  omega
theorem Un.Ok.at_any {u : Un} {i wh : Nat} (h : u.Ok i wh) {w2 : Nat} (hw : wh ≤ w2) : u.Ok i w2 :=
  ⟨h.k, h.h, h.s, h.c1, h.a, h.b, h.b7, h.c5, h.r, h.l, h.t2, h.t9, fun k => ⟨(h.t4 k).1, fun q hq => by have := (h.t4 k).2 q hq; omega⟩, h.t6, h.t7, h.bs, h.x3, h.x8, h.m⟩
theorem learnU_ok {u : Un} {i wh : Nat} (h : u.Ok i wh) {c : Int} {L : List Int} {d bit : Int} (hL : LOk L) (hb : bit = 0 ∨ bit = 1) : (learnU u c L d bit).Ok i wh := by
  have ha := (h.at_lt c).1
  unfold learnU
  split
  · rename_i hk
    obtain ⟨q1, q2⟩ := h.t2 hk
    exact ⟨h.k, h.h, h.s, h.c1, h.a, h.b, h.b7, h.c5, h.r, h.l, fun _ => ⟨(slowT_length ..).trans q1, slowT_ok q2 (by rw [q1]; omega) hb (h.l (.inl hk))⟩, fun k => absurd (hk.symm.trans k) (by decide), fun k => absurd (hk.symm.trans k) (by decide), fun k => absurd (hk.symm.trans k) (by decide), fun k => absurd (hk.symm.trans k) (by decide), h.bs, h.x3, h.x8, h.m⟩
  split
  · rename_i _ hk
    obtain ⟨q1, q2⟩ := h.x3 hk
    obtain ⟨b1, b2⟩ := h.bs (.inl hk)
    have hs := (h.st_lt (.inl hk) c).1
    have hx := q2 _ (getD_mem (by rw [q1]; exact hs))
    have hn := next_bd (u.st c : Int) bit (by omega) (by omega)
    have hz := hiL_bd hx.1 hx.2 hb
    exact ⟨h.k, h.h, h.s, h.c1, h.a, h.b, h.b7, h.c5, h.r, h.l, h.t2, h.t9, h.t4, h.t6, h.t7, fun _ => ⟨(List.length_set ..).trans b1, mem_set_or b2 hn⟩, fun _ => ⟨(List.length_set ..).trans q1, mem_set_or q2 ⟨hz.1, hz.2.1⟩⟩, fun k => absurd (hk.symm.trans k) (by decide), h.m⟩
  split
  · rename_i _ _ hk
    obtain ⟨q1, q2⟩ := h.t6 hk
    exact ⟨h.k, h.h, h.s, h.c1, h.a, h.b, h.b7, h.c5, h.r, h.l, fun k => absurd (hk.symm.trans k) (by decide), fun k => absurd (hk.symm.trans k) (by decide), fun k => absurd (hk.symm.trans k) (by decide), fun _ => ⟨(List.length_set ..).trans q1, mem_set_or q2 (into_bd _ _ _ (by omega))⟩, fun k => absurd (hk.symm.trans k) (by decide), h.bs, h.x3, h.x8, h.m⟩
  split
  · rename_i _ _ _ hk
    obtain ⟨q1, q2⟩ := h.t7 hk
    exact ⟨h.k, h.h, h.s, h.c1, h.a, h.b, h.b7, h.c5, h.r, h.l, fun k => absurd (hk.symm.trans k) (by decide), fun k => absurd (hk.symm.trans k) (by decide), fun k => absurd (hk.symm.trans k) (by decide), fun k => absurd (hk.symm.trans k) (by decide), fun _ => ⟨(mixK_length ..).trans q1, mixK_bd q2 _⟩, h.bs, h.x3, h.x8, h.m⟩
  split
  · rename_i _ _ _ _ hk
    obtain ⟨q1, q2⟩ := h.x8 hk
    obtain ⟨b1, b2⟩ := h.bs (.inr (.inr hk))
    have hs := (h.st_lt (.inr hk) c).1
    have hn := next_bd (u.st c : Int) bit (by omega) (by omega)
    exact ⟨h.k, h.h, h.s, h.c1, h.a, h.b, h.b7, h.c5, h.r, h.l, h.t2, h.t9, h.t4, h.t6, h.t7, fun _ => ⟨(List.length_set ..).trans b1, mem_set_or b2 hn⟩, fun k => absurd (hk.symm.trans k) (by decide), fun _ => ⟨by simp [q1], mem_set_or (mem_set_or q2 (into_bd _ _ _ (by omega))) (into_bd _ _ _ (by omega))⟩, h.m⟩
  split
  · rename_i _ _ _ _ _ hk
    obtain ⟨q1, q2⟩ := h.t9 hk
    exact ⟨h.k, h.h, h.s, h.c1, h.a, h.b, h.b7, h.c5, h.r, h.l, fun k => absurd (hk.symm.trans k) (by decide), fun _ => ⟨(slowT_length ..).trans q1, slowT_ok q2 (by rw [q1]; have := h.ent_lt (c := c) hL; omega) hb (h.l (.inr hk))⟩, fun k => absurd (hk.symm.trans k) (by decide), fun k => absurd (hk.symm.trans k) (by decide), fun k => absurd (hk.symm.trans k) (by decide), h.bs, h.x3, h.x8, h.m⟩
  · exact h
theorem lenE_le (len : Nat) (y x : Int) : lenE len y x ≤ 32 := by unfold lenE; split <;> omega
theorem ptrE_lt {len N ptr : Nat} {y x : Int} (h : ptr < N) : ptrE len N ptr y x < N := by
  unfold ptrE
  split
  · exact Nat.mod_lt _ (by omega)
  · exact h
theorem endU_ok {u : Un} {i wh : Nat} (h : u.Ok i wh) {c : Int} : (endU u c wh).Ok i (wh + 1) := by
  unfold endU
  split
  · rename_i hk
    obtain ⟨b1, b2⟩ := h.bs (.inr (.inl hk))
    obtain ⟨m1, m2⟩ := h.m hk
    have h2 := h.at_any (w2 := wh + 1) (by omega)
    exact ⟨h.k, h.h, h.s, h.c1, h.a, h.b, h.b7, h.c5, h.r, h.l, h.t2, h.t9, h2.t4, h.t6, h.t7, fun _ => ⟨(List.length_set ..).trans b1, mem_set_or b2 (by omega)⟩, h.x3, h.x8, fun _ => ⟨by rw [b1]; exact ptrE_lt m1, lenE_le _ _ _⟩⟩
  · exact h.at_any (by omega)
theorem ctxU_ok {u : Un} {i wh : Nat} (h : u.Ok i wh) {x : Int} (x0 : 0 ≤ x) (x1 : x ≤ 4294967295) : (ctxU u wh x).Ok i wh := by
  unfold ctxU
  split
  · rename_i hk
    obtain ⟨b1, b2⟩ := h.bs (.inr (.inl hk))
    obtain ⟨t1, t2⟩ := h.t4 hk
    obtain ⟨m1, m2⟩ := h.m hk
    refine ⟨h.k, ⟨x0, x1⟩, h.s, h.c1, h.a, h.b, h.b7, h.c5, h.r, h.l, fun k => absurd (hk.symm.trans k) (by decide), fun k => absurd (hk.symm.trans k) (by decide), fun _ => ⟨(List.length_set ..).trans t1, mem_set_or t2 (by omega)⟩, fun k => absurd (hk.symm.trans k) (by decide), fun k => absurd (hk.symm.trans k) (by decide), h.bs, h.x3, h.x8, fun _ => ⟨?_, ?_⟩⟩
    · show ptrF _ _ _ _ < _
      unfold ptrF
      split
      · rw [b1]; exact Nat.mod_lt _ (Nat.pow_pos (by omega))
      · exact m1
    · show lenF _ _ _ _ _ ≤ 32
      unfold lenF
      split
      · exact runK_le _ _ _ _ _ _ (by omega)
      · exact m2
  · exact ⟨h.k, ⟨x0, x1⟩, h.s, h.c1, h.a, h.b, h.b7, h.c5, h.r, h.l, h.t2, h.t9, h.t4, h.t6, h.t7, h.bs, h.x3, h.x8, h.m⟩
end Go.Proofs.Ytnohfeaamfjimaa
namespace Go.Proofs.Ytnohfeaamfjimaa
open Go.RowKit Go.WideShapes
set_option linter.unusedVariables false
set_option linter.unusedSimpArgs false
def fLean (k : Int) : FuncId := if k = 2 then 92 else if k = 3 then 99 else if k = 4 then 105 else if k = 5 then 107 else if k = 6 then 109 else if k = 7 then 112 else if k = 8 then 115 else if k = 9 then 117 else 120
/-- The byte that is going on, and how the units ahead lean. -/
structure NB (w : World) (B : Nat) (c : Int) (bits wh : Nat) (A : Option Addr) (cp : Nat) (L : List Int) : Prop where
  c1 : w.cell? ⟨B, 1, none⟩ = some (.int .i64 c)
  b2 : w.cell? ⟨B, 2, none⟩ = some (.int .i64 (bits : Int))
  w3 : w.cell? ⟨B, 3, none⟩ = some (.int .i64 (wh : Int))
  l4 : w.cell? ⟨B, 4, none⟩ = some (.slice A L.length cp)
  rd : ∀ j, j < L.length → ∃ g2, A = some ⟨g2, 0, none⟩ ∧ w.cell? ⟨g2, j, none⟩ = some (.int .i64 (L.getD j 0))
  cap : L.length ≤ cp
  len : L.length ≤ 16
theorem NB.at {w : World} {B : Nat} {c : Int} {bits wh : Nat} {g2 cp : Nat} {L : List Int} (h : NB w B c bits wh (some ⟨g2, 0, none⟩) cp L) {j : Nat} (hj : j < L.length) : w.cell? ⟨g2, j, none⟩ = some (.int .i64 (L.getD j 0)) := by
  obtain ⟨g, he, hc⟩ := h.rd j hj
  injection he with he
  injection he with he
  subst he
  exact hc
theorem NB.below {w w' : World} {B : Nat} {c : Int} {bits wh : Nat} {A : Option Addr} {cp : Nat} {L : List Int} (h : NB w B c bits wh A cp L) (hb : Below w.heap.size w w') : NB w' B c bits wh A cp L :=
  ⟨ck h.c1 hb, ck h.b2 hb, ck h.w3 hb, ck h.l4 hb, fun j hj => by
    obtain ⟨g, he, hc⟩ := h.rd j hj
    exact ⟨g, he, ck hc hb⟩, h.cap, h.len⟩
theorem NB.frm {S : Nat → Prop} {w w' : World} {B : Nat} {c : Int} {bits wh : Nat} {A : Option Addr} {cp : Nat} {L : List Int} (h : NB w B c bits wh A cp L) (hf : Frm S w w') (hB : ¬ S B) (hA : ∀ g2, A = some ⟨g2, 0, none⟩ → ¬ S g2) : NB w' B c bits wh A cp L :=
  ⟨(hf.cell (block_lt_of_cell h.c1) hB).trans h.c1, (hf.cell (block_lt_of_cell h.b2) hB).trans h.b2, (hf.cell (block_lt_of_cell h.w3) hB).trans h.w3, (hf.cell (block_lt_of_cell h.l4) hB).trans h.l4, fun j hj => by
    obtain ⟨g, he, hc⟩ := h.rd j hj
    exact ⟨g, he, (hf.cell (block_lt_of_cell hc) (hA g he)).trans hc⟩, h.cap, h.len⟩
section
variable {u : Un} {l : Loc} {w : World} {B wh cp bits : Nat} {c : Int} {A : Option Addr} {L : List Int}
theorem UB.sl29 (h : UB w u l) (hk : u.p.k = 2 ∨ u.p.k = 9) : w.cell? ⟨l.g, 8, none⟩ = some (.slice (some ⟨l.t, 0, none⟩) (u.t.length / 2) (u.t.length / 2)) := h.hi (j := 0) (by rw [tail29 u l hk]; rfl)
theorem UB.sl38 (h : UB w u l) (hk : u.p.k = 3 ∨ u.p.k = 8) : w.cell? ⟨l.g, 8, none⟩ = some (.slice (some ⟨l.s, 0, none⟩) u.b.length u.b.length) := h.hi (j := 0) (by rw [tail38 u l hk]; rfl)
theorem UB.x38 (h : UB w u l) (hk : u.p.k = 3 ∨ u.p.k = 8) {j : Nat} (hj : j < u.x.length) : (u.cells l).toArray[9 + j]? = some (.int .i64 (u.x.getD j 0)) := by
  rw [List.getElem?_toArray, show 9 + j = 8 + (j + 1) by omega, cells_hi, tail38 u l hk, List.getElem?_cons_succ]
  rw [ints, List.getElem?_map, getD_some hj]
  rfl
theorem UB.sl67 (h : UB w u l) (hk : u.p.k = 6 ∨ u.p.k = 7) : w.cell? ⟨l.g, 8, none⟩ = some (.slice (some ⟨l.t, 0, none⟩) u.t.length u.t.length) := h.hi (j := 0) (by rw [tail67 u l hk]; rfl)
theorem Un.Ok.s' {i : Nat} (h : u.Ok i wh) (hb : UB w u l) : w.cell? ⟨l.g, 1, none⟩ = some (.int .i64 (u.sz : Int)) := by rw [← h.s.1]; exact hb.c1
theorem Un.Ok.a' {i : Nat} (h : u.Ok i wh) (hb : UB w u l) (hk : 5 ≤ u.p.k) : w.cell? ⟨l.g, 2, none⟩ = some (.int .i64 (u.A : Int)) := by rw [← (h.a hk).1]; exact hb.c2
theorem tt_at {w : World} {g : Nat} {t : TypeId} {l : List Int} (h : Blk w g t (ints l).toArray) {k : Nat} (hk : k < l.length) : w.cell? ⟨g, k, none⟩ = some (.int .i64 (l.getD k 0)) := (h.cell k).trans (ints_at (getD_some hk))
theorem bb_at {w : World} {g : Nat} {l : List Int} (h : Blk w g 5 (octs l).toArray) {k : Nat} (hk : k < l.length) : w.cell? ⟨g, k, none⟩ = some (.int .u8 (l.getD k 0)) := (h.cell k).trans (octs_at (getD_some hk))
theorem lean_any (hu : UB w u l) (ho : u.Ok L.length wh) (hn : NB w B c bits wh A cp L) (hc : 0 ≤ c ∧ c ≤ 255) (hb : bits < 8) (hL : LOk L) :
    Calls Try.prog (fLean u.p.k) #[.pointer (some ⟨l.g, 0, none⟩), .pointer (some ⟨B, 1, none⟩)] w (Quiet (.int .i64 (leanU u c bits L)) w) := by
  have hat := ho.at_lt c
  have hp := ho.pow
  have hlen := hn.len
  unfold fLean leanU
  split
  · rename_i hk
    obtain ⟨t1, t2⟩ := ho.t2 hk
    have hs := t2 (u.at' c) (by rw [t1]; omega)
    have hT := hu.t (.inl hk)
    exact lean92 l.g B l.t (u.t.length / 2) (u.t.length / 2) u.h c _ u.sz (u.at' c) w ho.h.1 ho.h.2 hc.1 hc.2 ho.s.2 hat.2 (by rw [t1]; omega) (by rw [t1]; omega) hs.1.1 hs.1.2 hu.c7 (ho.s' hu) hn.c1 (hu.sl29 (.inl hk)) (tt_at hT (by rw [t1]; omega))
  split
  · rename_i _ hk
    obtain ⟨x1, x2⟩ := ho.x3 hk
    obtain ⟨b1, b2⟩ := ho.bs (.inl hk)
    have hst := ho.st_lt (.inl hk) c
    have hx := x2 _ (getD_mem (i := u.st c) (by rw [x1]; exact hst.1))
    exact lean99 l.g B l.s u.b.length u.b.length u.h c _ u.sz (u.at' c) (u.st c) w ho.h.1 ho.h.2 hc.1 hc.2 ho.s.2 hat.2 (by rw [b1]; exact hat.1) (by rw [b1]; omega) hst.1 hx.1 hx.2 hu.c7 (ho.s' hu) hn.c1 (hu.sl38 (.inl hk)) (((hu.s (.inl hk)).cell _).trans (octs_at hst.2)) ((hu.g.cell _).trans (hu.x38 (.inl hk) (by rw [x1]; exact hst.1)))
  split
  · rename_i _ _ hk
    obtain ⟨b1, b2⟩ := ho.bs (.inr (.inl hk))
    obtain ⟨m1, m2⟩ := ho.m hk
    have hy := b2 _ (getD_mem (i := u.ptr) (by rw [b1]; exact m1))
    have hS := hu.s (.inr (.inl hk))
    have e : ((u.b.getD u.ptr 0).toNat : Int) = u.b.getD u.ptr 0 := Int.toNat_of_nonneg hy.1
    have := lean105 l.g B l.s u.b.length u.b.length c u.ptr u.len (u.b.getD u.ptr 0).toNat bits w (by rw [b1]; exact m1) (by rw [b1]; omega) m2 (by omega) hb (hu.hi (j := 0) (by rw [tail4 u l hk]; rfl)) (hu.hi (j := 2) (by rw [tail4 u l hk]; rfl)) (hu.hi (j := 3) (by rw [tail4 u l hk]; rfl)) (by rw [e]; exact bb_at hS (by rw [b1]; exact m1)) hn.c1 hn.b2
    rwa [e] at this
  split
  · rename_i _ _ _ hk
    have ha := ho.a (by omega)
    have hb' := ho.b (.inl hk)
    have h5 := ho.c5 hk
    obtain ⟨g2, rfl, _⟩ := hn.rd _ ha.2
    exact lean107 l.g B g2 L.length cp u.A u.Bn _ _ u.p.c w ha.2 hb'.2 (by omega) (hL _).1 (hL _).2 (hL _).1 (hL _).2 h5.1 h5.2 hu.c4 hn.l4 (ho.a' hu (by omega)) (by rw [← hb'.1]; exact hu.c3) (hn.at ha.2) (hn.at hb'.2)
  split
  · rename_i _ _ _ _ hk
    have ha := ho.a (by omega)
    have hb' := ho.b (.inr hk)
    obtain ⟨t1, t2⟩ := ho.t6 hk
    have hv := t2 _ (getD_mem (i := u.at' c) (by rw [t1]; exact hat.1))
    obtain ⟨g2, rfl, _⟩ := hn.rd _ ha.2
    exact lean109 l.g B l.t u.t.length u.t.length g2 L.length cp u.A u.Bn _ _ u.h c _ u.sz (u.at' c) w ho.h.1 ho.h.2 hc.1 hc.2 ho.s.2 hat.2 (by rw [t1]; exact hat.1) (by rw [t1]; omega) ha.2 hb'.2 (by omega) (hL _).1 (hL _).2 (hL _).1 (hL _).2 hv.1 hv.2 hu.c7 (ho.s' hu) hn.c1 (hu.sl67 (.inl hk)) (tt_at (hu.t' (.inr (.inl hk))) (by rw [t1]; exact hat.1)) hn.l4 (ho.a' hu (by omega)) (by rw [← hb'.1]; exact hu.c3) (hn.at ha.2) (hn.at hb'.2)
  split
  · rename_i _ _ _ _ _ hk
    have ha := ho.a (by omega)
    obtain ⟨e7, b1, b8, bi⟩ := ho.b7 hk
    obtain ⟨t1, t2⟩ := ho.t7 hk
    have hmul : u.at' c * u.Bn + u.Bn ≤ u.t.length := by
      rw [t1, ← Nat.succ_mul]
      exact Nat.mul_le_mul_right _ hat.1
    have h8 : u.t.length ≤ 65536 * 8 := by rw [t1]; exact Nat.mul_le_mul hp b8
    obtain ⟨g2, rfl, _⟩ := hn.rd _ ha.2
    exact lean112 l.g B l.t u.t.length u.t.length g2 L.length cp u.A u.Bn u.t L u.h c u.sz (u.at' c) w ho.h.1 ho.h.2 hc.1 hc.2 ho.s.2 hat.2 b1 b8 hmul bi (Nat.le_refl _) hn.cap (by omega) (by omega) (fun k hk' => tt_at (hu.t' (.inr (.inr hk))) (by omega)) (fun k hk' => hn.at (by omega)) (fun k hk' => t2 _ (getD_mem (by omega))) (fun k _ => hL _) hu.c7 (ho.s' hu) hn.c1 (hu.sl67 (.inr hk)) hn.l4 (ho.a' hu (by omega)) (by rw [← e7]; exact hu.c3)
  split
  · rename_i _ _ _ _ _ _ hk
    have ha := ho.a (by omega)
    obtain ⟨x1, x2⟩ := ho.x8 hk
    obtain ⟨b1, b2⟩ := ho.bs (.inr (.inr hk))
    have hst := ho.st_lt (.inr hk) c
    have hx := x2 _ (getD_mem (i := u.st c * 2) (by rw [x1]; omega))
    have hy := x2 _ (getD_mem (i := u.st c * 2 + 1) (by rw [x1]; omega))
    obtain ⟨g2, rfl, _⟩ := hn.rd _ ha.2
    exact lean115 l.g B l.s u.b.length u.b.length g2 L.length cp u.A u.h c _ _ _ u.sz (u.at' c) (u.st c) w ho.h.1 ho.h.2 hc.1 hc.2 ho.s.2 hat.2 (by rw [b1]; exact hat.1) (by rw [b1]; omega) hst.1 ha.2 (by omega) hx.1 hx.2 hy.1 hy.2 (hL _).1 (hL _).2 hu.c7 (ho.s' hu) hn.c1 (hu.sl38 (.inr hk)) (((hu.s (.inr (.inr hk))).cell _).trans (octs_at hst.2)) ((hu.g.cell _).trans (hu.x38 (.inr hk) (by rw [x1]; omega))) ((hu.g.cell _).trans (hu.x38 (j := u.st c * 2 + 1) (.inr hk) (by rw [x1]; omega))) hn.l4 (ho.a' hu (by omega)) (hn.at ha.2)
  split
  · rename_i _ _ _ _ _ _ _ hk
    have ha := ho.a (by omega)
    obtain ⟨t1, t2⟩ := ho.t9 hk
    have hen := ho.ent_lt (c := c) hL
    have hs := t2 (u.ent c L) (by rw [t1]; omega)
    have hLA := hL u.A
    obtain ⟨g2, rfl, _⟩ := hn.rd _ ha.2
    exact lean117 l.g B l.t (u.t.length / 2) (u.t.length / 2) g2 L.length cp u.A (u.ent c L) _ u.h c _ u.sz (u.at' c) w ho.h.1 ho.h.2 hc.1 hc.2 ho.s.2 hat.2 ha.2 (by omega) hLA.1 hLA.2 (by unfold Un.ent; push_cast; omega) (by rw [t1]; omega) (by rw [t1]; omega) hs.1.1 hs.1.2 hu.c7 (ho.s' hu) hn.c1 (hu.sl29 (.inr hk)) hn.l4 (ho.a' hu (by omega)) (hn.at ha.2) (tt_at (hu.t (.inr hk)) (by rw [t1]; omega))
  · exact lean120 l.g B u.p.c w hu.c4
end
end Go.Proofs.Ytnohfeaamfjimaa
namespace Go.Proofs.Ytnohfeaamfjimaa
open Go.RowKit Go.WideShapes
set_option linter.unusedVariables false
set_option linter.unusedSimpArgs false
def fLearn (k : Int) : FuncId := if k = 2 then 93 else if k = 3 then 100 else if k = 6 then 110 else if k = 7 then 113 else if k = 8 then 116 else if k = 9 then 118 else 106
def fCtx (k : Int) : FuncId := if k = 4 then 103 else 90
def fEnd (k : Int) : FuncId := if k = 4 then 104 else 91
structure TurnU (u : Un) (l : Loc) (w0 : World) (e : Ending) (w : World) : Prop where
  ret : e = .returned (.tuple #[])
  ub : UB w u l
  frm : Frm l.has w0 w
theorem cells_eq {u u' : Un} {l : Loc} (hp : u'.p = u.p) (hh : u'.h = u.h) (ht : u'.t.length = u.t.length) (hb : u'.b.length = u.b.length) (hx : u'.x = u.x) (hq : u'.ptr = u.ptr) (hl : u'.len = u.len) : u'.cells l = u.cells l := by
  unfold Un.cells Un.tail
  rw [hp, hh, ht, hb, hx, hq, hl]
theorem cells_setx {u : Un} {l : Loc} (hk : u.p.k = 3 ∨ u.p.k = 8) (j : Nat) (v : Int) (b : List Int) (hb : b.length = u.b.length) : (u.cells l).toArray.setIfInBounds (9 + j) (.int .i64 v) = (Un.cells { u with x := u.x.set j v, b := b } l).toArray := by
  rw [List.setIfInBounds_toArray]
  congr 1
  unfold Un.cells
  rw [tail38 u l hk, tail38 { u with x := u.x.set j v, b := b } l hk, List.set_append_right _ _ (by simp [Pt.cells]; omega)]
  rw [show 9 + j - (u.p.cells ++ [Value.int .u32 u.h]).length = j + 1 by simp [Pt.cells]; omega, List.set_cons_succ]
  show _ = u.p.cells ++ [Value.int .u32 u.h] ++ (sl l.s b.length :: ints (u.x.set j v))
  rw [hb]
  unfold ints
  rw [List.map_set]
theorem tyU_ne (k : Int) : tyU k ≠ 5 ∧ tyU k ≠ 3 ∧ tyU k ≠ 89 := by
  unfold tyU
  (repeat' split) <;> decide
section
variable {u : Un} {l : Loc} {w : World} {B wh cp bits : Nat} {c : Int} {A : Option Addr} {L : List Int}
theorem UB.gs (h : UB w u l) (hk : u.p.k = 3 ∨ u.p.k = 4 ∨ u.p.k = 8) : l.g ≠ l.s := h.g.ne (h.s hk) (tyU_ne _).1
theorem UB.gt (h : UB w u l) (hk : u.p.k = 2 ∨ u.p.k = 9 ∨ u.p.k = 4 ∨ u.p.k = 6 ∨ u.p.k = 7) : l.g ≠ l.t := by
  by_cases h2 : u.p.k = 2 ∨ u.p.k = 9
  · exact h.g.ne (h.t h2) (tyU_ne _).2.2
  · exact h.g.ne (h.t' (by omega)) (tyU_ne _).2.1
theorem UB.st (h : UB w u l) (hk : u.p.k = 4) : l.s ≠ l.t := (h.s (.inr (.inl hk))).ne (h.t' (.inl hk)) (by decide)
/-- A unit whose table alone has turned. -/
theorem UB.of_t {w' : World} {u' : Un} {t : TypeId} (h : UB w u l) (hf : Frm (fun b => b = l.t) w w') (hne : l.g ≠ l.t) (hs : ¬ (u.p.k = 3 ∨ u.p.k = 4 ∨ u.p.k = 8)) (hp : u'.p = u.p) (hc : u'.cells l = u.cells l)
    (h29 : u.p.k = 2 ∨ u.p.k = 9 → Blk w' l.t 89 (ints u'.t).toArray) (h67 : u.p.k = 4 ∨ u.p.k = 6 ∨ u.p.k = 7 → Blk w' l.t 3 (ints u'.t).toArray) : UB w' u' l :=
  ⟨by rw [hp, hc]; exact h.g.frm hf (fun e => hne e), fun k => absurd (by rw [hp] at k; exact k) hs, fun k => h29 (by rw [hp] at k; exact k), fun k => h67 (by rw [hp] at k; exact k)⟩
theorem frm_t {w' : World} (hf : Frm (fun b => b = l.t) w w') : Frm l.has w w' := hf.mono fun b _ h => .inr (.inr h)
theorem frm_gs {w' : World} (hf : Frm (fun b => b = l.g ∨ b = l.s) w w') : Frm l.has w w' := hf.mono fun b _ h => h.elim .inl (fun h => .inr (.inl h))
theorem frm_gt {w' : World} (hf : Frm (fun b => b = l.g ∨ b = l.t) w w') : Frm l.has w w' := hf.mono fun b _ h => h.elim .inl (fun h => .inr (.inr h))
theorem learn_any (d bit : Int) (hu : UB w u l) (hoi : ∃ i, u.Ok i wh ∧ i ≤ L.length) (hn : NB w B c bits wh A cp L) (hc : 0 ≤ c ∧ c ≤ 255) (hL : LOk L) (hbit : bit = 0 ∨ bit = 1) (hB : ¬ l.has B) (hA : ∀ g2, A = some ⟨g2, 0, none⟩ → ¬ l.has g2) :
    Calls Try.prog (fLearn u.p.k) #[.pointer (some ⟨l.g, 0, none⟩), .pointer (some ⟨B, 1, none⟩), .int .i64 d, .int .i64 bit] w (TurnU (learnU u c L d bit) l w) := by
  obtain ⟨i, ho, hi⟩ := hoi
  have hat := ho.at_lt c
  have hp := ho.pow
  have hlen := hn.len
  unfold fLearn learnU
  split
  · rename_i hk
    obtain ⟨t1, t2⟩ := ho.t2 hk
    have hs := t2 (u.at' c) (by rw [t1]; omega)
    have hT := hu.t (.inl hk)
    have hne := hu.gt (.inl hk)
    refine (learn93 l.g B l.t (u.t.length / 2) (u.t.length / 2) u.h c _ _ d bit u.p.l u.t u.sz (u.at' c) w ho.h.1 ho.h.2 hc.1 hc.2 ho.s.2 hat.2 (by rw [t1]; omega) (by rw [t1]; omega) hT (getD_some (by rw [t1]; omega)) (getD_some (by rw [t1]; omega)) hs.1.1 hs.1.2 hs.2.1 hs.2.2 hbit hne (fun e => hB (.inr (.inr e))) hu.c7 (ho.s' hu) hn.c1 (hu.sl29 (.inl hk)) hu.c6).mono ?_
    rintro e w' ⟨rfl, hb, hf⟩
    exact ⟨rfl, hu.of_t (t := 89) hf hne (by omega) rfl (cells_eq rfl rfl (slowT_length ..) rfl rfl rfl rfl) (fun _ => hb) (fun k => by omega), frm_t hf⟩
  split
  · rename_i _ hk
    obtain ⟨x1, x2⟩ := ho.x3 hk
    obtain ⟨b1, b2⟩ := ho.bs (.inl hk)
    have hst := ho.st_lt (.inl hk) c
    have hx := x2 _ (getD_mem (i := u.st c) (by rw [x1]; exact hst.1))
    have hne := hu.gs (.inl hk)
    have hS := hu.s (.inl hk)
    refine (learn100 l.g B l.s u.b.length u.b.length (u.cells l).toArray u.b u.h c _ d bit u.sz (u.at' c) (u.st c) w ho.h.1 ho.h.2 hc.1 hc.2 ho.s.2 hat.2 (by rw [b1]; exact hat.1) (by rw [b1]; omega) hst.1 hx.1 hx.2 hbit (by have := hu.g; rwa [show tyU u.p.k = 95 by rw [hk]; rfl] at this) hS (hu.x38 (.inl hk) (by rw [x1]; exact hst.1)) hne hu.c7 (ho.s' hu) hn.c1 (hu.sl38 (.inl hk)) ((hS.cell _).trans (octs_at hst.2))).mono ?_
    rintro e w' ⟨rfl, hb, hs', hf⟩
    refine ⟨rfl, ⟨?_, fun _ => hs', fun k => absurd (show u.p.k = 2 ∨ u.p.k = 9 from k) (by omega), fun k => absurd (show u.p.k = 4 ∨ u.p.k = 6 ∨ u.p.k = 7 from k) (by omega)⟩, frm_gs hf⟩
    show Blk w' l.g (tyU u.p.k) _
    rw [show tyU u.p.k = 95 by rw [hk]; rfl, ← cells_setx (.inl hk) _ _ _ (List.length_set ..)]
    exact hb
  split
  · rename_i _ _ hk
    have ha := ho.a (by omega)
    have hb' := ho.b (.inr hk)
    have hr := ho.r (.inl hk)
    obtain ⟨t1, t2⟩ := ho.t6 hk
    have hv := t2 _ (getD_mem (i := u.at' c) (by rw [t1]; exact hat.1))
    have hne := hu.gt (.inr (.inr (.inr (.inl hk))))
    obtain ⟨g2, rfl, _⟩ := hn.rd u.A (by omega)
    refine (learn110 l.g B l.t u.t.length u.t.length g2 L.length cp u.A u.Bn _ _ u.h c _ d bit u.p.r u.t u.sz (u.at' c) w ho.h.1 ho.h.2 hc.1 hc.2 ho.s.2 hat.2 (by rw [t1]; exact hat.1) (by rw [t1]; omega) (by omega) (by omega) (by omega) (hL _).1 (hL _).2 (hL _).1 (hL _).2 hv.1 hv.2 hr.1 hr.2 hbit _ rfl (hu.t' (.inr (.inl hk))) (getD_some (by rw [t1]; exact hat.1)) hne hu.c5 hu.c7 (ho.s' hu) hn.c1 (hu.sl67 (.inl hk)) hn.l4 (ho.a' hu (by omega)) (by rw [← hb'.1]; exact hu.c3) (hn.at (by omega)) (hn.at (by omega))).mono ?_
    rintro e w' ⟨rfl, hb, hf⟩
    exact ⟨rfl, hu.of_t (t := 3) hf hne (by omega) rfl (cells_eq rfl rfl (List.length_set ..) rfl rfl rfl rfl) (fun k => by omega) (fun _ => hb), frm_t hf⟩
  split
  · rename_i _ _ _ hk
    have ha := ho.a (by omega)
    obtain ⟨e7, b1, b8, bi⟩ := ho.b7 hk
    have hr := ho.r (.inr hk)
    obtain ⟨t1, t2⟩ := ho.t7 hk
    have hne := hu.gt (.inr (.inr (.inr (.inr hk))))
    have hmul : u.at' c * u.Bn + u.Bn ≤ u.t.length := by
      rw [t1, ← Nat.succ_mul]
      exact Nat.mul_le_mul_right _ hat.1
    have h8 : u.t.length ≤ 65536 * 8 := by rw [t1]; exact Nat.mul_le_mul hp b8
    obtain ⟨g2, rfl, _⟩ := hn.rd u.A (by omega)
    refine (learn113 l.g B l.t u.t.length u.t.length g2 L.length cp u.A u.Bn u.t L u.h c d bit u.p.r u.sz (u.at' c) w ho.h.1 ho.h.2 hc.1 hc.2 ho.s.2 hat.2 b1 b8 hmul (by omega) (Nat.le_refl _) hn.cap (by omega) (by omega) hr.1 hr.2 hbit _ rfl (hu.t' (.inr (.inr hk))) rfl (fun e => hA g2 rfl (.inr (.inr e))) hu.c5 (fun k hk' => hn.at (by omega)) t2 (fun k _ => hL _) hu.c7 (ho.s' hu) hn.c1 (hu.sl67 (.inr hk)) hn.l4 (ho.a' hu (by omega)) (by rw [← e7]; exact hu.c3)).mono ?_
    rintro e w' ⟨rfl, hb, hf⟩
    exact ⟨rfl, hu.of_t (t := 3) hf hne (by omega) rfl (cells_eq rfl rfl (mixK_length ..) rfl rfl rfl rfl) (fun k => by omega) (fun _ => hb), frm_t hf⟩
  split
  · rename_i _ _ _ _ hk
    have ha := ho.a (by omega)
    obtain ⟨x1, x2⟩ := ho.x8 hk
    obtain ⟨b1, b2⟩ := ho.bs (.inr (.inr hk))
    have hst := ho.st_lt (.inr hk) c
    have hx := x2 _ (getD_mem (i := u.st c * 2) (by rw [x1]; omega))
    have hy := x2 _ (getD_mem (i := u.st c * 2 + 1) (by rw [x1]; omega))
    have hne := hu.gs (.inr (.inr hk))
    have hS := hu.s (.inr (.inr hk))
    obtain ⟨g2, rfl, _⟩ := hn.rd u.A (by omega)
    refine (learn116 l.g B l.s u.b.length u.b.length g2 L.length cp u.A (u.cells l).toArray u.b u.h c _ _ _ d bit u.sz (u.at' c) (u.st c) w ho.h.1 ho.h.2 hc.1 hc.2 ho.s.2 hat.2 (by rw [b1]; exact hat.1) (by rw [b1]; omega) hst.1 (by omega) (by omega) hx.1 hx.2 hy.1 hy.2 (hL _).1 (hL _).2 hbit _ rfl (by have := hu.g; rwa [show tyU u.p.k = 113 by rw [hk]; rfl] at this) hS hst.2 (hu.x38 (.inr hk) (by rw [x1]; omega)) (hu.x38 (j := u.st c * 2 + 1) (.inr hk) (by rw [x1]; omega)) hne (Lib.hid (fun e => hB (.inl e))) (Lib.hid (fun e => hA g2 rfl (.inl e))) hu.c7 (ho.s' hu) hn.c1 (hu.sl38 (.inr hk)) ((hS.cell _).trans (octs_at hst.2)) hn.l4 (ho.a' hu (by omega)) (hn.at (by omega))).mono ?_
    rintro e w' ⟨rfl, hb, hs', hf⟩
    refine ⟨rfl, ⟨?_, fun _ => hs', fun k => absurd (show u.p.k = 2 ∨ u.p.k = 9 from k) (by omega), fun k => absurd (show u.p.k = 4 ∨ u.p.k = 6 ∨ u.p.k = 7 from k) (by omega)⟩, frm_gs hf⟩
    show Blk w' l.g (tyU u.p.k) _
    rw [show tyU u.p.k = 113 by rw [hk]; rfl]
    rw [cells_setx (.inr hk) _ _ u.b rfl] at hb
    have := cells_setx (u := { u with x := u.x.set (u.st c * 2) (isU (u.x.getD (u.st c * 2) 0) (4095 * bit - sqI d) (L.getD u.A 0)), b := u.b }) (l := l) (.inr hk) (u.st c * 2 + 1) (isV (u.x.getD (u.st c * 2 + 1) 0) (4095 * bit - sqI d)) (u.b.set (u.at' c) (nextI (u.st c) bit)) (List.length_set ..)
    rw [show 9 + (u.st c * 2 + 1) = 9 + u.st c * 2 + 1 by omega] at this
    rw [this] at hb
    exact hb
  split
  · rename_i _ _ _ _ _ hk
    have ha := ho.a (by omega)
    obtain ⟨t1, t2⟩ := ho.t9 hk
    have hen := ho.ent_lt (c := c) hL
    have hs := t2 (u.ent c L) (by rw [t1]; omega)
    have hLA := hL u.A
    have hne := hu.gt (.inr (.inl hk))
    obtain ⟨g2, rfl, _⟩ := hn.rd u.A (by omega)
    refine (learn118 l.g B l.t (u.t.length / 2) (u.t.length / 2) g2 L.length cp u.A (u.ent c L) _ u.h c _ _ d bit u.p.l u.t u.sz (u.at' c) w ho.h.1 ho.h.2 hc.1 hc.2 ho.s.2 hat.2 (by omega) (by omega) hLA.1 hLA.2 (by unfold Un.ent; push_cast; omega) (by rw [t1]; omega) (by rw [t1]; omega) (hu.t (.inr hk)) (getD_some (by rw [t1]; omega)) (getD_some (by rw [t1]; omega)) hs.1.1 hs.1.2 hs.2.1 hs.2.2 hbit hne (fun e => hB (.inr (.inr e))) (fun e => hA g2 rfl (.inr (.inr e))) hu.c7 (ho.s' hu) hn.c1 (hu.sl29 (.inr hk)) hn.l4 (ho.a' hu (by omega)) (hn.at (by omega)) hu.c6).mono ?_
    rintro e w' ⟨rfl, hb, hf⟩
    exact ⟨rfl, hu.of_t (t := 89) hf hne (by omega) rfl (cells_eq rfl rfl (slowT_length ..) rfl rfl rfl rfl) (fun _ => hb) (fun k => by omega), frm_t hf⟩
  · refine (learn106 l.g B d bit w).mono ?_
    rintro e w' ⟨rfl, rfl⟩
    exact ⟨rfl, hu, Frm.refl _ _⟩
theorem cells4 (u : Un) (l : Loc) (hk : u.p.k = 4) (hN : u.t.length = u.b.length) : (u.cells l).toArray = maC u.p u.h l.s u.b.length l.t u.b.length u.b.length u.ptr u.len := by
  unfold Un.cells
  rw [tail4 u l hk, hN]
  rfl
theorem cells4' (p : Pt) (h : Int) (t b x : List Int) (ptr len : Nat) (l : Loc) (hk : p.k = 4) (hN : t.length = b.length) : (Un.cells ⟨p, h, t, b, x, ptr, len⟩ l).toArray = maC p h l.s b.length l.t b.length b.length ptr len := cells4 ⟨p, h, t, b, x, ptr, len⟩ l hk hN
theorem UB.g4 (hu : UB w u l) (hk : u.p.k = 4) (hN : u.t.length = u.b.length) : Blk w l.g 99 (maC u.p u.h l.s u.b.length l.t u.b.length u.b.length u.ptr u.len) := by
  have := hu.g
  rwa [show tyU u.p.k = 99 by rw [hk]; rfl, cells4 u l hk hN] at this
theorem ends_any (hu : UB w u l) (i : Nat) (ho : u.Ok i wh) (hn : NB w B c bits wh A cp L) (hc : 0 ≤ c ∧ c ≤ 1000) (hwh : wh ≤ 1000000000) (hB : ¬ l.has B) :
    Calls Try.prog (fEnd u.p.k) #[.pointer (some ⟨l.g, 0, none⟩), .pointer (some ⟨B, 1, none⟩)] w (TurnU (endU u c wh) l w) := by
  have hp := ho.pow
  unfold fEnd endU
  split
  · rename_i hk
    obtain ⟨b1, b2⟩ := ho.bs (.inr (.inl hk))
    obtain ⟨t1, t2⟩ := ho.t4 hk
    obtain ⟨m1, m2⟩ := ho.m hk
    have hN : u.t.length = u.b.length := by rw [t1, b1]
    have hgs := hu.gs (.inr (.inl hk))
    have hgt := hu.gt (.inr (.inr (.inl hk)))
    have hst := hu.st hk
    refine (end104 l.g B l.s u.b.length l.t u.b.length u.b.length u.p u.h c _ u.b u.ptr u.len wh w hc.1 hc.2 (by rw [b1]; exact m1) (by rw [b1]; omega) m2 hwh (hu.g4 hk hN) (hu.s (.inr (.inl hk))) rfl (getD_some (by rw [b1]; exact m1)) hgs (Lib.hid (fun e => hB (.inl e))) hn.c1 hn.w3).mono ?_
    rintro e w' ⟨rfl, hb, hs', hf⟩
    refine ⟨rfl, ⟨?_, fun _ => hs', fun k => absurd (show u.p.k = 2 ∨ u.p.k = 9 from k) (by omega), fun _ => (hu.t' (.inl hk)).frm hf (fun e => e.elim (fun e => hgt e.symm) (fun e => hst e.symm))⟩, frm_gs hf⟩
    show Blk w' l.g (tyU u.p.k) _
    rw [show tyU u.p.k = 99 by rw [hk]; rfl, cells4' u.p _ _ _ _ _ _ l hk (by rw [List.length_set]; exact hN), List.length_set]
    exact hb
  · refine (end91 l.g B w).mono ?_
    rintro e w' ⟨rfl, rfl⟩
    exact ⟨rfl, hu, Frm.refl _ _⟩
end
end Go.Proofs.Ytnohfeaamfjimaa
namespace Go.Proofs.Ytnohfeaamfjimaa
open Go.RowKit Go.WideShapes
set_option linter.unusedVariables false
set_option linter.unusedSimpArgs false
theorem run_enter {P : Program} {f : FuncId} {fn : Func} {c : Code} (hf : P.funcs[f]? = some fn) (hname : (fn.name == "runtime.NumGoroutine") = false) (hb : fn.body = some c) (args : Array Value) (w : World) :
    (callFunc f args).run P w = .ok (.enter f args) w := by
  simp [callFunc, go_sem, hf, hb]
  simp at hname
  simp [hname, go_sem]
theorem kind9 {k : Int} (h : 1 ≤ k ∧ k ≤ 9) : k = 1 ∨ k = 2 ∨ k = 3 ∨ k = 4 ∨ k = 5 ∨ k = 6 ∨ k = 7 ∨ k = 8 ∨ k = 9 := by omega
theorem methLean {k : Int} (h : 1 ≤ k ∧ k ≤ 9) (g : Nat) (w : World) : (Go.method 270 (ptU k) (.pointer (some ⟨g, 0, none⟩)) "quillpress/blend.lean").run Try.prog w = .ok (fLean k, .pointer (some ⟨g, 0, none⟩)) w := by
  rcases kind9 h with rfl | rfl | rfl | rfl | rfl | rfl | rfl | rfl | rfl <;> kernel_rfl
theorem methLearn {k : Int} (h : 1 ≤ k ∧ k ≤ 9) (g : Nat) (w : World) : (Go.method 270 (ptU k) (.pointer (some ⟨g, 0, none⟩)) "quillpress/blend.learn").run Try.prog w = .ok (fLearn k, .pointer (some ⟨g, 0, none⟩)) w := by
  rcases kind9 h with rfl | rfl | rfl | rfl | rfl | rfl | rfl | rfl | rfl <;> kernel_rfl
theorem methCtx {k : Int} (h : 1 ≤ k ∧ k ≤ 9) (g : Nat) (w : World) : (Go.method 270 (ptU k) (.pointer (some ⟨g, 0, none⟩)) "quillpress/blend.context").run Try.prog w = .ok (fCtx k, .pointer (some ⟨g, 0, none⟩)) w := by
  rcases kind9 h with rfl | rfl | rfl | rfl | rfl | rfl | rfl | rfl | rfl <;> kernel_rfl
theorem methEnd {k : Int} (h : 1 ≤ k ∧ k ≤ 9) (g : Nat) (w : World) : (Go.method 270 (ptU k) (.pointer (some ⟨g, 0, none⟩)) "quillpress/blend.end").run Try.prog w = .ok (fEnd k, .pointer (some ⟨g, 0, none⟩)) w := by
  rcases kind9 h with rfl | rfl | rfl | rfl | rfl | rfl | rfl | rfl | rfl <;> kernel_rfl
theorem enter_of {f : FuncId} (hf : (Try.prog.funcs[f]?).map (fun fn => (fn.name == "runtime.NumGoroutine", fn.body.isSome)) = some (false, true)) (args : Array Value) (w : World) : (callFunc f args).run Try.prog w = .ok (.enter f args) w := by
  cases hq : Try.prog.funcs[f]? with
  | none => rw [hq] at hf; cases hf
  | some fn =>
    rw [hq] at hf
    simp only [Option.map_some, Option.some.injEq, Prod.mk.injEq] at hf
    obtain ⟨c, hc⟩ := Option.isSome_iff_exists.1 hf.2
    exact run_enter hq hf.1 hc args w
theorem enterLean {k : Int} (h : 1 ≤ k ∧ k ≤ 9) (args : Array Value) (w : World) : (callFunc (fLean k) args).run Try.prog w = .ok (.enter (fLean k) args) w := by
  rcases kind9 h with rfl | rfl | rfl | rfl | rfl | rfl | rfl | rfl | rfl <;> exact enter_of (by kernel_rfl) args w
theorem enterLearn {k : Int} (h : 1 ≤ k ∧ k ≤ 9) (args : Array Value) (w : World) : (callFunc (fLearn k) args).run Try.prog w = .ok (.enter (fLearn k) args) w := by
  rcases kind9 h with rfl | rfl | rfl | rfl | rfl | rfl | rfl | rfl | rfl <;> exact enter_of (by kernel_rfl) args w
theorem enterCtx {k : Int} (h : 1 ≤ k ∧ k ≤ 9) (args : Array Value) (w : World) : (callFunc (fCtx k) args).run Try.prog w = .ok (.enter (fCtx k) args) w := by
  rcases kind9 h with rfl | rfl | rfl | rfl | rfl | rfl | rfl | rfl | rfl <;> exact enter_of (by kernel_rfl) args w
theorem enterEnd {k : Int} (h : 1 ≤ k ∧ k ≤ 9) (args : Array Value) (w : World) : (callFunc (fEnd k) args).run Try.prog w = .ok (.enter (fEnd k) args) w := by
  rcases kind9 h with rfl | rfl | rfl | rfl | rfl | rfl | rfl | rfl | rfl <;> exact enter_of (by kernel_rfl) args w
/-- How all lean, one behind the other. -/
def leansF (c : Int) (bits : Nat) : List Un → List Int → List Int
  | [], L => L
  | u :: r, L => leansF c bits r (L ++ [leanU u c bits L])
def leansB (us : List Un) (c : Int) (bits : Nat) : List Int := leansF c bits us []
theorem leansF_length (c : Int) (bits : Nat) : ∀ us L, (leansF c bits us L).length = L.length + us.length
  | [], L => rfl
  | u :: r, L => by unfold leansF; rw [leansF_length c bits r]; simp; omega
theorem leansF_app (c : Int) (bits : Nat) : ∀ us vs L, leansF c bits (us ++ vs) L = leansF c bits vs (leansF c bits us L)
  | [], vs, L => rfl
  | u :: r, vs, L => leansF_app c bits r vs _
theorem leansB_length (us : List Un) (c : Int) (bits : Nat) : (leansB us c bits).length = us.length := by unfold leansB; rw [leansF_length]; simp
theorem leans_step {us : List Un} {k : Nat} {u : Un} (h : us[k]? = some u) (c : Int) (bits : Nat) : leansB (us.take (k + 1)) c bits = leansB (us.take k) c bits ++ [leanU u c bits (leansB (us.take k) c bits)] := by
  have hk := (List.getElem?_eq_some_iff.1 h)
  obtain ⟨hk, he⟩ := hk
  rw [List.take_add_one, h]
  unfold leansB
  rw [leansF_app]
  rfl
def UsOk (us : List Un) (wh : Nat) : Prop := ∀ (i : Nat) (u : Un), us[i]? = some u → u.Ok i wh
theorem leansB_ok {us : List Un} {wh : Nat} (h : UsOk us wh) (c : Int) (bits : Nat) : ∀ k, LOk (leansB (us.take k) c bits)
  | 0 => LOk.nil
  | k + 1 => by
    cases hu : us[k]? with
    | none =>
      rw [List.take_of_length_le (by have := List.getElem?_eq_none_iff.1 hu; omega)]
      have := leansB_ok h c bits k
      rwa [List.take_of_length_le (by have := List.getElem?_eq_none_iff.1 hu; omega)] at this
    | some u =>
      rw [leans_step hu]
      have hb := leanU_bd (h k u hu) (c := c) (bits := bits) (leansB_ok h c bits k)
      exact (leansB_ok h c bits k).snoc hb.1 hb.2
theorem leansB_lok {us : List Un} {wh : Nat} (h : UsOk us wh) (c : Int) (bits : Nat) : LOk (leansB us c bits) := by
  have := leansB_ok h c bits us.length
  rwa [List.take_length] at this
end Go.Proofs.Ytnohfeaamfjimaa
namespace Go.Proofs.Ytnohfeaamfjimaa
open Go.RowKit Go.WideShapes
set_option linter.unusedVariables false
set_option linter.unusedSimpArgs false
theorem tInts : SlS Try.prog 48 3 (.int .i64 0) 1 8 := ⟨Try.underlying48, by kernel_rfl, by kernel_rfl, by omega⟩
section
variable {P : Program} {t e : TypeId} {z : Value} {size bytes : Nat}
theorem run_appN (T : SlS P t e z size bytes) (w : World) (ty : TypeId) (base : Nat) (v : Value) (n : Nat) (xs : List Value) (hown : w.ownsRow base e size v n xs)
    (ad : Addr) (m c : Nat) (news : List Value) (hl : news.length = m * size) (hc : ∀ j u, news[j]? = some u → w.cell? (ad.add j) = some u) (h1 : ∀ u ∈ news, u.oneCell' = true)
    (hby : (n + m) * bytes ≤ 140737488355328) (h63 : n + m ≤ maxLen) (hbase : base ≤ w.heap.size) :
    ∃ v' w', (Builtin.append_ #[t, t] ty #[v, .slice (some ad) m c]).run P w = .ok v' w' ∧ w'.ownsRow base e size v' (n + m) (xs ++ news) ∧ w.grownBy w' v.ownBlock ∧ (v'.ownBlock = v.ownBlock ∨ ∀ k, v'.ownBlock = some k → w.heap.size ≤ k) := by
  obtain ⟨i, hi, hz, hs, hb⟩ := info_parts T.i
  obtain ⟨v', w', hrun, h2, h3, _, h5⟩ := run_append_own_at (P := P) w base t ty e i z size bytes T.u hi hz hs hb T.z T.pos v n xs hown ad m c news hl hc h1 h63 hby hbase
  exact ⟨v', w', hrun, h2, h3, h5.imp id fun h k hk => by rw [h] at hk; injection hk with hk; omega⟩
/-- An append of one's own as one step of a region that draws. -/
theorem step_appN {ops : Array Oper} {o : Oper} {a : Act} {w : World} {K : Act → World → Prop} {Q : Exit → Act → World → Prop} {E : Prop} (T : SlS P t e z size bytes) (hgd : Region.wanted o (yielded ops a.tmps) = true) (s x : Operand)
    (ho : o.op = .call { callee := .builtin .append, args := #[s, x], argTypes := #[t, t] })
    (base : Nat) (v : Value) (n : Nat) (xs : List Value) (hs : a.eval s = v) (hown : w.ownsRow base e size v n xs)
    (ad : Addr) (m c : Nat) (news : List Value) (hx : a.eval x = .slice (some ad) m c) (hl : news.length = m * size) (hc : ∀ j u, news[j]? = some u → w.cell? (ad.add j) = some u) (h1 : ∀ u ∈ news, u.oneCell' = true)
    (hby : (n + m) * bytes ≤ 140737488355328) (h63 : n + m ≤ maxLen) (hbase : base ≤ w.heap.size)
    (h : ∀ v' w', w'.ownsRow base e size v' (n + m) (xs ++ news) → w.grownBy w' v.ownBlock → (v'.ownBlock = v.ownBlock ∨ ∀ k, v'.ownBlock = some k → w.heap.size ≤ k) → K (a.put o.dst v') w') :
    if Region.wanted o (yielded ops a.tmps) = true then Oper.wp P o a w K Q else E := by
  obtain ⟨v', w', hrun, h2, h3, h4⟩ := run_appN T w o.type base v n xs hown ad m c news hl hc h1 hby h63 hbase
  rw [if_pos hgd]
  unfold Oper.wp execOp
  simp only [ho, resolve, invoke, builtin, Sem.run_bind, Sem.run_pure, Result.andThen_ok, List.map_toArray, List.map_cons, List.map_nil, hs, hx, hrun]
  exact h v' w' h2 h3 h4
end
theorem own_lt {w : World} {B n : Nat} {e : TypeId} {size : Nat} {v : Value} {xs : List Value} (h : w.ownsRow B e size v n xs) : ∀ b, v.ownBlock = some b → B ≤ b ∧ b < w.heap.size := fun b hb => by
  rcases h.2 with ⟨rfl, _⟩ | ⟨g, cap, cur, rfl, h1, hg, _⟩
  · cases hb
  · cases hb
    exact ⟨h1, (Array.getElem?_eq_some_iff.1 hg).1⟩
theorem own_zero {w : World} {base n c : Nat} {A : Option Addr} {xs : List Value} (h : w.ownsRow base 3 1 (.slice A n c) n xs) : w.ownsRow base 3 1 (.slice A 0 c) 0 [] := by
  refine ⟨rfl, ?_⟩
  rcases h.2 with ⟨hv, h0⟩ | ⟨g, cap, cur, hv, h1, hg, h2, h3, h4, h5⟩
  · injection hv with hA _ hc
    subst hA hc
    exact .inl ⟨rfl, rfl⟩
  · injection hv with hA _ hc
    subst hA hc
    exact .inr ⟨g, c, cur, rfl, h1, hg, by omega, h3, h4, by simp⟩
structure BM (base : Nat) (w : World) (B R cr : Nat) (us : List Un) (ls : List Loc) (c : Int) (bits wh : Nat) (V : Value) (L : List Int) : Prop where
  blk : Blk w B 59 #[.slice (some ⟨R, 0, none⟩) us.length cr, .int .i64 c, .int .i64 (bits : Int), .int .i64 (wh : Int), V]
  row : ∃ cur, Blk w R 63 cur ∧ ∀ (i : Nat) (u : Un) (l : Loc), us[i]? = some u → ls[i]? = some l → cur[i]? = some (.iface (ptU u.p.k) (.pointer (some ⟨l.g, 0, none⟩)))
  len : ls.length = us.length
  n : us.length ≤ 16
  cap : us.length ≤ cr
  own : w.ownsRow base 3 1 V L.length (ints L)
  ub : ∀ (i : Nat) (u : Un) (l : Loc), us[i]? = some u → ls[i]? = some l → UB w u l
  far : ∀ (i : Nat) (l : Loc), ls[i]? = some l → ∀ b, l.has b → base ≤ b ∧ b < w.heap.size ∧ b ≠ B ∧ b ≠ R ∧ V.ownBlock ≠ some b
  apart : ∀ (i j : Nat) (l k : Loc), ls[i]? = some l → ls[j]? = some k → i ≠ j → ∀ b, l.has b → ¬ k.has b
  geB : base ≤ B
  geR : base ≤ R
section
variable {base B R cr bits wh : Nat} {us : List Un} {ls : List Loc} {c : Int} {V : Value} {L : List Int} {w w' : World}
theorem BM.ownB (h : BM base w B R cr us ls c bits wh V L) : V.ownBlock ≠ some B := fun e => h.blk.apart h.own (by decide) _ e rfl
theorem BM.ownR (h : BM base w B R cr us ls c bits wh V L) : V.ownBlock ≠ some R := fun e => by
  obtain ⟨cur, hr, _⟩ := h.row
  exact hr.apart h.own (by decide) _ e rfl
theorem BM.neBR (h : BM base w B R cr us ls c bits wh V L) : B ≠ R := by
  obtain ⟨cur, hr, _⟩ := h.row
  exact h.blk.ne hr (by decide)
theorem BM.below (h : BM base w B R cr us ls c bits wh V L) (hb : Below w.heap.size w w') : BM base w' B R cr us ls c bits wh V L := by
  obtain ⟨cur, hr, hc⟩ := h.row
  exact ⟨h.blk.below hb, ⟨cur, hr.below hb, hc⟩, h.len, h.n, h.cap, own_below h.own hb, fun i u l hu hl => (h.ub i u l hu hl).below hb, fun i l hl b hb' => by
    obtain ⟨q1, q2, q3⟩ := h.far i l hl b hb'
    exact ⟨q1, Nat.lt_of_lt_of_le q2 hb.size, q3⟩, h.apart, h.geB, h.geR⟩
theorem BM.drewN (h : BM base w B R cr us ls c bits wh V L) (n : Nat) : BM base (w.drewN n) B R cr us ls c bits wh V L := h.below (below_drewN (Below.refl _ _) n)
/-- The leans' row turned (and made anew, may be), told in the box. -/
theorem BM.put {V' : Value} {L' : List Int} {w1 w2 : World} (h : BM base w B R cr us ls c bits wh V L) (hb : Below w.heap.size w w1) (hf : Frm (fun k => V.ownBlock = some k) w1 w2) (ho : w2.ownsRow base 3 1 V' L'.length (ints L'))
    (hn : V'.ownBlock = V.ownBlock ∨ ∀ k, V'.ownBlock = some k → w1.heap.size ≤ k) : BM base (w2.setCell ⟨B, 4, none⟩ V') B R cr us ls c bits wh V' L' := by
  have h1 := h.below hb
  have hB2 := h1.blk.frm hf h1.ownB
  have hs := (Frm.refl (fun k => k = B) w2).setCell (p := ⟨B, 4, none⟩) (fun _ => rfl) V'
  have hVB : V'.ownBlock ≠ some B := fun e => hB2.apart ho (by decide) _ e rfl
  obtain ⟨cur, hr, hc⟩ := h1.row
  refine ⟨?_, ⟨cur, (hr.frm hf h1.ownR).frm hs (fun e => h1.neBR e.symm), hc⟩, h.len, h.n, h.cap, hs.own ho (fun k hk e => hVB (by rw [hk, e])), fun i u l hu hl => ?_, fun i l hl b hb' => ?_, h.apart, h.geB, h.geR⟩
  · have := hB2.set 4 V'
    rw [List.setIfInBounds_toArray] at this
    exact this
  · refine ((h1.ub i u l hu hl).frm hf (fun b hb' => (h1.far i l hl b hb').2.2.2.2)).frm hs (fun b hb' => (h1.far i l hl b hb').2.2.1)
  · obtain ⟨q1, q2, q3, q4, q5⟩ := h1.far i l hl b hb'
    refine ⟨q1, Nat.lt_of_lt_of_le (Nat.lt_of_lt_of_le q2 hf.size) hs.size, q3, q4, ?_⟩
    rcases hn with hn | hn
    · rw [hn]; exact q5
    · intro e
      have := hn b e
      omega
/-- A cell of the box that is a number turned. -/
theorem BM.turn {c' : Int} {bits' wh' : Nat} (h : BM base w B R cr us ls c bits wh V L) (hf : Frm (fun k => k = B) w w') (hk : Blk w' B 59 #[.slice (some ⟨R, 0, none⟩) us.length cr, .int .i64 c', .int .i64 (bits' : Int), .int .i64 (wh' : Int), V]) : BM base w' B R cr us ls c' bits' wh' V L := by
  obtain ⟨cur, hr, hc⟩ := h.row
  exact ⟨hk, ⟨cur, hr.frm hf (fun e => h.neBR e.symm), hc⟩, h.len, h.n, h.cap, hf.own h.own (fun k hk e => h.ownB (by rw [hk, e])), fun i u l hu hl => (h.ub i u l hu hl).frm hf (fun b hb => (h.far i l hl b hb).2.2.1), fun i l hl b hb => by
    obtain ⟨q1, q2, q3⟩ := h.far i l hl b hb
    exact ⟨q1, Nat.lt_of_lt_of_le q2 hf.size, q3⟩, h.apart, h.geB, h.geR⟩
/-- A unit turned. -/
theorem BM.unit {i : Nat} {u u' : Un} {l : Loc} (h : BM base w B R cr us ls c bits wh V L) (hu : us[i]? = some u) (hl : ls[i]? = some l) (hp : u'.p.k = u.p.k) (hf : Frm l.has w w') (hub : UB w' u' l) : BM base w' B R cr (us.set i u') ls c bits wh V L := by
  obtain ⟨cur, hr, hc⟩ := h.row
  have hi := (List.getElem?_eq_some_iff.1 hu).1
  have hfl := h.far i l hl
  refine ⟨by rw [List.length_set]; exact h.blk.frm hf (fun e => (hfl _ e).2.2.1 rfl), ⟨cur, hr.frm hf (fun e => (hfl _ e).2.2.2.1 rfl), fun j v m hv hm => ?_⟩, by rw [List.length_set]; exact h.len, by rw [List.length_set]; exact h.n, by rw [List.length_set]; exact h.cap, hf.own h.own (fun k hk e => (hfl _ e).2.2.2.2 hk), fun j v m hv hm => ?_, fun j m hm b hb => ?_, h.apart, h.geB, h.geR⟩
  · by_cases he : i = j
    · subst he
      rw [List.getElem?_set_self hi] at hv
      injection hv with hv
      subst hv
      rw [hp]
      exact hc i u m hu hm
    · rw [List.getElem?_set_ne he] at hv
      exact hc j v m hv hm
  · by_cases he : i = j
    · subst he
      rw [List.getElem?_set_self hi] at hv
      injection hv with hv
      subst hv
      rw [hl] at hm
      injection hm with hm
      subst hm
      exact hub
    · rw [List.getElem?_set_ne he] at hv
      exact (h.ub j v m hv hm).frm hf (fun b hb hb2 => h.apart j i m l hm hl (fun e => he e.symm) b hb hb2)
  · obtain ⟨q1, q2, q3⟩ := h.far j m hm b hb
    exact ⟨q1, Nat.lt_of_lt_of_le q2 hf.size, q3⟩
theorem BM.nb {A : Option Addr} {m cp : Nat} (h : BM base w B R cr us ls c bits wh (.slice A m cp) L) (hm : m = L.length) (hl : L.length ≤ 16) : NB w B c bits wh A cp L := by
  subst hm
  refine ⟨h.blk.cell 1, h.blk.cell 2, h.blk.cell 3, h.blk.cell 4, fun j hj => ?_, ?_, hl⟩
  · rcases h.own.2 with ⟨hv, h0⟩ | ⟨g, cap, cur, hv, _⟩
    · omega
    · injection hv with hA _ hc
      subst hA hc
      have := h.own.cells (g := g) rfl j _ (show (ints L)[j]? = some (.int .i64 (L.getD j 0)) by rw [ints, List.getElem?_map, getD_some hj]; rfl)
      refine ⟨g, rfl, ?_⟩
      rw [addr_add, Nat.zero_add] at this
      exact this
  · rcases h.own.2 with ⟨hv, h0⟩ | ⟨g, cap, cur, hv, _, _, h2, _⟩
    · omega
    · injection hv with hA _ hc
      subst hc
      exact h2
end
end Go.Proofs.Ytnohfeaamfjimaa
