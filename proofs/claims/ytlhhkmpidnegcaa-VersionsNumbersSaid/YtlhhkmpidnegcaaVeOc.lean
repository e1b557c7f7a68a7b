/- Numbers and texts in bytes (octets): told, put; walks. Condition: lengths that fit. -/
import Derived.Test.YtlhhkmpidnegcaaVeMd
import Derived.Test.YtlhhkmpidnegcaaVePa
namespace Go.Proofs.Ytlhhkmpidnegcaa
open Go.RowKit Go.WideShapes Go.Maps
set_option linter.unusedVariables false
set_option linter.unusedSimpArgs false
set_option maxRecDepth 100000
theorem growBy_le (need : Nat) : ∀ (r c : Nat), c ≤ need + need / 4 + 192 → Builtin.growBy need r c ≤ need + need / 4 + 192
  | 0, c, h => h
  | r + 1, c, h => by
    unfold Builtin.growBy
    split
    · exact h
    · exact growBy_le need r _ (by omega)
theorem nextcap_le {need old : Nat} (h : old < need) : Builtin.nextslicecap need old ≤ need + need / 4 + 512 := by
  unfold Builtin.nextslicecap
  split
  · omega
  · split
    · omega
    · have := growBy_le need 4 old (by omega)
      omega
section
variable {P : Program} {t e : TypeId} {z : Value} {bytes : Nat}
theorem zeroCells_list (z : Value) (n : Nat) : (Builtin.zeroCells #[z] n).toList = List.replicate n z := by
  simp [Builtin.zeroCells]
  apply List.ext_getElem
  · simp
  · intro i h1 h2
    simp [Nat.mod_one]
end
section
variable {P : Program} {t e : TypeId} {z : Value} {bytes : Nat}
/-- 's[:cap(s)]' at a slice without spare, grown by m zeros: a row of its own. -/
theorem run_app_zeros (T : SlT P t e z bytes) (hz1 : z.cells = #[z]) (u : TypeId) (hu : P.underlying u = some (.int .i64)) (w : World) (ty : TypeId) (A : Option Addr) (n m : Nat) (xs : List Value) (hn : n = xs.length) (hr : Rd w A xs) (hm : 0 < m)
    (hfit : Builtin.nextslicecap (n + m) n * bytes ≤ 281474976710656) (hmb : m * bytes ≤ 281474976710656) (h63 : n + m ≤ 9223372036854775807) :
    ∃ g c w', (Builtin.append_ #[t, u] ty #[.slice A n n, .int .i64 m]).run P w = .ok (.slice (some ⟨g, 0, none⟩) (n + m) c) w' ∧ w'.ownsRow w.heap.size e 1 (.slice (some ⟨g, 0, none⟩) (n + m) c) (n + m) (xs ++ List.replicate m z) ∧ Below w.heap.size w w' := by
  obtain ⟨i, hi, hz, hs, hby⟩ := info_parts T.i
  subst hn
  have hw : IntKind.i64.wrap (m : Int) = (m : Int) := IntWalk.i64_in _ (by omega)
  have h0 : ¬ ((m : Int) < 0) := by omega
  have h2 : ¬ ((281474976710656 : Int) < (m : Int) * (i.bytes : Int)) := by
    have h : ((m * bytes : Nat) : Int) ≤ 281474976710656 := by omega
    rw [Int.natCast_mul] at h
    rw [hby]
    omega
  have h3 : ¬ (xs.length + m ≤ xs.length) := by omega
  have h4 : ¬ ((9223372036854775807 : Int) < ((xs.length : Int) + (m : Int))) := by omega
  have h5 : ¬ (281474976710656 < Builtin.nextslicecap (xs.length + m) xs.length * i.bytes) := by rw [hby]; omega
  have h6 : m ≠ 0 := by omega
  have hfo : (Builtin.firstCells 1 xs.length (.slice A xs.length xs.length)).run P w.drew = .ok xs.toArray w.drew := by
    rcases xs with _ | ⟨x, r⟩
    · cases A <;> simp [Builtin.firstCells, loadCells, loadCellsFrom]
    · obtain ⟨b, off, rfl, _, hc⟩ := hr (by simp)
      exact run_firstCells_some (P := P) w.drew 1 _ ⟨b, off, none⟩ _ _ (x :: r) (by simp) (fun j v hv => by rw [addr_add]; exact hc j v hv)
  have hai : ∀ w' : World, (asIntOf (.int .i64 (m : Int))).run P w' = .ok (.i64, (m : Int)) w' := fun _ => rfl
  refine ⟨w.heap.size, grownCap w (xs.length + m) xs.length e, w.drew.alloc (.cells (xs.toArray ++ Builtin.zeroCells z.cells m ++ Builtin.zeroCells z.cells (grownCap w (xs.length + m) xs.length e - (xs.length + m))) e), ?_, ?_, ?_⟩
  · simp [Builtin.append_, run_underlying T.u, run_underlying hu, sizeOf, typeInfo, zeroValue, hi, hz, hs, Builtin.lenOf, asInt, hai, hw, h0, h2, h3, h4, h5, h6, Question.forced, hfo, newRow, grownCap]
  · have hge := grownCap_ge w (xs.length + m) xs.length e
    have hcm : grownCap w (xs.length + m) xs.length e ≤ maxLen := grownCap_le_maxLen w _ _ e (by unfold maxLen; omega)
    refine ⟨by simp, .inr ⟨w.heap.size, _, _, rfl, Nat.le_refl _, heap_alloc_new w.drew _, hge, hcm, ?_, ?_⟩⟩
    · simp only [Array.size_append, List.size_toArray, size_zeroCells, hz1]
      simp
      omega
    · simp only [Array.toList_append, hz1, zeroCells_list]
      rw [List.take_left' (by simp)]
  · exact (Below.refl _ _).drew.alloc (by simp) _
end
section
variable {P : Program} {t e : TypeId} {z : Value} {bytes : Nat}
theorem wpList_app_zeros {ops : Array Oper} {rest : List Oper} {o : Oper} {a : Act} {w : World} {Q : Exit → Act → World → Prop} (T : SlT P t e z bytes) (hz1 : z.cells = #[z]) (u : TypeId) (hu : P.underlying u = some (.int .i64)) (hgd : Region.wanted o (yielded ops a.tmps) = true) (s x : Operand)
    (ho : o.op = .call { callee := .builtin .append, args := #[s, x], argTypes := #[t, u] })
    (A : Option Addr) (n m : Nat) (M : Int) (xs : List Value) (hs : a.eval s = .slice A n n) (hx : a.eval x = .int .i64 M) (hM : M = (m : Int)) (hn : n = xs.length) (hr : Rd w A xs) (hm : 0 < m)
    (hfit : Builtin.nextslicecap (n + m) n * bytes ≤ 281474976710656) (hmb : m * bytes ≤ 281474976710656) (h63 : n + m ≤ 9223372036854775807)
    (h : ∀ g c w', n + m ≤ c → w'.ownsRow w.heap.size e 1 (.slice (some ⟨g, 0, none⟩) (n + m) c) (n + m) (xs ++ List.replicate m z) → Below w.heap.size w w' → wpList P ops Q rest (a.put o.dst (.slice (some ⟨g, 0, none⟩) (n + m) c)) w') : wpList P ops Q (o :: rest) a w := by
  subst hM
  obtain ⟨g, c, w', hrun, h2, h3⟩ := run_app_zeros T hz1 u hu w o.type A n m xs hn hr hm hfit hmb h63
  have hc : n + m ≤ c := by
    obtain ⟨_, _, hv, hle⟩ := own_slice h2
    injection hv with _ _ hc
    omega
  refine wpList_want hgd fun K hK => ?_
  unfold Oper.wp execOp
  simp only [ho, resolve, invoke, builtin, Sem.run_bind, Sem.run_pure, Result.andThen_ok, List.map_toArray, List.map_cons, List.map_nil, hs, hx, hrun]
  exact hK _ _ (h g c w' hc h2 h3)
end
theorem octs_at {l : List Int} {k : Nat} (h : k < l.length) : (octs l)[k]? = some (.int .u8 (l.getD k 0)) := by
  unfold octs
  rw [List.getElem?_map, List.getD_eq_getElem?_getD, List.getElem?_eq_getElem h]
  rfl
def valI (l : List Int) : Int := l.foldl (fun v x => v * 256 + x) 0
/-- The n bytes at a place, as a number. -/
def numI (l : List Int) (k n : Nat) : Int := valI ((l.drop k).take n)
theorem take_drop_cons (l : List Int) (k n : Nat) (h : k < l.length) : (l.drop k).take (n + 1) = l.getD k 0 :: (l.drop (k + 1)).take n := by
  rw [List.drop_eq_getElem_cons h, List.take_succ_cons, List.getD_eq_getElem?_getD, List.getElem?_eq_getElem h]
  rfl
theorem ret_two {k : IntKind} {x y : Int} {b c : Bool} (h : x = y) (h' : b = c) : Ending.returned (.tuple #[.int k x, .bool b]) = .returned (.tuple #[.int k y, .bool c]) := by rw [h, h']

theorem numI_2 (l : List Int) (k : Nat) (h : k + 2 ≤ l.length) : numI l k 2 = l.getD k 0 * 256 + l.getD (k + 1) 0 := by
  unfold numI
  rw [take_drop_cons l (k) 1 (by omega)]
  rw [take_drop_cons l (k + 1) 0 (by omega)]
  simp only [List.take_zero, valI, List.foldl_cons, List.foldl_nil]
  omega
set_option maxRecDepth 100000 in
set_option maxHeartbeats 4000000 in
theorem told2_yes (bs : List Int) (A : Option Addr) (L c k : Nat) (w : World) (hL : L = bs.length) (ho : Oct bs) (hr : Rd w A (octs bs)) (h1 : k + 2 ≤ L) (h2 : L ≤ c) (hm : c ≤ maxLen) :
    Calls Try.prog 80 #[.slice A L c, .int .i64 k, .int .i64 2] w fun e w' => e = .returned (.tuple #[.int .u16 (numI bs k 2), .bool true]) ∧ w = w' := by
  unfold maxLen at hm
  have hn := numI_2 bs k (by omega)
  have HN := Lib.hid hn
  clear hn
  obtain ⟨b, off, rfl, _, hcell⟩ := hr (by rw [octs_length]; omega)
  have b0 := ho.getD (k)
  have d0 := hcell (k) _ (octs_at (by omega))
  have b1 := ho.getD (k + 1)
  have d1 := hcell (k + 1) _ (octs_at (by omega))
  clear hcell ho
  generalize bs.getD k 0 = c0 at *
  generalize bs.getD (k + 1) 0 = c1 at *
  rw [show off + (k + 1) = off + k + 1 from by omega] at d1
  have HL := Lib.hid hL
  clear hL
  have g1 : (k : Int) + 2 ≤ L := by omega
  have g2 : ¬ c = k := by omega
  go_enter Try.func80, Try.ntmps80
  go_wp2_with fail
  refine wp_loop_rounds 3 ?_
  rw [rounds_succ]
  go_wp2
  rw [rounds_succ]
  go_wp2
  rw [rounds_succ]
  go_wp2
  go_ret2
  refine ⟨ret_two ?_ rfl, rfl⟩
  have e := HN.out
  rw [e]
set_option maxHeartbeats 1000000 in
theorem told2_no (A : Option Addr) (L c : Nat) (at_ : Int) (w : World) (hm : L ≤ 9223372036854775807) (hlo : -9223372036854775808 ≤ at_) (hhi : at_ ≤ 9223372036854775807) (h : ¬ (0 ≤ at_ ∧ at_ + 2 ≤ L)) :
    Calls Try.prog 80 #[.slice A L c, .int .i64 at_, .int .i64 2] w fun e w' => e = .returned (.tuple #[.int .u16 0, .bool false]) ∧ w = w' := by
  rcases (show at_ < 0 ∨ (0 ≤ at_ ∧ (L : Int) < at_) ∨ (0 ≤ at_ ∧ at_ ≤ (L : Int) ∧ (L : Int) - at_ < 2) from by omega) with h1 | ⟨h1, h2⟩ | ⟨h1, h2, h3⟩
  all_goals
    clear h
    go_enter Try.func80, Try.ntmps80
    go_wp2
    go_ret2
    exact ⟨rfl, rfl⟩
set_option maxHeartbeats 1000000 in
theorem u16_yes (bs : List Int) (A : Option Addr) (L c k : Nat) (w : World) (hL : L = bs.length) (ho : Oct bs) (hr : Rd w A (octs bs)) (h1 : k + 2 ≤ L) (h2 : L ≤ c) (hm : c ≤ maxLen) :
    Calls Try.prog 62 #[.slice A L c, .int .i64 k] w fun e w' => e = .returned (.tuple #[.int .u16 (numI bs k 2), .bool true]) ∧ w = w' := by
  have HL := Lib.hid hL
  have HM := Lib.hid hm
  have HR := Lib.hid hr
  have HO := Lib.hid ho
  clear hL hm hr ho
  go_enter Try.func62, Try.ntmps62
  go_wp2_with fail
  refine (told2_yes bs A L c k _ HL.out HO.out HR.out h1 h2 HM.out).mono ?_
  rintro e w1 ⟨rfl, rfl⟩
  go_wp2
  go_ret2
  exact ⟨rfl, rfl⟩
theorem u16_no (A : Option Addr) (L c : Nat) (at_ : Int) (w : World) (hm : L ≤ 9223372036854775807) (hlo : -9223372036854775808 ≤ at_) (hhi : at_ ≤ 9223372036854775807) (h : ¬ (0 ≤ at_ ∧ at_ + 2 ≤ L)) :
    Calls Try.prog 62 #[.slice A L c, .int .i64 at_] w fun e w' => e = .returned (.tuple #[.int .u16 0, .bool false]) ∧ w = w' := by
  go_enter Try.func62, Try.ntmps62
  go_wp2_with fail
  refine (told2_no A L c at_ _ hm hlo hhi h).mono ?_
  rintro e w1 ⟨rfl, rfl⟩
  go_wp2
  go_ret2
  exact ⟨rfl, rfl⟩
theorem numI_4 (l : List Int) (k : Nat) (h : k + 4 ≤ l.length) : numI l k 4 = l.getD k 0 * 16777216 + l.getD (k + 1) 0 * 65536 + l.getD (k + 2) 0 * 256 + l.getD (k + 3) 0 := by
  unfold numI
  rw [take_drop_cons l (k) 3 (by omega)]
  rw [take_drop_cons l (k + 1) 2 (by omega)]
  rw [take_drop_cons l (k + 2) 1 (by omega)]
  rw [take_drop_cons l (k + 3) 0 (by omega)]
  simp only [List.take_zero, valI, List.foldl_cons, List.foldl_nil]
  omega
set_option maxRecDepth 100000 in
set_option maxHeartbeats 4000000 in
theorem told4_yes (bs : List Int) (A : Option Addr) (L c k : Nat) (w : World) (hL : L = bs.length) (ho : Oct bs) (hr : Rd w A (octs bs)) (h1 : k + 4 ≤ L) (h2 : L ≤ c) (hm : c ≤ maxLen) :
    Calls Try.prog 81 #[.slice A L c, .int .i64 k, .int .i64 4] w fun e w' => e = .returned (.tuple #[.int .u32 (numI bs k 4), .bool true]) ∧ w = w' := by
  unfold maxLen at hm
  have hn := numI_4 bs k (by omega)
  have HN := Lib.hid hn
  clear hn
  obtain ⟨b, off, rfl, _, hcell⟩ := hr (by rw [octs_length]; omega)
  have b0 := ho.getD (k)
  have d0 := hcell (k) _ (octs_at (by omega))
  have b1 := ho.getD (k + 1)
  have d1 := hcell (k + 1) _ (octs_at (by omega))
  have b2 := ho.getD (k + 2)
  have d2 := hcell (k + 2) _ (octs_at (by omega))
  have b3 := ho.getD (k + 3)
  have d3 := hcell (k + 3) _ (octs_at (by omega))
  clear hcell ho
  generalize bs.getD k 0 = c0 at *
  generalize bs.getD (k + 1) 0 = c1 at *
  rw [show off + (k + 1) = off + k + 1 from by omega] at d1
  generalize bs.getD (k + 2) 0 = c2 at *
  rw [show off + (k + 2) = off + k + 2 from by omega] at d2
  generalize bs.getD (k + 3) 0 = c3 at *
  rw [show off + (k + 3) = off + k + 3 from by omega] at d3
  have HL := Lib.hid hL
  clear hL
  have g1 : (k : Int) + 4 ≤ L := by omega
  have g2 : ¬ c = k := by omega
  go_enter Try.func81, Try.ntmps81
  go_wp2_with fail
  refine wp_loop_rounds 5 ?_
  rw [rounds_succ]
  go_wp2
  rw [rounds_succ]
  go_wp2
  rw [rounds_succ]
  go_wp2
  rw [rounds_succ]
  go_wp2
  rw [rounds_succ]
  go_wp2
  go_ret2
  refine ⟨ret_two ?_ rfl, rfl⟩
  have e := HN.out
  rw [e]
set_option maxHeartbeats 1000000 in
theorem told4_no (A : Option Addr) (L c : Nat) (at_ : Int) (w : World) (hm : L ≤ 9223372036854775807) (hlo : -9223372036854775808 ≤ at_) (hhi : at_ ≤ 9223372036854775807) (h : ¬ (0 ≤ at_ ∧ at_ + 4 ≤ L)) :
    Calls Try.prog 81 #[.slice A L c, .int .i64 at_, .int .i64 4] w fun e w' => e = .returned (.tuple #[.int .u32 0, .bool false]) ∧ w = w' := by
  rcases (show at_ < 0 ∨ (0 ≤ at_ ∧ (L : Int) < at_) ∨ (0 ≤ at_ ∧ at_ ≤ (L : Int) ∧ (L : Int) - at_ < 4) from by omega) with h1 | ⟨h1, h2⟩ | ⟨h1, h2, h3⟩
  all_goals
    clear h
    go_enter Try.func81, Try.ntmps81
    go_wp2
    go_ret2
    exact ⟨rfl, rfl⟩
set_option maxHeartbeats 1000000 in
theorem u32_yes (bs : List Int) (A : Option Addr) (L c k : Nat) (w : World) (hL : L = bs.length) (ho : Oct bs) (hr : Rd w A (octs bs)) (h1 : k + 4 ≤ L) (h2 : L ≤ c) (hm : c ≤ maxLen) :
    Calls Try.prog 63 #[.slice A L c, .int .i64 k] w fun e w' => e = .returned (.tuple #[.int .u32 (numI bs k 4), .bool true]) ∧ w = w' := by
  have HL := Lib.hid hL
  have HM := Lib.hid hm
  have HR := Lib.hid hr
  have HO := Lib.hid ho
  clear hL hm hr ho
  go_enter Try.func63, Try.ntmps63
  go_wp2_with fail
  refine (told4_yes bs A L c k _ HL.out HO.out HR.out h1 h2 HM.out).mono ?_
  rintro e w1 ⟨rfl, rfl⟩
  go_wp2
  go_ret2
  exact ⟨rfl, rfl⟩
theorem u32_no (A : Option Addr) (L c : Nat) (at_ : Int) (w : World) (hm : L ≤ 9223372036854775807) (hlo : -9223372036854775808 ≤ at_) (hhi : at_ ≤ 9223372036854775807) (h : ¬ (0 ≤ at_ ∧ at_ + 4 ≤ L)) :
    Calls Try.prog 63 #[.slice A L c, .int .i64 at_] w fun e w' => e = .returned (.tuple #[.int .u32 0, .bool false]) ∧ w = w' := by
  go_enter Try.func63, Try.ntmps63
  go_wp2_with fail
  refine (told4_no A L c at_ _ hm hlo hhi h).mono ?_
  rintro e w1 ⟨rfl, rfl⟩
  go_wp2
  go_ret2
  exact ⟨rfl, rfl⟩
theorem own_take {w : World} {base n m : Nat} {e : TypeId} {g c : Nat} {xs : List Value} (h : w.ownsRow base e 1 (.slice (some ⟨g, 0, none⟩) (n + m) c) (n + m) xs) : w.ownsRow base e 1 (.slice (some ⟨g, 0, none⟩) n c) n (xs.take n) := by
  obtain ⟨hl, h⟩ := h
  refine ⟨by rw [List.length_take, hl]; omega, ?_⟩
  rcases h with ⟨h0, _⟩ | ⟨g', cap, cur, hv, hb, hg, hn, hc, hs, ht⟩
  · cases h0
  · injection hv with hv _ hc'
    injection hv with hv
    injection hv with hv
    subst hv hc'
    exact .inr ⟨g, c, cur, rfl, hb, hg, by omega, hc, hs, by rw [← ht, List.take_take]; congr 1; omega⟩
/-- Clip: no spare. -/
theorem clip_any (A : Option Addr) (L c : Nat) (w : World) (h : L ≤ c) :
    Calls Try.prog 84 #[.slice A L c] w fun e w' => e = .returned (.slice A L L) ∧ w = w' := by
  go_enter Try.func84, Try.ntmps84
  go_wp2
  go_ret
  exact ⟨rfl, rfl⟩
structure IsGrown (bs : List Int) (L : Nat) (w0 : World) (e : Ending) (w : World) : Prop where
  ex : ∃ g c, e = .returned (.slice (some ⟨g, 0, none⟩) L c) ∧ L ≤ c ∧ w.ownsRow w0.heap.size 5 1 (.slice (some ⟨g, 0, none⟩) L c) L (octs bs)
  low : Below w0.heap.size w0 w
set_option maxHeartbeats 1000000 in
theorem grow_any (bs : List Int) (A : Option Addr) (L m : Nat) (w : World) (hL : L = bs.length) (hr : Rd w A (octs bs)) (hm : 0 < m) (hm2 : m ≤ 100) (hb : L ≤ 140737488355000) :
    Calls Try.prog 83 #[.slice A L L, .int .i64 m] w (IsGrown bs L w) := by
  have HL := Lib.hid hL
  have HR := Lib.hid hr
  clear hL hr
  have hfit : Builtin.nextslicecap (L + m) L * 1 ≤ 281474976710656 := by have := nextcap_le (need := L + m) (old := L) (by omega); omega
  have HF := Lib.hid hfit
  clear hfit
  go_enter Try.func83, Try.ntmps83
  go_wp2_with (at_builtin; refine wpList_app_zeros tBytes rfl 3 Try.underlying3 rfl (.tmp 20) (.tmp 21) rfl A L m _ (octs bs) rfl rfl (by omega) (by rw [octs_length]; exact HL.out) HR.out hm HF.out (by omega) (by omega) ?_; intro g c1 w1 hc1 hown1 hb1)
  go_ret
  have := own_take hown1
  rw [List.take_left' (by rw [octs_length]; exact HL.out.symm)] at this
  exact ⟨⟨g, c1, rfl, by omega, this⟩, hb1⟩
/-- A slice of M bytes in memory of its own that reads as bs ++ cs. -/
structure IsPut (bs cs : List Int) (M : Nat) (w0 : World) (e : Ending) (w : World) : Prop where
  ex : ∃ A c, e = .returned (.slice A M c) ∧ M ≤ c ∧ (bs ++ cs).length = M ∧ w.ownsRow w0.heap.size 5 1 (.slice A M c) M (octs (bs ++ cs))
  low : Below w0.heap.size w0 w
theorem isPut_of {bs cs : List Int} {M : Nat} {w0 w : World} {v : Value} {xs : List Value} (h : w.ownsRow w0.heap.size 5 1 v M xs) (hx : xs = octs (bs ++ cs)) (hb : Below w0.heap.size w0 w) : IsPut bs cs M w0 (.returned v) w := by
  subst hx
  obtain ⟨A, c, rfl, hc⟩ := own_slice h
  exact ⟨⟨A, c, rfl, hc, by have := h.1; rw [octs_length] at this; omega, h⟩, hb⟩
theorem octs_snocC (l : List Int) (x : Int) : octs l ++ [.int .u8 x] = octs (l ++ [x]) := by simp [octs]
/-- The n bytes of a number, the greatest first. -/
def beI (v : Int) : Nat → List Int
  | 0 => []
  | n + 1 => beI (v / 256) n ++ [v % 256]
theorem beI_length : ∀ (n : Nat) (v : Int), (beI v n).length = n
  | 0, _ => rfl
  | n + 1, v => by simp [beI, beI_length n]
theorem beI_oct : ∀ (n : Nat) (v : Int), Oct (beI v n)
  | 0, _ => fun x hx => by cases hx
  | n + 1, v => (beI_oct n _).append (fun x hx => by simp at hx; omega)

theorem be2 (v : Int) (h0 : 0 ≤ v) (h1 : v ≤ 65535) : beI v 2 = [v / 256, v % 256] := by
  simp only [beI, List.nil_append, List.cons_append]
  have e0 : v / 256 % 256 = v / 256 := by omega
  have e1 : v % 256 = v % 256 := by omega
  simp only [e0, e1]
set_option maxRecDepth 100000 in
set_option maxHeartbeats 4000000 in
theorem put2 (bs : List Int) (v : Int) (A : Option Addr) (L c : Nat) (w : World) (hL : L = bs.length) (hr : Rd w A (octs bs)) (hc : L ≤ c) (hb : L ≤ 140737488355000) (h0 : 0 ≤ v) (h1 : v ≤ 65535) :
    Calls Try.prog 78 #[.slice A L c, .int .u16 v, .int .i64 2] w (IsPut bs (beI v 2) (L + 2) w) := by
  have HL := Lib.hid hL
  have HR := Lib.hid hr
  clear hL hr
  go_enter Try.func78, Try.ntmps78
  go_wp2_with fail
  refine (clip_any A L c _ hc).mono ?_
  rintro e w1 ⟨rfl, rfl⟩
  go_wp2_with fail
  refine (grow_any bs A L 3 w HL.out HR.out (by omega) (by omega) hb).mono ?_
  rintro e w0 ⟨⟨g, c0, rfl, hc0, hown0⟩, hb0⟩
  go_wp2_with fail
  refine wp_loop_rounds 3 ?_
  rw [rounds_succ]
  go_wp2_with (at_builtin; refine wpList_app1 tBytes rfl (.tmp 22) (.tmp 28) rfl w.heap.size _ L _ rfl hown0 _ (by rfl) _ rfl rfl (by omega) (by unfold maxLen; omega) hb0.size ?_; intro v1 w1 hown1 _ hbb1)
  have hb1 : Below w.heap.size w w1 := hb0.trans hbb1
  rw [rounds_succ]
  go_wp2_with (at_builtin; refine wpList_app1 tBytes rfl (.tmp 22) (.tmp 28) rfl w.heap.size _ (L + 1) _ rfl hown1 _ (by rfl) _ rfl rfl (by omega) (by unfold maxLen; omega) hb1.size ?_; intro v2 w2 hown2 _ hbb2)
  have hb2 : Below w.heap.size w w2 := hb1.trans hbb2
  rw [rounds_succ]
  go_wp2
  go_ret
  have hbe := be2 v h0 h1
  exact isPut_of hown2 (by rw [hbe]; simp [octs]) hb2
set_option maxHeartbeats 1000000 in
theorem add16 (bs : List Int) (v : Int) (A : Option Addr) (L c : Nat) (w : World) (hL : L = bs.length) (hr : Rd w A (octs bs)) (hc : L ≤ c) (hb : L ≤ 140737488355000) (h0 : 0 ≤ v) (h1 : v ≤ 65535) :
    Calls Try.prog 56 #[.slice A L c, .int .u16 v] w (IsPut bs (beI v 2) (L + 2) w) := by
  have HL := Lib.hid hL
  have HR := Lib.hid hr
  clear hL hr
  go_enter Try.func56, Try.ntmps56
  go_wp2_with fail
  refine (put2 bs v A L c w HL.out HR.out hc hb h0 h1).mono ?_
  rintro e w1 ⟨⟨A1, c1, rfl, hc1, hl1, hown1⟩, hb1⟩
  go_wp2
  go_ret
  exact ⟨⟨A1, c1, rfl, hc1, hl1, hown1⟩, hb1⟩
theorem be4 (v : Int) (h0 : 0 ≤ v) (h1 : v ≤ 4294967295) : beI v 4 = [v / 16777216, v / 65536 % 256, v / 256 % 256, v % 256] := by
  simp only [beI, List.nil_append, List.cons_append]
  have e0 : v / 256 / 256 / 256 % 256 = v / 16777216 := by omega
  have e1 : v / 256 / 256 % 256 = v / 65536 % 256 := by omega
  have e2 : v / 256 % 256 = v / 256 % 256 := by omega
  have e3 : v % 256 = v % 256 := by omega
  simp only [e0, e1, e2, e3]
set_option maxRecDepth 100000 in
set_option maxHeartbeats 4000000 in
theorem put4 (bs : List Int) (v : Int) (A : Option Addr) (L c : Nat) (w : World) (hL : L = bs.length) (hr : Rd w A (octs bs)) (hc : L ≤ c) (hb : L ≤ 140737488355000) (h0 : 0 ≤ v) (h1 : v ≤ 4294967295) :
    Calls Try.prog 77 #[.slice A L c, .int .u32 v, .int .i64 4] w (IsPut bs (beI v 4) (L + 4) w) := by
  have HL := Lib.hid hL
  have HR := Lib.hid hr
  clear hL hr
  go_enter Try.func77, Try.ntmps77
  go_wp2_with fail
  refine (clip_any A L c _ hc).mono ?_
  rintro e w1 ⟨rfl, rfl⟩
  go_wp2_with fail
  refine (grow_any bs A L 5 w HL.out HR.out (by omega) (by omega) hb).mono ?_
  rintro e w0 ⟨⟨g, c0, rfl, hc0, hown0⟩, hb0⟩
  go_wp2_with fail
  refine wp_loop_rounds 5 ?_
  rw [rounds_succ]
  go_wp2_with (at_builtin; refine wpList_app1 tBytes rfl (.tmp 22) (.tmp 28) rfl w.heap.size _ L _ rfl hown0 _ (by rfl) _ rfl rfl (by omega) (by unfold maxLen; omega) hb0.size ?_; intro v1 w1 hown1 _ hbb1)
  have hb1 : Below w.heap.size w w1 := hb0.trans hbb1
  rw [rounds_succ]
  go_wp2_with (at_builtin; refine wpList_app1 tBytes rfl (.tmp 22) (.tmp 28) rfl w.heap.size _ (L + 1) _ rfl hown1 _ (by rfl) _ rfl rfl (by omega) (by unfold maxLen; omega) hb1.size ?_; intro v2 w2 hown2 _ hbb2)
  have hb2 : Below w.heap.size w w2 := hb1.trans hbb2
  rw [rounds_succ]
  go_wp2_with (at_builtin; refine wpList_app1 tBytes rfl (.tmp 22) (.tmp 28) rfl w.heap.size _ (L + 2) _ rfl hown2 _ (by rfl) _ rfl rfl (by omega) (by unfold maxLen; omega) hb2.size ?_; intro v3 w3 hown3 _ hbb3)
  have hb3 : Below w.heap.size w w3 := hb2.trans hbb3
  rw [rounds_succ]
  go_wp2_with (at_builtin; refine wpList_app1 tBytes rfl (.tmp 22) (.tmp 28) rfl w.heap.size _ (L + 3) _ rfl hown3 _ (by rfl) _ rfl rfl (by omega) (by unfold maxLen; omega) hb3.size ?_; intro v4 w4 hown4 _ hbb4)
  have hb4 : Below w.heap.size w w4 := hb3.trans hbb4
  rw [rounds_succ]
  go_wp2
  go_ret
  have hbe := be4 v h0 h1
  exact isPut_of hown4 (by rw [hbe]; simp [octs]) hb4
set_option maxHeartbeats 1000000 in
theorem add32 (bs : List Int) (v : Int) (A : Option Addr) (L c : Nat) (w : World) (hL : L = bs.length) (hr : Rd w A (octs bs)) (hc : L ≤ c) (hb : L ≤ 140737488355000) (h0 : 0 ≤ v) (h1 : v ≤ 4294967295) :
    Calls Try.prog 55 #[.slice A L c, .int .u32 v] w (IsPut bs (beI v 4) (L + 4) w) := by
  have HL := Lib.hid hL
  have HR := Lib.hid hr
  clear hL hr
  go_enter Try.func55, Try.ntmps55
  go_wp2_with fail
  refine (put4 bs v A L c w HL.out HR.out hc hb h0 h1).mono ?_
  rintro e w1 ⟨⟨A1, c1, rfl, hc1, hl1, hown1⟩, hb1⟩
  go_wp2
  go_ret
  exact ⟨⟨A1, c1, rfl, hc1, hl1, hown1⟩, hb1⟩
def strI (s : ByteArray) : List Int := s.data.toList.map fun b => (b.toNat : Int)
theorem strI_length (s : ByteArray) : (strI s).length = s.size := by unfold strI; rw [List.length_map, Array.length_toList]; rfl
theorem strI_oct (s : ByteArray) : Oct (strI s) := fun x hx => by
  obtain ⟨b, _, rfl⟩ := List.mem_map.1 hx
  have := b.toNat_lt
  omega
theorem strI_cells (s : ByteArray) : Go.Lib.strCells s = octs (strI s) := by unfold Go.Lib.strCells octs strI; rw [List.map_map]; rfl
structure IsPutE (bs cs : List Int) (M : Nat) (w0 : World) (e : Ending) (w : World) : Prop where
  ex : ∃ A c, e = .returned (.tuple #[.slice A M c, .int .i64 0]) ∧ M ≤ c ∧ (bs ++ cs).length = M ∧ w.ownsRow w0.heap.size 5 1 (.slice A M c) M (octs (bs ++ cs))
  low : Below w0.heap.size w0 w
set_option maxHeartbeats 1000000 in
theorem addText_yes (bs : List Int) (s : ByteArray) (A : Option Addr) (L c : Nat) (w : World) (hL : L = bs.length) (hr : Rd w A (octs bs)) (hc : L ≤ c) (hb : L ≤ 70368744177664) (hs : s.size ≤ 65535) :
    Calls Try.prog 57 #[.slice A L c, .string s] w (IsPutE bs (beI s.size 2 ++ strI s) (L + 2 + s.size) w) := by
  have HL := Lib.hid hL
  have HR := Lib.hid hr
  clear hL hr
  have hsz : (s.size : Int) ≤ 65535 := by omega
  go_enter Try.func57, Try.ntmps57
  go_wp2_with fail
  refine (add16 bs s.size A L c w HL.out HR.out hc (by omega) (by omega) (by omega)).mono ?_
  rintro e w1 ⟨⟨A1, c1, rfl, hc1, hl1, hown1⟩, hb1⟩
  go_wp2_with (at_builtin; refine wpList_app_string tBytes 9 Try.underlying9 rfl (.tmp 14) (.tmp 15) rfl w.heap.size _ (L + 2) _ rfl hown1 s rfl (by omega) hb1.size ?_; intro v2 w2 hown2 _ hb2)
  rw [strI_cells, show octs (bs ++ beI s.size 2) ++ octs (strI s) = octs (bs ++ (beI s.size 2 ++ strI s)) by simp [octs]] at hown2
  obtain ⟨A2, c2, rfl, hc2⟩ := own_slice hown2
  go_ret2
  exact ⟨⟨A2, c2, rfl, hc2, by have := hown2.1; rw [octs_length] at this; omega, hown2⟩, hb1.trans hb2⟩
end Go.Proofs.Ytlhhkmpidnegcaa
