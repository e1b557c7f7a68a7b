/- What octets puts: a number of n bytes behind others, in memory of its own. For every row of bytes within the form's reach. -/
import Derived.Test.YtbmhfefbfocelaaTold
namespace Go.Proofs.Ytbmhfefbfocelaa
open Go.RowKit Go.WideShapes
set_option linter.unusedVariables false
set_option linter.unusedSimpArgs false
theorem tBytes : SlT Try.prog 22 5 (.int .u8 0) 1 := ⟨Try.underlying22, by kernel_rfl, rfl⟩
theorem own_take {w : World} {base n m : Nat} {e : TypeId} {g c : Nat} {xs : List Value} (h : w.ownsRow base e 1 (.slice (some ⟨g, 0, none⟩) (n + m) c) (n + m) xs) : w.ownsRow base e 1 (.slice (some ⟨g, 0, none⟩) n c) n (xs.take n) := by
  obtain ⟨hl, h⟩ := h
  refine ⟨by rw [List.length_take, hl]; omega, ?_⟩
  rcases h with ⟨h0, _⟩ | ⟨g', cap, cur, hv, hb, hg, hn, hc, hs, ht⟩
  · cases h0
  · injection hv with hv _ hc'
    injection hv with hv
    injection hv with hv
    subst hv hc'
    exact .inr ⟨g, c, cur, rfl, hb, hg, by omega, hc, hs, by rw [← ht, List.take_take]; congr 1; omega⟩
/-- Clip: no spare. -/
theorem clip_any (A : Option Addr) (L c : Nat) (w : World) (h : L ≤ c) :
    Calls Try.prog 49 #[.slice A L c] w fun e w' => e = .returned (.slice A L L) ∧ w = w' := by
  go_enter Try.func49, Try.ntmps49
  go_wp2
  go_ret
  exact ⟨rfl, rfl⟩
structure IsGrown (bs : List Int) (L : Nat) (w0 : World) (e : Ending) (w : World) : Prop where
  ex : ∃ g c, e = .returned (.slice (some ⟨g, 0, none⟩) L c) ∧ L ≤ c ∧ w.ownsRow w0.heap.size 5 1 (.slice (some ⟨g, 0, none⟩) L c) L (octs bs)
  low : Below w0.heap.size w0 w
set_option maxHeartbeats 1000000 in
theorem grow_any (bs : List Int) (A : Option Addr) (L m : Nat) (w : World) (hL : L = bs.length) (hr : Rd w A (octs bs)) (hm : 0 < m) (hm2 : m ≤ 100) (hb : L ≤ 140737488355000) :
    Calls Try.prog 48 #[.slice A L L, .int .i64 m] w (IsGrown bs L w) := by
  have HL := Lib.hid hL
  have HR := Lib.hid hr
  clear hL hr
  have hfit : Builtin.nextslicecap (L + m) L * 1 ≤ 281474976710656 := by have := nextcap_le (need := L + m) (old := L) (by omega); omega
  have HF := Lib.hid hfit
  clear hfit
  go_enter Try.func48, Try.ntmps48
  go_wp2_with (at_builtin; refine wpList_app_zeros tBytes rfl 3 Try.underlying3 rfl (.tmp 20) (.tmp 21) rfl A L m _ (octs bs) rfl rfl (by omega) (by rw [octs_length]; exact HL.out) HR.out hm HF.out (by omega) (by omega) ?_; intro g c1 w1 hc1 hown1 hb1)
  go_ret
  have := own_take hown1
  rw [List.take_left' (by rw [octs_length]; exact HL.out.symm)] at this
  exact ⟨⟨g, c1, rfl, by omega, this⟩, hb1⟩
/-- A slice of M bytes in memory of its own that reads as bs ++ cs. -/
structure IsPut (bs cs : List Int) (M : Nat) (w0 : World) (e : Ending) (w : World) : Prop where
  ex : ∃ A c, e = .returned (.slice A M c) ∧ M ≤ c ∧ (bs ++ cs).length = M ∧ w.ownsRow w0.heap.size 5 1 (.slice A M c) M (octs (bs ++ cs))
  low : Below w0.heap.size w0 w
theorem isPut_of {bs cs : List Int} {M : Nat} {w0 w : World} {v : Value} {xs : List Value} (h : w.ownsRow w0.heap.size 5 1 v M xs) (hx : xs = octs (bs ++ cs)) (hb : Below w0.heap.size w0 w) : IsPut bs cs M w0 (.returned v) w := by
  subst hx
  obtain ⟨A, c, rfl, hc⟩ := own_slice h
  exact ⟨⟨A, c, rfl, hc, by have := h.1; rw [octs_length] at this; omega, h⟩, hb⟩
theorem octs_snoc (l : List Int) (x : Int) : octs l ++ [.int .u8 x] = octs (l ++ [x]) := by simp [octs]
/-- The n bytes of a number, the greatest first. -/
def beI (v : Int) : Nat → List Int
  | 0 => []
  | n + 1 => beI (v / 256) n ++ [v % 256]
theorem beI_length : ∀ (n : Nat) (v : Int), (beI v n).length = n
  | 0, _ => rfl
  | n + 1, v => by simp [beI, beI_length n]
theorem beI_oct : ∀ (n : Nat) (v : Int), Oct (beI v n)
  | 0, _ => fun x hx => by cases hx
  | n + 1, v => (beI_oct n _).append (fun x hx => by simp at hx; omega)

theorem be1 (v : Int) (h0 : 0 ≤ v) (h1 : v ≤ 255) : beI v 1 = [v] := by
  simp only [beI, List.nil_append, List.cons_append]
  have e0 : v % 256 = v := by omega
  simp only [e0]
set_option maxRecDepth 100000 in
set_option maxHeartbeats 4000000 in
theorem put1 (bs : List Int) (v : Int) (A : Option Addr) (L c : Nat) (w : World) (hL : L = bs.length) (hr : Rd w A (octs bs)) (hc : L ≤ c) (hb : L ≤ 140737488355000) (h0 : 0 ≤ v) (h1 : v ≤ 255) :
    Calls Try.prog 40 #[.slice A L c, .int .u8 v, .int .i64 1] w (IsPut bs (beI v 1) (L + 1) w) := by
  have HL := Lib.hid hL
  have HR := Lib.hid hr
  clear hL hr
  go_enter Try.func40, Try.ntmps40
  go_wp2_with fail
  refine (clip_any A L c _ hc).mono ?_
  rintro e w1 ⟨rfl, rfl⟩
  go_wp2_with fail
  refine (grow_any bs A L 2 w HL.out HR.out (by omega) (by omega) hb).mono ?_
  rintro e w0 ⟨⟨g, c0, rfl, hc0, hown0⟩, hb0⟩
  go_wp2_with fail
  refine wp_loop_rounds 2 ?_
  rw [rounds_succ]
  go_wp2_with (at_builtin; refine wpList_app1 tBytes rfl (.tmp 22) (.tmp 27) rfl w.heap.size _ L _ rfl hown0 _ (by rfl) _ rfl rfl (by omega) (by unfold maxLen; omega) hb0.size ?_; intro v1 w1 hown1 _ hbb1)
  have hb1 : Below w.heap.size w w1 := hb0.trans hbb1
  rw [rounds_succ]
  go_wp2
  go_ret
  have hbe := be1 v h0 h1
  exact isPut_of hown1 (by rw [hbe]; simp [octs]) hb1
set_option maxHeartbeats 1000000 in
theorem add8 (bs : List Int) (v : Int) (A : Option Addr) (L c : Nat) (w : World) (hL : L = bs.length) (hr : Rd w A (octs bs)) (hc : L ≤ c) (hb : L ≤ 140737488355000) (h0 : 0 ≤ v) (h1 : v ≤ 255) :
    Calls Try.prog 22 #[.slice A L c, .int .u8 v] w (IsPut bs (beI v 1) (L + 1) w) := by
  have HL := Lib.hid hL
  have HR := Lib.hid hr
  clear hL hr
  go_enter Try.func22, Try.ntmps22
  go_wp2_with fail
  refine (put1 bs v A L c w HL.out HR.out hc hb h0 h1).mono ?_
  rintro e w1 ⟨⟨A1, c1, rfl, hc1, hl1, hown1⟩, hb1⟩
  go_wp2
  go_ret
  exact ⟨⟨A1, c1, rfl, hc1, hl1, hown1⟩, hb1⟩
theorem be2 (v : Int) (h0 : 0 ≤ v) (h1 : v ≤ 65535) : beI v 2 = [v / 256, v % 256] := by
  simp only [beI, List.nil_append, List.cons_append]
  have e0 : v / 256 % 256 = v / 256 := by omega
  have e1 : v % 256 = v % 256 := by omega
  simp only [e0, e1]
set_option maxRecDepth 100000 in
set_option maxHeartbeats 4000000 in
theorem put2 (bs : List Int) (v : Int) (A : Option Addr) (L c : Nat) (w : World) (hL : L = bs.length) (hr : Rd w A (octs bs)) (hc : L ≤ c) (hb : L ≤ 140737488355000) (h0 : 0 ≤ v) (h1 : v ≤ 65535) :
    Calls Try.prog 39 #[.slice A L c, .int .u16 v, .int .i64 2] w (IsPut bs (beI v 2) (L + 2) w) := by
  have HL := Lib.hid hL
  have HR := Lib.hid hr
  clear hL hr
  go_enter Try.func39, Try.ntmps39
  go_wp2_with fail
  refine (clip_any A L c _ hc).mono ?_
  rintro e w1 ⟨rfl, rfl⟩
  go_wp2_with fail
  refine (grow_any bs A L 3 w HL.out HR.out (by omega) (by omega) hb).mono ?_
  rintro e w0 ⟨⟨g, c0, rfl, hc0, hown0⟩, hb0⟩
  go_wp2_with fail
  refine wp_loop_rounds 3 ?_
  rw [rounds_succ]
  go_wp2_with (at_builtin; refine wpList_app1 tBytes rfl (.tmp 22) (.tmp 28) rfl w.heap.size _ L _ rfl hown0 _ (by rfl) _ rfl rfl (by omega) (by unfold maxLen; omega) hb0.size ?_; intro v1 w1 hown1 _ hbb1)
  have hb1 : Below w.heap.size w w1 := hb0.trans hbb1
  rw [rounds_succ]
  go_wp2_with (at_builtin; refine wpList_app1 tBytes rfl (.tmp 22) (.tmp 28) rfl w.heap.size _ (L + 1) _ rfl hown1 _ (by rfl) _ rfl rfl (by omega) (by unfold maxLen; omega) hb1.size ?_; intro v2 w2 hown2 _ hbb2)
  have hb2 : Below w.heap.size w w2 := hb1.trans hbb2
  rw [rounds_succ]
  go_wp2
  go_ret
  have hbe := be2 v h0 h1
  exact isPut_of hown2 (by rw [hbe]; simp [octs]) hb2
set_option maxHeartbeats 1000000 in
theorem add16 (bs : List Int) (v : Int) (A : Option Addr) (L c : Nat) (w : World) (hL : L = bs.length) (hr : Rd w A (octs bs)) (hc : L ≤ c) (hb : L ≤ 140737488355000) (h0 : 0 ≤ v) (h1 : v ≤ 65535) :
    Calls Try.prog 19 #[.slice A L c, .int .u16 v] w (IsPut bs (beI v 2) (L + 2) w) := by
  have HL := Lib.hid hL
  have HR := Lib.hid hr
  clear hL hr
  go_enter Try.func19, Try.ntmps19
  go_wp2_with fail
  refine (put2 bs v A L c w HL.out HR.out hc hb h0 h1).mono ?_
  rintro e w1 ⟨⟨A1, c1, rfl, hc1, hl1, hown1⟩, hb1⟩
  go_wp2
  go_ret
  exact ⟨⟨A1, c1, rfl, hc1, hl1, hown1⟩, hb1⟩
theorem be4 (v : Int) (h0 : 0 ≤ v) (h1 : v ≤ 4294967295) : beI v 4 = [v / 16777216, v / 65536 % 256, v / 256 % 256, v % 256] := by
  simp only [beI, List.nil_append, List.cons_append]
  have e0 : v / 256 / 256 / 256 % 256 = v / 16777216 := by omega
  have e1 : v / 256 / 256 % 256 = v / 65536 % 256 := by omega
  have e2 : v / 256 % 256 = v / 256 % 256 := by omega
  have e3 : v % 256 = v % 256 := by omega
  simp only [e0, e1, e2, e3]
set_option maxRecDepth 100000 in
set_option maxHeartbeats 4000000 in
theorem put4 (bs : List Int) (v : Int) (A : Option Addr) (L c : Nat) (w : World) (hL : L = bs.length) (hr : Rd w A (octs bs)) (hc : L ≤ c) (hb : L ≤ 140737488355000) (h0 : 0 ≤ v) (h1 : v ≤ 4294967295) :
    Calls Try.prog 38 #[.slice A L c, .int .u32 v, .int .i64 4] w (IsPut bs (beI v 4) (L + 4) w) := by
  have HL := Lib.hid hL
  have HR := Lib.hid hr
  clear hL hr
  go_enter Try.func38, Try.ntmps38
  go_wp2_with fail
  refine (clip_any A L c _ hc).mono ?_
  rintro e w1 ⟨rfl, rfl⟩
  go_wp2_with fail
  refine (grow_any bs A L 5 w HL.out HR.out (by omega) (by omega) hb).mono ?_
  rintro e w0 ⟨⟨g, c0, rfl, hc0, hown0⟩, hb0⟩
  go_wp2_with fail
  refine wp_loop_rounds 5 ?_
  rw [rounds_succ]
  go_wp2_with (at_builtin; refine wpList_app1 tBytes rfl (.tmp 22) (.tmp 28) rfl w.heap.size _ L _ rfl hown0 _ (by rfl) _ rfl rfl (by omega) (by unfold maxLen; omega) hb0.size ?_; intro v1 w1 hown1 _ hbb1)
  have hb1 : Below w.heap.size w w1 := hb0.trans hbb1
  rw [rounds_succ]
  go_wp2_with (at_builtin; refine wpList_app1 tBytes rfl (.tmp 22) (.tmp 28) rfl w.heap.size _ (L + 1) _ rfl hown1 _ (by rfl) _ rfl rfl (by omega) (by unfold maxLen; omega) hb1.size ?_; intro v2 w2 hown2 _ hbb2)
  have hb2 : Below w.heap.size w w2 := hb1.trans hbb2
  rw [rounds_succ]
  go_wp2_with (at_builtin; refine wpList_app1 tBytes rfl (.tmp 22) (.tmp 28) rfl w.heap.size _ (L + 2) _ rfl hown2 _ (by rfl) _ rfl rfl (by omega) (by unfold maxLen; omega) hb2.size ?_; intro v3 w3 hown3 _ hbb3)
  have hb3 : Below w.heap.size w w3 := hb2.trans hbb3
  rw [rounds_succ]
  go_wp2_with (at_builtin; refine wpList_app1 tBytes rfl (.tmp 22) (.tmp 28) rfl w.heap.size _ (L + 3) _ rfl hown3 _ (by rfl) _ rfl rfl (by omega) (by unfold maxLen; omega) hb3.size ?_; intro v4 w4 hown4 _ hbb4)
  have hb4 : Below w.heap.size w w4 := hb3.trans hbb4
  rw [rounds_succ]
  go_wp2
  go_ret
  have hbe := be4 v h0 h1
  exact isPut_of hown4 (by rw [hbe]; simp [octs]) hb4
set_option maxHeartbeats 1000000 in
theorem add32 (bs : List Int) (v : Int) (A : Option Addr) (L c : Nat) (w : World) (hL : L = bs.length) (hr : Rd w A (octs bs)) (hc : L ≤ c) (hb : L ≤ 140737488355000) (h0 : 0 ≤ v) (h1 : v ≤ 4294967295) :
    Calls Try.prog 18 #[.slice A L c, .int .u32 v] w (IsPut bs (beI v 4) (L + 4) w) := by
  have HL := Lib.hid hL
  have HR := Lib.hid hr
  clear hL hr
  go_enter Try.func18, Try.ntmps18
  go_wp2_with fail
  refine (put4 bs v A L c w HL.out HR.out hc hb h0 h1).mono ?_
  rintro e w1 ⟨⟨A1, c1, rfl, hc1, hl1, hown1⟩, hb1⟩
  go_wp2
  go_ret
  exact ⟨⟨A1, c1, rfl, hc1, hl1, hown1⟩, hb1⟩
theorem be8 (v : Int) (h0 : 0 ≤ v) (h1 : v ≤ 18446744073709551615) : beI v 8 = [v / 72057594037927936, v / 281474976710656 % 256, v / 1099511627776 % 256, v / 4294967296 % 256, v / 16777216 % 256, v / 65536 % 256, v / 256 % 256, v % 256] := by
  simp only [beI, List.nil_append, List.cons_append]
  have e0 : v / 256 / 256 / 256 / 256 / 256 / 256 / 256 % 256 = v / 72057594037927936 := by omega
  have e1 : v / 256 / 256 / 256 / 256 / 256 / 256 % 256 = v / 281474976710656 % 256 := by omega
  have e2 : v / 256 / 256 / 256 / 256 / 256 % 256 = v / 1099511627776 % 256 := by omega
  have e3 : v / 256 / 256 / 256 / 256 % 256 = v / 4294967296 % 256 := by omega
  have e4 : v / 256 / 256 / 256 % 256 = v / 16777216 % 256 := by omega
  have e5 : v / 256 / 256 % 256 = v / 65536 % 256 := by omega
  have e6 : v / 256 % 256 = v / 256 % 256 := by omega
  have e7 : v % 256 = v % 256 := by omega
  simp only [e0, e1, e2, e3, e4, e5, e6, e7]
set_option maxRecDepth 100000 in
set_option maxHeartbeats 4000000 in
theorem put8 (bs : List Int) (v : Int) (A : Option Addr) (L c : Nat) (w : World) (hL : L = bs.length) (hr : Rd w A (octs bs)) (hc : L ≤ c) (hb : L ≤ 140737488355000) (h0 : 0 ≤ v) (h1 : v ≤ 18446744073709551615) :
    Calls Try.prog 37 #[.slice A L c, .int .u64 v, .int .i64 8] w (IsPut bs (beI v 8) (L + 8) w) := by
  have HL := Lib.hid hL
  have HR := Lib.hid hr
  clear hL hr
  go_enter Try.func37, Try.ntmps37
  go_wp2_with fail
  refine (clip_any A L c _ hc).mono ?_
  rintro e w1 ⟨rfl, rfl⟩
  go_wp2_with fail
  refine (grow_any bs A L 9 w HL.out HR.out (by omega) (by omega) hb).mono ?_
  rintro e w0 ⟨⟨g, c0, rfl, hc0, hown0⟩, hb0⟩
  go_wp2_with fail
  refine wp_loop_rounds 9 ?_
  rw [rounds_succ]
  go_wp2_with (at_builtin; refine wpList_app1 tBytes rfl (.tmp 22) (.tmp 28) rfl w.heap.size _ L _ rfl hown0 _ (by rfl) _ rfl rfl (by omega) (by unfold maxLen; omega) hb0.size ?_; intro v1 w1 hown1 _ hbb1)
  have hb1 : Below w.heap.size w w1 := hb0.trans hbb1
  rw [rounds_succ]
  go_wp2_with (at_builtin; refine wpList_app1 tBytes rfl (.tmp 22) (.tmp 28) rfl w.heap.size _ (L + 1) _ rfl hown1 _ (by rfl) _ rfl rfl (by omega) (by unfold maxLen; omega) hb1.size ?_; intro v2 w2 hown2 _ hbb2)
  have hb2 : Below w.heap.size w w2 := hb1.trans hbb2
  rw [rounds_succ]
  go_wp2_with (at_builtin; refine wpList_app1 tBytes rfl (.tmp 22) (.tmp 28) rfl w.heap.size _ (L + 2) _ rfl hown2 _ (by rfl) _ rfl rfl (by omega) (by unfold maxLen; omega) hb2.size ?_; intro v3 w3 hown3 _ hbb3)
  have hb3 : Below w.heap.size w w3 := hb2.trans hbb3
  rw [rounds_succ]
  go_wp2_with (at_builtin; refine wpList_app1 tBytes rfl (.tmp 22) (.tmp 28) rfl w.heap.size _ (L + 3) _ rfl hown3 _ (by rfl) _ rfl rfl (by omega) (by unfold maxLen; omega) hb3.size ?_; intro v4 w4 hown4 _ hbb4)
  have hb4 : Below w.heap.size w w4 := hb3.trans hbb4
  rw [rounds_succ]
  go_wp2_with (at_builtin; refine wpList_app1 tBytes rfl (.tmp 22) (.tmp 28) rfl w.heap.size _ (L + 4) _ rfl hown4 _ (by rfl) _ rfl rfl (by omega) (by unfold maxLen; omega) hb4.size ?_; intro v5 w5 hown5 _ hbb5)
  have hb5 : Below w.heap.size w w5 := hb4.trans hbb5
  rw [rounds_succ]
  go_wp2_with (at_builtin; refine wpList_app1 tBytes rfl (.tmp 22) (.tmp 28) rfl w.heap.size _ (L + 5) _ rfl hown5 _ (by rfl) _ rfl rfl (by omega) (by unfold maxLen; omega) hb5.size ?_; intro v6 w6 hown6 _ hbb6)
  have hb6 : Below w.heap.size w w6 := hb5.trans hbb6
  rw [rounds_succ]
  go_wp2_with (at_builtin; refine wpList_app1 tBytes rfl (.tmp 22) (.tmp 28) rfl w.heap.size _ (L + 6) _ rfl hown6 _ (by rfl) _ rfl rfl (by omega) (by unfold maxLen; omega) hb6.size ?_; intro v7 w7 hown7 _ hbb7)
  have hb7 : Below w.heap.size w w7 := hb6.trans hbb7
  rw [rounds_succ]
  go_wp2_with (at_builtin; refine wpList_app1 tBytes rfl (.tmp 22) (.tmp 28) rfl w.heap.size _ (L + 7) _ rfl hown7 _ (by rfl) _ rfl rfl (by omega) (by unfold maxLen; omega) hb7.size ?_; intro v8 w8 hown8 _ hbb8)
  have hb8 : Below w.heap.size w w8 := hb7.trans hbb8
  rw [rounds_succ]
  go_wp2
  go_ret
  have hbe := be8 v h0 h1
  exact isPut_of hown8 (by rw [hbe]; simp [octs]) hb8
set_option maxHeartbeats 1000000 in
theorem add64 (bs : List Int) (v : Int) (A : Option Addr) (L c : Nat) (w : World) (hL : L = bs.length) (hr : Rd w A (octs bs)) (hc : L ≤ c) (hb : L ≤ 140737488355000) (h0 : 0 ≤ v) (h1 : v ≤ 18446744073709551615) :
    Calls Try.prog 15 #[.slice A L c, .int .u64 v] w (IsPut bs (beI v 8) (L + 8) w) := by
  have HL := Lib.hid hL
  have HR := Lib.hid hr
  clear hL hr
  go_enter Try.func15, Try.ntmps15
  go_wp2_with fail
  refine (put8 bs v A L c w HL.out HR.out hc hb h0 h1).mono ?_
  rintro e w1 ⟨⟨A1, c1, rfl, hc1, hl1, hown1⟩, hb1⟩
  go_wp2
  go_ret
  exact ⟨⟨A1, c1, rfl, hc1, hl1, hown1⟩, hb1⟩
end Go.Proofs.Ytbmhfefbfocelaa
