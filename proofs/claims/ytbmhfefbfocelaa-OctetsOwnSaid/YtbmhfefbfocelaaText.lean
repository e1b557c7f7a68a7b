/- Texts in octets: put behind bytes, told at a place. For rows of at most 2^46 bytes. -/
import Derived.Test.YtbmhfefbfocelaaPut
namespace Go.Proofs.Ytbmhfefbfocelaa
open Go.RowKit Go.WideShapes
set_option linter.unusedVariables false
def strI (s : ByteArray) : List Int := s.data.toList.map fun b => (b.toNat : Int)
theorem strI_length (s : ByteArray) : (strI s).length = s.size := by unfold strI; rw [List.length_map, Array.length_toList]; rfl
theorem strI_oct (s : ByteArray) : Oct (strI s) := fun x hx => by
  obtain ⟨b, _, rfl⟩ := List.mem_map.1 hx
  have := b.toNat_lt
  omega
theorem strI_cells (s : ByteArray) : Go.Lib.strCells s = octs (strI s) := by unfold Go.Lib.strCells octs strI; rw [List.map_map]; rfl
structure IsPutE (bs cs : List Int) (M : Nat) (w0 : World) (e : Ending) (w : World) : Prop where
  ex : ∃ A c, e = .returned (.tuple #[.slice A M c, .int .i64 0]) ∧ M ≤ c ∧ (bs ++ cs).length = M ∧ w.ownsRow w0.heap.size 5 1 (.slice A M c) M (octs (bs ++ cs))
  low : Below w0.heap.size w0 w
set_option maxHeartbeats 1000000 in
theorem addText_yes (bs : List Int) (s : ByteArray) (A : Option Addr) (L c : Nat) (w : World) (hL : L = bs.length) (hr : Rd w A (octs bs)) (hc : L ≤ c) (hb : L ≤ 70368744177664) (hs : s.size ≤ 65535) :
    Calls Try.prog 16 #[.slice A L c, .string s] w (IsPutE bs (beI s.size 2 ++ strI s) (L + 2 + s.size) w) := by
  have HL := Lib.hid hL
  have HR := Lib.hid hr
  clear hL hr
  have hsz : (s.size : Int) ≤ 65535 := by omega
  go_enter Try.func16, Try.ntmps16
  go_wp2_with fail
  refine (add16 bs s.size A L c w HL.out HR.out hc (by omega) (by omega) (by omega)).mono ?_
  rintro e w1 ⟨⟨A1, c1, rfl, hc1, hl1, hown1⟩, hb1⟩
  go_wp2_with (at_builtin; refine wpList_app_string tBytes 9 Try.underlying9 rfl (.tmp 14) (.tmp 15) rfl w.heap.size _ (L + 2) _ rfl hown1 s rfl (by omega) hb1.size ?_; intro v2 w2 hown2 _ hb2)
  rw [strI_cells, show octs (bs ++ beI s.size 2) ++ octs (strI s) = octs (bs ++ (beI s.size 2 ++ strI s)) by simp [octs]] at hown2
  obtain ⟨A2, c2, rfl, hc2⟩ := own_slice hown2
  go_ret2
  exact ⟨⟨A2, c2, rfl, hc2, by have := hown2.1; rw [octs_length] at this; omega, hown2⟩, hb1.trans hb2⟩
set_option maxHeartbeats 1000000 in
theorem addText_no (s : ByteArray) (A : Option Addr) (L c : Nat) (w : World) (hs : 65535 < s.size) (hm : s.size ≤ maxLen) :
    Calls Try.prog 16 #[.slice A L c, .string s] w fun e w' => e = .returned (.tuple #[.slice none 0 0, .int .i64 3]) ∧ w = w' := by
  unfold maxLen at hm
  have hsz : (65535 : Int) < (s.size : Int) := by omega
  go_enter Try.func16, Try.ntmps16
  go_wp2
  go_ret2
  exact ⟨rfl, rfl⟩
theorem num2_bd {bs : List Int} (ho : Oct bs) (k : Nat) (h : k + 2 ≤ bs.length) : 0 ≤ numI bs k 2 ∧ numI bs k 2 ≤ 65535 := by
  rw [numI_2 bs k h]
  have b1 := ho.getD k
  have b2 := ho.getD (k + 1)
  omega
set_option maxHeartbeats 2000000 in
theorem text_yes (bs : List Int) (A : Option Addr) (L c k n : Nat) (w : World) (hL : L = bs.length) (ho : Oct bs) (hr : Rd w A (octs bs)) (h1 : k + 2 ≤ L) (hn : (n : Int) = numI bs k 2) (h3 : k + 2 + n ≤ L) (h2 : L ≤ c) (hm : c ≤ maxLen) :
    Calls Try.prog 21 #[.slice A L c, .int .i64 k] w fun e w' => e = .returned (.tuple #[.string (strOfNums ((bs.drop (k + 2)).take n)), .int .i64 (k + 2 + n), .bool true]) ∧ w = w' := by
  obtain ⟨b, off, rfl, _, _⟩ := hr (by rw [octs_length]; omega)
  have hlen : n = ((bs.drop (k + 2)).take n).length := by simp; omega
  have hrd : ¬ c = k + 2 → Rd w (some ⟨b, off + (k + 2), none⟩) (octs ((bs.drop (k + 2)).take n)) := fun _ => by
    have := (hr.drop (k + 2)).take n
    unfold octs at this ⊢
    rw [← List.map_drop, ← List.map_take] at this
    simpa [addr_add] using this
  have hre : c = k + 2 → Rd w (some ⟨b, off, none⟩) (octs ((bs.drop (k + 2)).take n)) := fun e => by
    have : n = 0 := by omega
    rw [this]
    exact Rd.nil _ _
  have HLEN := Lib.hid hlen
  have HL := Lib.hid hL
  have HM := Lib.hid hm
  have HR := Lib.hid hr
  have HO := Lib.hid ho
  have HN := Lib.hid hn
  have hb := num2_bd ho k (by omega)
  rw [← hn] at hb
  unfold maxLen at hm
  clear hL hr ho hn hlen
  have HRD := Lib.hid hrd
  have HRE := Lib.hid hre
  clear hrd hre
  by_cases hck : c = k + 2
  · have hre := HRE.out hck
    subst hck
    go_enter Try.func21, Try.ntmps21
    go_wp2_with fail
    refine (u16_yes bs _ L _ k w HL.out HO.out HR.out h1 h2 HM.out).mono ?_
    rw [← HN.out]
    rintro e w1 ⟨rfl, rfl⟩
    go_wp2_with (refine wpList_str Try.underlying22 Try.underlying5 Try.underlying9 rfl (.tmp 29) rfl _ n _ ((bs.drop (k + 2)).take n) rfl HLEN.out hre ?_)
    go_ret3
    exact ⟨rfl, rfl⟩
  · have hrd := HRD.out hck
    go_enter Try.func21, Try.ntmps21
    go_wp2_with fail
    refine (u16_yes bs _ L c k w HL.out HO.out HR.out h1 h2 HM.out).mono ?_
    rw [← HN.out]
    rintro e w1 ⟨rfl, rfl⟩
    go_wp2_with (refine wpList_str Try.underlying22 Try.underlying5 Try.underlying9 rfl (.tmp 29) rfl _ n _ ((bs.drop (k + 2)).take n) rfl HLEN.out hrd ?_)
    go_ret3
    exact ⟨rfl, rfl⟩
set_option maxHeartbeats 1000000 in
theorem text_no (A : Option Addr) (L c : Nat) (at_ : Int) (w : World) (hm : L ≤ 9223372036854775807) (hlo : -9223372036854775808 ≤ at_) (hhi : at_ ≤ 9223372036854775807) (h : ¬ (0 ≤ at_ ∧ at_ + 2 ≤ L)) :
    Calls Try.prog 21 #[.slice A L c, .int .i64 at_] w fun e w' => e = .returned (.tuple #[.string ⟨#[]⟩, .int .i64 0, .bool false]) ∧ w = w' := by
  go_enter Try.func21, Try.ntmps21
  go_wp2_with fail
  refine (u16_no A L c at_ w hm hlo hhi h).mono ?_
  rintro e w1 ⟨rfl, rfl⟩
  go_wp2
  go_ret3
  exact ⟨rfl, rfl⟩
set_option maxHeartbeats 2000000 in
theorem text_cut (bs : List Int) (A : Option Addr) (L c k n : Nat) (w : World) (hL : L = bs.length) (ho : Oct bs) (hr : Rd w A (octs bs)) (h1 : k + 2 ≤ L) (hn : (n : Int) = numI bs k 2) (h3 : L < k + 2 + n) (h2 : L ≤ c) (hm : c ≤ maxLen) :
    Calls Try.prog 21 #[.slice A L c, .int .i64 k] w fun e w' => e = .returned (.tuple #[.string ⟨#[]⟩, .int .i64 0, .bool false]) ∧ w = w' := by
  obtain ⟨b, off, rfl, _, _⟩ := hr (by rw [octs_length]; omega)
  have HL := Lib.hid hL
  have HM := Lib.hid hm
  have HR := Lib.hid hr
  have HO := Lib.hid ho
  have HN := Lib.hid hn
  have hb := num2_bd ho k (by omega)
  rw [← hn] at hb
  unfold maxLen at hm
  clear hL hr ho hn
  have hlt : (L : Int) - (k + 2) < n := by omega
  by_cases hck : c = k + 2
  all_goals
    try subst hck
    go_enter Try.func21, Try.ntmps21
    go_wp2_with fail
    refine (u16_yes bs _ L _ k w HL.out HO.out HR.out h1 h2 HM.out).mono ?_
    rw [← HN.out]
    rintro e w1 ⟨rfl, rfl⟩
    go_wp2
    go_ret3
    exact ⟨rfl, rfl⟩
end Go.Proofs.Ytbmhfefbfocelaa
