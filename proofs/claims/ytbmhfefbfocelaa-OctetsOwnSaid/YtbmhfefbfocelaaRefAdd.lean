/- The reference's Add and AddText. For rows within the form's reach. -/
import Derived.Test.YtbmhfefbfocelaaRef
namespace Go.Proofs.Ytbmhfefbfocelaa
open Go.RowKit Go.WideShapes
set_option linter.unusedVariables false
theorem set_row (bs : List Int) (k : Nat) (z : Value) (h : k < bs.length) : (octs (bs.take k) ++ List.replicate (bs.length - k) z).set k (.int .u8 (bs.getD k 0)) = octs (bs.take (k + 1)) ++ List.replicate (bs.length - (k + 1)) z := by
  have hl : (octs (bs.take k)).length = k := by rw [octs_length, List.length_take]; omega
  rw [List.set_append_right _ _ (by omega), hl, Nat.sub_self, show bs.length - k = (bs.length - (k + 1)) + 1 by omega, List.replicate_succ, List.set_cons_zero]
  rw [List.take_succ_eq_append_getElem h]
  unfold octs
  rw [List.map_append, List.append_assoc, List.getD_eq_getElem?_getD, List.getElem?_eq_getElem h]
  rfl
set_option maxHeartbeats 2000000 in
theorem refAdd_zero (bs : List Int) (v : Int) (A : Option Addr) (L c : Nat) (w : World) (hL : L = bs.length) (hr : Rd w A (octs bs)) (hc : L ≤ c) (hb : L ≤ 140737488355000) (v0 : 0 ≤ v) (v1 : v ≤ 18446744073709551615) :
    Calls Try.prog 28 #[.slice A L c, .int .u64 v, .int .i64 0] w (IsPut bs [] L w) := by
  have HL := Lib.hid hL
  have HR := Lib.hid hr
  clear hL hr
  go_enter Try.func28, Try.ntmps28
  go_wp2_with (first | (at_make; refine wpList_mk tBytes rfl rfl _ _ rfl w.heap.size .i64 .i64 L L L rfl rfl rfl rfl (by omega) (by unfold maxLen; omega) (Nat.le_refl _) ?_; intro w1 hown1 hlt1 hb1))
  have H1 := Lib.hid hown1
  clear hown1
  go_loopw [8] (fun i wr => ∃ k : Nat, k ≤ L ∧ i = .int .i64 k ∧ wr.ownsRow w.heap.size 5 1 (.slice (some ⟨w.heap.size, 0, none⟩) L L) L (octs (bs.take k) ++ List.replicate (bs.length - k) (.int .u8 0)) ∧ Below w.heap.size w wr) (fun i _ => L - (intOf i).toNat)
  case atStart => exact ⟨0, by omega, rfl, by simpa [octs, ← HL.out] using H1.out, hb1⟩
  case round =>
    obtain ⟨k, hk, rfl, hown, hbr⟩ := hrel
    have HO := Lib.hid hown
    clear hown
    by_cases hlt : k < L
    · obtain ⟨b, off, rfl, _, hcb⟩ := (HR.out.below hbr rfl).at (k := k) (octs_at (by rw [← HL.out]; exact hlt))
      have hf := HO.out.frozenAt k
      have hx := HO.out.cellAt k (by omega)
      obtain ⟨u, hu⟩ : ∃ u, (octs (bs.take k) ++ List.replicate (bs.length - k) (Value.int .u8 0))[k]? = some u := ⟨_, List.getElem?_eq_getElem (by have := HO.out.1; omega)⟩
      rw [hu] at hx
      clear hu
      go_wp2
      go_roundw
      case rel =>
        refine ⟨k + 1, by omega, by go_num, ?_, hbr.setCell (by simp) _⟩
        have h := (HO.out.stored k (.int .u8 (bs.getD k 0))).1
        rwa [set_row bs k _ (by rw [← HL.out]; exact hlt)] at h
      case measure => simp [intOf]; omega
    · have hkL : k = L := by omega
      subst hkL
      go_wp2
      go_ret
      have h := HO.out
      rw [List.take_of_length_le (by rw [← HL.out]; omega), ← HL.out, Nat.sub_self, List.replicate_zero, List.append_nil] at h
      exact isPut_of h (by rw [List.append_nil]) hbr
theorem isPut_M {bs cs : List Int} {M M' : Nat} {w0 w : World} {e : Ending} (h : IsPut bs cs M w0 e w) (hM : M = M') : IsPut bs cs M' w0 e w := hM ▸ h
set_option maxHeartbeats 2000000 in
theorem refAdd_any (bs : List Int) (A : Option Addr) (L c : Nat) (hL : L = bs.length) (hc : L ≤ c) (hb : L ≤ 140737488355000) : ∀ (n : Nat) (v : Int) (w : World), Rd w A (octs bs) → n ≤ 8 → 0 ≤ v → v ≤ 18446744073709551615 →
    Calls Try.prog 28 #[.slice A L c, .int .u64 v, .int .i64 n] w (IsPut bs (beI v n) (L + n) w) := by
  intro n
  induction n with
  | zero => exact fun v w hr _ v0 v1 => refAdd_zero bs v A L c w hL hr hc hb v0 v1
  | succ n ih =>
    intro v w hr hn v0 v1
    have IH := Lib.hid (ih (v / 256) w hr (by omega) (by omega) (by omega))
    clear ih hr
    have HL := Lib.hid hL
    clear hL
    have e1 : ((n + 1 : Nat) : Int) = (n : Int) + 1 := by omega
    rw [e1]
    clear e1
    have g0 : (0 : Int) < (n : Int) + 1 := by omega
    go_enter Try.func28, Try.ntmps28
    go_wp2_with fail
    refine IH.out.mono ?_
    rintro e w1 ⟨⟨A1, c1, rfl, hc1, l1, o1⟩, hb1⟩
    have L1 := Lib.hid l1
    clear l1
    go_wp2_with (at_builtin; refine wpList_app1 tBytes rfl (.tmp 16) (.tmp 20) rfl w.heap.size _ (L + n) _ rfl o1 _ (by rfl) _ rfl rfl (by omega) (by unfold maxLen; omega) hb1.size ?_; intro v2 w2 o2 _ hb2)
    go_ret
    refine isPut_M (isPut_of o2 ?_ (hb1.trans hb2)) (by omega)
    rw [octs_snoc, List.append_assoc]
    rfl
theorem refAdd (bs : List Int) (v : Int) (A : Option Addr) (L c n M : Nat) (N : Int) (w : World) (hN : N = n) (hM : M = L + n) (hL : L = bs.length) (hr : Rd w A (octs bs)) (hc : L ≤ c) (hb : L ≤ 140737488355000) (hn : n ≤ 8) (v0 : 0 ≤ v) (v1 : v ≤ 18446744073709551615) :
    Calls Try.prog 28 #[.slice A L c, .int .u64 v, .int .i64 N] w (IsPut bs (beI v n) M w) := by
  subst hN
  subst hM
  exact refAdd_any bs A L c hL hc hb n v w hr hn v0 v1
/-- What AddText answers: the bytes, the error. -/
def addedI (bs : List Int) (s : ByteArray) : List Int := if s.size ≤ 65535 then bs ++ (beI s.size 2 ++ strI s) else []
def addedE (s : ByteArray) : Int := if s.size ≤ 65535 then 0 else 3
structure IsAdded (bs : List Int) (s : ByteArray) (w0 : World) (e : Ending) (w : World) : Prop where
  ex : ∃ A c, e = .returned (.tuple #[.slice A (addedI bs s).length c, .int .i64 (addedE s)]) ∧ Rd w A (octs (addedI bs s))
  low : Below w0.heap.size w0 w
set_option maxHeartbeats 1000000 in
theorem addText_any (bs : List Int) (s : ByteArray) (A : Option Addr) (L c : Nat) (w : World) (hL : L = bs.length) (hr : Rd w A (octs bs)) (hc : L ≤ c) (hb : L ≤ 140737488351232) (hm : s.size ≤ maxLen) :
    Calls Try.prog 16 #[.slice A L c, .string s] w (IsAdded bs s w) := by
  by_cases hs : s.size ≤ 65535
  · have e1 : addedI bs s = bs ++ (beI s.size 2 ++ strI s) := if_pos hs
    have e2 : addedE s = 0 := if_pos hs
    have E1 := Lib.hid e1
    have E2 := Lib.hid e2
    clear e1 e2
    have HL := Lib.hid hL
    have HR := Lib.hid hr
    clear hL hr
    have hsz : (s.size : Int) ≤ 65535 := by omega
    go_enter Try.func16, Try.ntmps16
    go_wp2_with fail
    refine (add16 bs s.size A L c w HL.out HR.out hc (by omega) (by omega) (by omega)).mono ?_
    rintro e w1 ⟨⟨A1, c1, rfl, hc1, hl1, hown1⟩, hb1⟩
    go_wp2_with (at_builtin; refine wpList_app_str tBytes 9 Try.underlying9 rfl (.tmp 14) (.tmp 15) rfl w.heap.size _ (L + 2) _ rfl hown1 s rfl (by unfold fineMost; omega) (by omega) hb1.size ?_; intro v2 w2 hown2 hb2)
    rw [strI_cells, show octs (bs ++ beI s.size 2) ++ octs (strI s) = octs (bs ++ (beI s.size 2 ++ strI s)) by simp [octs]] at hown2
    obtain ⟨A2, c2, rfl, hc2⟩ := own_slice hown2
    go_ret2
    refine ⟨⟨A2, c2, ?_, ?_⟩, hb1.trans hb2⟩
    · rw [E1.out, E2.out, show (bs ++ (beI s.size 2 ++ strI s)).length = L + 2 + s.size from by have := hown2.1; rw [octs_length] at this; omega]
      rfl
    · rw [E1.out]; exact Rd.of_own hown2
  · have e1 : addedI bs s = [] := if_neg hs
    have e2 : addedE s = 3 := if_neg hs
    refine (addText_no s A L c w (by omega) hm).mono ?_
    rintro e w1 ⟨rfl, rfl⟩
    exact ⟨⟨none, 0, by rw [e1, e2]; rfl, by rw [e1]; exact Rd.nil _ _⟩, Below.refl _ _⟩
theorem strI_snoc (s : ByteArray) (k : Nat) (h : k < s.size) : (strI s).take (k + 1) = (strI s).take k ++ [((s[k].toNat : Nat) : Int)] := by
  rw [List.take_succ_eq_append_getElem (by rw [strI_length]; exact h)]
  congr 2
  unfold strI
  rw [List.getElem_map]
  rfl
set_option maxHeartbeats 2000000 in
theorem refAddText_any (bs : List Int) (s : ByteArray) (A : Option Addr) (L c : Nat) (w : World) (hL : L = bs.length) (hr : Rd w A (octs bs)) (hc : L ≤ c) (hb : L ≤ 140737488351232) (hm : s.size ≤ maxLen) :
    Calls Try.prog 29 #[.slice A L c, .string s] w (IsAdded bs s w) := by
  unfold maxLen at hm
  by_cases hs : s.size ≤ 65535
  · have e1 : addedI bs s = bs ++ (beI s.size 2 ++ strI s) := if_pos hs
    have e2 : addedE s = 0 := if_pos hs
    have E1 := Lib.hid e1
    have E2 := Lib.hid e2
    clear e1 e2
    have HL := Lib.hid hL
    have HR := Lib.hid hr
    clear hL hr
    have hsz : (s.size : Int) ≤ 65535 := by omega
    go_enter Try.func29, Try.ntmps29
    go_wp2_with fail
    refine (refAdd bs s.size A L c 2 (L + 2) _ w rfl rfl HL.out HR.out hc (by omega) (by omega) (by omega) (by omega)).mono ?_
    rintro e w1 ⟨⟨A1, c1, rfl, hc1, hl1, hown1⟩, hb1⟩
    have H1 := Lib.hid hown1
    clear hown1
    go_wp2_with fail
    go_loopw [6, 7] (fun v i wr => ∃ k : Nat, k ≤ s.size ∧ i = .int .i64 k ∧ wr.ownsRow w.heap.size 5 1 v (L + 2 + k) (octs (bs ++ beI s.size 2 ++ (strI s).take k)) ∧ Below w.heap.size w wr) (fun _ i _ => s.size - (intOf i).toNat)
    case atStart => exact ⟨0, by omega, rfl, by simpa using H1.out, hb1⟩
    case round =>
      obtain ⟨k, hk, rfl, hown, hbr⟩ := hrel
      by_cases hlt : k < s.size
      · go_wp2_with (at_builtin; refine wpList_app1_fine tBytes rfl rfl (.tmp 22) (.tmp 26) rfl w.heap.size _ (L + 2 + k) _ rfl hown _ (by rfl) _ rfl rfl (by unfold fineMost; omega) hbr.size ?_; intro v2 w2 hown2 hb2)
        go_roundw
        case rel =>
          refine ⟨k + 1, by omega, by go_num, ?_, hbr.trans hb2⟩
          rw [strI_snoc s k hlt, ← List.append_assoc, ← octs_snoc]
          exact hown2
        case measure => simp [intOf]; omega
      · have hkL : k = s.size := by omega
        subst hkL
        go_wp2
        rw [List.take_of_length_le (by rw [strI_length]; omega), List.append_assoc] at hown
        obtain ⟨A2, c2, rfl, hc2⟩ := own_slice hown
        go_ret2
        refine ⟨⟨A2, c2, ?_, ?_⟩, hbr⟩
        · rw [E1.out, E2.out, show (bs ++ (beI s.size 2 ++ strI s)).length = L + 2 + s.size from by have := hown.1; rw [octs_length] at this; omega]
          rfl
        · rw [E1.out]; exact Rd.of_own hown
  · have e1 : addedI bs s = [] := if_neg hs
    have e2 : addedE s = 3 := if_neg hs
    have hsz : (65535 : Int) < (s.size : Int) := by omega
    have E1 := Lib.hid e1
    have E2 := Lib.hid e2
    clear e1 e2
    go_enter Try.func29, Try.ntmps29
    go_wp2_with fail
    go_ret2
    exact ⟨⟨none, 0, by rw [E1.out, E2.out]; rfl, by rw [E1.out]; exact Rd.nil _ _⟩, Below.refl _ _⟩
end Go.Proofs.Ytbmhfefbfocelaa
