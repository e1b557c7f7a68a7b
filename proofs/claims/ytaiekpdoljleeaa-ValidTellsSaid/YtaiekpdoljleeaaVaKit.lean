/- The statements' help: copies of bytes, two lists of numbers; the reference's starts. No condition. -/
import Derived.Test.YtaiekpdoljleeaaCoKit
import Derived.Test.YtaiekpdoljleeaaVaSt
import Derived.Test.YtaiekpdoljleeaaVaRh
namespace Go.Proofs.Ytaiekpdoljleeaa
open Go.RowKit Go.WideShapes
set_option linter.unusedVariables false
set_option linter.unusedSimpArgs false
set_option maxRecDepth 100000 in
set_option maxHeartbeats 1000000 in
/-- Same..: are the two lists one? -/
theorem sameI (xs ys : List Int) (A B : Option Addr) (n m c d : Nat) (w : World) (hn : n = xs.length) (hm : m = ys.length) (hA : Rd w A (xs.map (.int .i64))) (hB : Rd w B (ys.map (.int .i64))) (hl : n ≤ 9223372036854775807) :
    Calls Try.prog 31 #[.slice A n c, .slice B m d] w fun e w' => e = .returned (.bool (decide (xs = ys))) ∧ Below w.heap.size w w' := by
  have HA := Lib.hid hA
  have HB := Lib.hid hB
  clear hA hB
  have Hn := Lib.hid hn
  have Hm := Lib.hid hm
  clear hn hm
  by_cases hnm : n = m
  · have hq : ((n : Int) != (m : Int)) = false := by simp [hnm]
    have HQ := Lib.hid hnm
    clear hnm
    go_enter Try.func31, Try.ntmps31
    go_wp2_with fail
    go_loopw [5] (fun i wr => ∃ k : Nat, i = .int .i64 k ∧ k ≤ n ∧ xs.take k = ys.take k ∧ Below w.heap.size w wr) (fun i _ => n - (intOf i).toNat)
    case atStart => exact ⟨0, rfl, by omega, by simp, Below.refl _ _⟩
    case round =>
      obtain ⟨k, rfl, hk, ht, hb⟩ := hrel
      have HT := Lib.hid ht
      clear ht
      by_cases hlt : k < n
      · obtain ⟨x, hx⟩ : ∃ x, xs[k]? = some x := ⟨_, List.getElem?_eq_getElem (by rw [← Hn.out]; exact hlt)⟩
        obtain ⟨y, hy⟩ : ∃ y, ys[k]? = some y := ⟨_, List.getElem?_eq_getElem (by rw [← Hm.out, ← HQ.out]; exact hlt)⟩
        obtain ⟨b1, o1, rfl, _, hc1⟩ := ((HA.out).below hb rfl).at (k := k) (u := .int .i64 x) (by rw [List.getElem?_map, hx]; rfl)
        obtain ⟨b2, o2, rfl, _, hc2⟩ := ((HB.out).below hb rfl).at (k := k) (u := .int .i64 y) (by rw [List.getElem?_map, hy]; rfl)
        have HX := Lib.hid hx
        have HY := Lib.hid hy
        clear hx hy
        have hkm : (k : Int) < (m : Int) := by have := HQ.out; omega
        have hkn : (k : Int) < (n : Int) := by omega
        by_cases hxy : x = y
        · have e : (x != y) = false := by simp [hxy]
          have HE := Lib.hid hxy
          clear hxy
          go_wp2_with fail
          go_quiet (fail)
          go_wp2
          go_roundw
          case rel => exact ⟨k + 1, by go_num, by omega, by rw [List.take_add_one, List.take_add_one, HT.out, HX.out, HY.out, HE.out], below_drewN hb _⟩
          case measure => simp [intOf]; omega
        · have e : (x != y) = true := by simp [hxy]
          have HE := Lib.hid hxy
          clear hxy
          go_wp2_with fail
          go_quiet (fail)
          go_wp2
          go_ret
          refine ⟨ret_bool (decide_eq_false fun he => HE.out ?_).symm, below_drewN hb _⟩
          have := HX.out
          rw [he, HY.out] at this
          exact (Option.some.inj this).symm
      · go_wp2
        go_ret
        refine ⟨ret_bool (decide_eq_true ?_).symm, hb⟩
        have h1 := HT.out
        rwa [List.take_of_length_le (by rw [← Hn.out]; omega), List.take_of_length_le (by rw [← Hm.out, ← HQ.out]; omega)] at h1
  · have hq : ((n : Int) != (m : Int)) = true := by simp; omega
    have HQ := Lib.hid hnm
    clear hnm
    go_enter Try.func31, Try.ntmps31
    go_wp2
    go_ret
    exact ⟨ret_bool (decide_eq_false fun he => HQ.out (by rw [Hn.out, Hm.out, he])).symm, Below.refl _ _⟩
structure OwnsV (e : TypeId) (xs : List Value) (n : Nat) (w0 : World) (en : Ending) (w : World) : Prop where
  ex : ∃ A c, en = .returned (.slice A n c) ∧ n ≤ c ∧ w.ownsRow w0.heap.size e 1 (.slice A n c) n xs
  low : Below w0.heap.size w0 w
set_option maxHeartbeats 1000000 in
/-- Copy..: the same in memory of its own. -/
theorem copyB (xs : List Int) (A : Option Addr) (n c : Nat) (w : World) (hn : n = xs.length) (hA : Rd w A (xs.map (.int .u8))) (hl : n ≤ 1000000000) :
    Calls Try.prog 28 #[.slice A n c] w (OwnsV 5 (xs.map (.int .u8)) n w) := by
  have HA := Lib.hid hA
  have Hn := Lib.hid hn
  clear hA hn
  go_enter Try.func28, Try.ntmps28
  go_wp2_with fail
  go_loopw [3, 4] (fun v i wr => ∃ k : Nat, k ≤ n ∧ i = .int .i64 k ∧ wr.ownsRow w.heap.size 5 1 v k ((xs.map (.int .u8)).take k) ∧ Below w.heap.size w wr) (fun _ i _ => n - (intOf i).toNat)
  case atStart => exact ⟨0, by omega, rfl, ⟨rfl, .inl ⟨rfl, rfl⟩⟩, Below.refl _ _⟩
  case round =>
    obtain ⟨k, hk, rfl, ho, hb⟩ := hrel
    by_cases hlt : k < n
    · obtain ⟨u, hu⟩ : ∃ u, (xs.map (Value.int .u8))[k]? = some u := ⟨_, List.getElem?_eq_getElem (by rw [List.length_map, ← Hn.out]; exact hlt)⟩
      obtain ⟨b1, o1, rfl, _, hc1⟩ := (HA.out.below hb rfl).at hu
      obtain ⟨z, rfl⟩ : ∃ z, u = .int .u8 z := by
        rw [List.getElem?_map] at hu
        obtain ⟨z, _, hz⟩ := Option.map_eq_some_iff.1 hu
        exact ⟨z, hz.symm⟩
      have HU := Lib.hid hu
      clear hu
      go_wp2_with (at_builtin; refine wpList_app1 tBytes rfl (.tmp 11) (.tmp 16) rfl w.heap.size _ k _ rfl ho _ (by rfl) _ rfl rfl (by omega) (by unfold maxLen; omega) hb.size ?_; intro v2 w2 o2 _ hb2)
      go_roundw
      case rel =>
        refine ⟨k + 1, by omega, by go_num, ?_, hb.trans hb2⟩
        rw [List.take_add_one, HU.out]
        exact o2
      case measure => simp [intOf]; omega
    · have hkn : k = n := by omega
      subst hkn
      go_wp2
      go_ret
      rw [List.take_of_length_le (by rw [List.length_map, ← Hn.out]; omega)] at ho
      obtain ⟨A2, c2, rfl, hc2⟩ := own_slice ho
      exact ⟨⟨A2, c2, rfl, hc2, ho⟩, hb⟩
set_option maxRecDepth 100000 in
set_option maxHeartbeats 4000000 in
theorem starts16 (bs : List Int) (A : Option Addr) (n c : Nat) (ps : List (Nat × In)) (z : Nat) (w : World) (hn : n = bs.length) (ho : Oct bs) (hr : Rd w A (octs bs)) (hnm : n ≤ 9223372036854775807) (hs : n ≤ 4096 → Scan bs ps z) :
    Calls Try.prog 30 #[.slice A n c] w (IsStarts bs ps z w) := by
  have HN := Lib.hid hn
  have HO := Lib.hid ho
  have HR := Lib.hid hr
  have HSC := Lib.hid hs
  clear hn ho hr hs
  rcases (show 4096 < n ∨ n = 0 ∨ (0 < n ∧ n ≤ 4096) from by omega) with h1 | h1 | ⟨h1, h2⟩
  · have e : codeS bs z = 3 := by unfold codeS; rw [if_pos (by rw [← HN.out]; exact h1)]
    have el : listS bs ps z = [] := by unfold listS; rw [if_neg (by omega)]
    have g : decide ((4096 : Int) < (n : Int)) = true := by simp; omega
    have E := Lib.hid e
    have EL := Lib.hid el
    clear e el
    go_enter Try.func30, Try.ntmps30
    go_wp2_with fail
    go_ret2
    exact ⟨⟨none, 0, by rw [E.out, EL.out]; rfl, by rw [EL.out]; exact Rd.nil _ _⟩, Below.refl _ _⟩
  · have e : codeS bs z = 110 := by unfold codeS; rw [if_neg (by rw [← HN.out]; omega), if_pos (by rw [← HN.out]; exact h1)]
    have el : listS bs ps z = [] := by unfold listS; rw [if_neg (by omega)]
    have g : decide ((4096 : Int) < (n : Int)) = false := by simp; omega
    have g2 : ((n : Int) == 0) = true := by simp; omega
    have E := Lib.hid e
    have EL := Lib.hid el
    clear e el h1
    go_enter Try.func30, Try.ntmps30
    go_wp2_with fail
    go_ret2
    exact ⟨⟨none, 0, by rw [E.out, EL.out]; rfl, by rw [EL.out]; exact Rd.nil _ _⟩, Below.refl _ _⟩
  · have g : decide ((4096 : Int) < (n : Int)) = false := by simp; omega
    have g2 : ((n : Int) == 0) = false := by simp; omega
    have hsc := HSC.out h2
    have HC := Lib.hid hsc
    clear hsc
    go_enter Try.func30, Try.ntmps30
    go_wp2_with fail
    go_loopw [4, 5] (fun v i wr => ∃ (done todo : List (Nat × In)) (at_ : Nat), done ++ todo = ps ∧ Chain bs at_ todo z ∧ at_ ≤ n ∧ done.length ≤ at_ ∧ i = .int .i64 at_ ∧ wr.ownsRow w.heap.size 3 1 v done.length (ints (startsI done)) ∧ Below w.heap.size w wr) (fun _ i _ => n - (intOf i).toNat)
    case atStart => exact ⟨[], ps, 0, rfl, HC.out.chain, by omega, by simp, rfl, World.ownsRow_nil _ _ _ _, Below.refl _ _⟩
    case round =>
      obtain ⟨done, todo, at_, hps, hch, hat, hdl, rfl, hown, hbr⟩ := hrel
      have hrd := HR.out.below hbr rfl
      obtain ⟨A1, c1, rfl, hc1⟩ := own_slice hown
      rcases todo with _ | ⟨p, todo⟩
      · have hz : at_ = z := hch
        subst hz
        rcases HC.out.ends with hend | ⟨hlt, e, he, he0, he1, hge⟩
        · have g3 : decide (at_ < n) = false := by have := HN.out; simp; omega
          have ec : codeS bs at_ = 0 := by unfold codeS; rw [if_neg (by rw [← HN.out]; omega), if_neg (by rw [← HN.out]; omega), if_pos hend]
          obtain rfl : done = ps := by simpa using hps
          have el : listS bs done at_ = startsI done := by unfold listS; rw [if_pos ec]
          have HF := Lib.hid (show IsStarts bs done at_ w (.returned (.tuple #[.slice A1 done.length c1, .int .i64 0])) wr from ⟨⟨A1, c1, by rw [ec, el, startsI_length], by rw [el]; exact Rd.of_own hown⟩, hbr⟩)
          clear ec el hps hch hrd hend hbr hown
          go_wp2_with fail
          go_ret2
          exact HF.out
        · have g3 : decide (at_ < n) = true := by have := HN.out; simp; omega
          have ec : codeS bs at_ = 110 := by unfold codeS; rw [if_neg (by rw [← HN.out]; omega), if_neg (by rw [← HN.out]; omega), if_neg (by omega)]
          have el : listS bs ps at_ = [] := by unfold listS; rw [if_neg (by omega)]
          have g4 : (e != 0) = true := by simpa using he
          have hgt := getR_any bs A n c at_ wr HN.out HO.out hrd hnm
          rw [hge] at hgt
          have HG := Lib.hid hgt
          have HF := Lib.hid (fun W (h : Below w.heap.size w W) => show IsStarts bs ps at_ w (.returned (.tuple #[.slice none 0 0, .int .i64 110])) W from ⟨⟨none, 0, by rw [ec, el]; rfl, by rw [el]; exact Rd.nil _ _⟩, h⟩)
          have HB := Lib.hid hbr
          clear ec el hps hch hrd hgt hge hbr he hown
          go_wp2_with fail
          refine (HG.out).mono ?_
          rintro e1 w1 ⟨rfl, hb1⟩
          have HB1 := Lib.hid (ch0 HB.out hb1)
          clear hb1
          unfold zI In.agg
          go_wp2_with fail
          go_ret2
          exact HF.out _ (HB1.out.alloc HB1.out.size _)
      · obtain ⟨hpa, hlt, n2, hge, hgot, hch2⟩ := hch
        obtain ⟨a, t⟩ := p
        obtain rfl : a = at_ := hpa
        have g3 : decide (a < n) = true := by have := HN.out; simp; omega
        have hgt := getR_any bs A n c a wr HN.out HO.out hrd hnm
        rw [hge] at hgt
        have hlo := hgot.lo
        have hhi := hgot.hi
        have HG := Lib.hid hgt
        have HP := Lib.hid hps
        have HC2 := Lib.hid hch2
        have HB := Lib.hid hbr
        have HO2 := Lib.hid hown
        have hnn := HN.out
        have hn2 : n2 ≤ n := by omega
        clear hps hch2 hrd hgt hge hbr hnn hhi hgot hown
        generalize hdm : done.length = dm at *
        have HDM := Lib.hid hdm
        clear hdm
        go_wp2_with fail
        refine (HG.out).mono ?_
        rintro e1 w1 ⟨rfl, hb1⟩
        have HB1 := Lib.hid ((ch0 HB.out hb1).alloc (ch0 HB.out hb1).size (.cells #[.int .u8 t.o, .int .i64 t.d, .int .i64 t.s, .int .i64 t.n] 36))
        have HO3 := Lib.hid ((own_below HO2.out hb1).alloc (.cells #[.int .u8 t.o, .int .i64 t.d, .int .i64 t.s, .int .i64 t.n] 36))
        clear hb1
        unfold In.agg
        go_wp2_with (at_builtin; refine wpList_app1 tInts rfl (.tmp 28) (.tmp 30) rfl w.heap.size _ dm _ rfl HO3.out (.int .i64 a) rfl (w1.heap.size + 1) rfl (by simp) (by omega) (by unfold maxLen; omega) HB1.out.size ?_; intro v2 w2 o2 _ hb2)
        go_roundw
        case rel => exact ⟨done ++ [(a, t)], todo, n2, by rw [← HP.out]; simp, HC2.out, hn2, by rw [List.length_append, HDM.out]; simp; omega, by go_num, by rw [List.length_append, HDM.out, startsI_snoc, ints_snoc]; exact o2, HB1.out.trans hb2⟩
        case measure => simp [intOf]; omega
end Go.Proofs.Ytaiekpdoljleeaa
