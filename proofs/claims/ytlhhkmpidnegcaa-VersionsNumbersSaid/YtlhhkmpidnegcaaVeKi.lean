/- Comparing and copying lists of numbers and of files: walks. -/
import Derived.Test.YtlhhkmpidnegcaaVeCo
import Derived.Deep.RegionHeld3
import Derived.Lib.SlicesS
namespace Go.Proofs.Ytlhhkmpidnegcaa
open Go.RowKit Go.WideShapes
set_option linter.unusedVariables false
set_option linter.unusedSimpArgs false
theorem below_drewN {B : Nat} {a w : World} (h : Below B a w) (n : Nat) : Below B a (w.drewN n) := ⟨h.os, h.tape, h.output, h.size, h.block⟩
structure QuietN (v : Value) (w0 : World) (e : Ending) (w : World) : Prop where
  ret : e = .returned v
  ex : ∃ q, w = w0.drewN q
theorem QuietN.low {v : Value} {w0 : World} {e : Ending} {w : World} (h : QuietN v w0 e w) : Below w0.heap.size w0 w := by
  obtain ⟨q, rfl⟩ := h.ex
  exact below_drewN (Below.refl _ _) q
theorem quiet_n {P : Program} {f : FuncId} {args : Array Value} {w : World} {n : Nat} {v : Value} (h : Calls P f args (w.drewN n) (QuietN v (w.drewN n))) : Calls P f args (w.drewN n) fun e w'' => e = .returned v ∧ ∃ m, w'' = w.drewN m :=
  h.mono fun _ _ ⟨he, q, hm⟩ => ⟨he, n + q, by rw [hm, World.drewN_drewN]⟩
theorem drewN_ex {w wr : World} (h : ∃ q, wr = w.drewN q) (n : Nat) : ∃ q, wr.drewN n = w.drewN q := by
  obtain ⟨q, rfl⟩ := h
  exact ⟨q + n, World.drewN_drewN _ _ _⟩
theorem RdF.drewN {w : World} {A : Option Addr} {fs : List Fl} (h : RdF w A fs) (q : Nat) : RdF (w.drewN q) A fs := h.below (below_drewN (Below.refl _ _) q)
set_option maxRecDepth 100000 in
set_option maxHeartbeats 1000000 in
/-- slices.Equal over numbers of the kind i64: are the two lists one? -/
theorem equalQ (xs ys : List Int) (A B : Option Addr) (n m c d : Nat) (w : World) (hn : n = xs.length) (hm : m = ys.length) (hA : Rd w A (xs.map (.int .i64))) (hB : Rd w B (ys.map (.int .i64))) (hl : n ≤ 9223372036854775807) :
    Calls Try.prog 72 #[.slice A n c, .slice B m d] w fun e w' => e = .returned (.bool (decide (xs = ys))) ∧ ∃ q, w' = w.drewN q := by
  have HA := Lib.hid hA
  have HB := Lib.hid hB
  clear hA hB
  have Hn := Lib.hid hn
  have Hm := Lib.hid hm
  clear hn hm
  by_cases hnm : n = m
  · have hq : ((n : Int) != (m : Int)) = false := by simp [hnm]
    have HQ := Lib.hid hnm
    clear hnm
    go_enter Try.func72, Try.ntmps72
    go_wp2_with fail
    go_loopw [13] (fun i wr => ∃ k : Nat, i = .int .i64 k ∧ k ≤ n ∧ xs.take k = ys.take k ∧ ∃ q, wr = w.drewN q) (fun i _ => n - (intOf i).toNat)
    case atStart => exact ⟨0, rfl, by omega, by simp, 0, rfl⟩
    case round =>
      obtain ⟨k, rfl, hk, ht, q, rfl⟩ := hrel
      have HT := Lib.hid ht
      clear ht
      by_cases hlt : k < n
      · obtain ⟨x, hx⟩ : ∃ x, xs[k]? = some x := ⟨_, List.getElem?_eq_getElem (by rw [← Hn.out]; exact hlt)⟩
        obtain ⟨y, hy⟩ : ∃ y, ys[k]? = some y := ⟨_, List.getElem?_eq_getElem (by rw [← Hm.out, ← HQ.out]; exact hlt)⟩
        obtain ⟨b1, o1, rfl, _, hc1⟩ := (HA.out).at (k := k) (u := .int .i64 x) (by rw [List.getElem?_map, hx]; rfl)
        obtain ⟨b2, o2, rfl, _, hc2⟩ := (HB.out).at (k := k) (u := .int .i64 y) (by rw [List.getElem?_map, hy]; rfl)
        have HX := Lib.hid hx
        have HY := Lib.hid hy
        clear hx hy
        have hkm : (k : Int) < (m : Int) := by have := HQ.out; omega
        have hkn : (k : Int) < (n : Int) := by omega
        by_cases hxy : x = y
        · have e : (x != y) = false := by simp [hxy]
          have HE := Lib.hid hxy
          clear hxy
          go_wp2_with fail
          go_quiet (fail)
          go_wp2
          go_roundw
          case rel => exact ⟨k + 1, by go_num, by omega, by rw [List.take_add_one, List.take_add_one, HT.out, HX.out, HY.out, HE.out], _, rfl⟩
          case measure => simp [intOf]; omega
        · have e : (x != y) = true := by simp [hxy]
          have HE := Lib.hid hxy
          clear hxy
          go_wp2_with fail
          go_quiet (fail)
          go_wp2
          go_ret
          refine ⟨ret_bool (decide_eq_false fun he => HE.out ?_).symm, q + nq, World.drewN_drewN _ _ _⟩
          have := HX.out
          rw [he, HY.out] at this
          exact (Option.some.inj this).symm
      · go_wp2
        go_ret
        refine ⟨ret_bool (decide_eq_true ?_).symm, _, rfl⟩
        have h1 := HT.out
        rwa [List.take_of_length_le (by rw [← Hn.out]; omega), List.take_of_length_le (by rw [← Hm.out, ← HQ.out]; omega)] at h1
  · have hq : ((n : Int) != (m : Int)) = true := by simp; omega
    have HQ := Lib.hid hnm
    clear hnm
    go_enter Try.func72, Try.ntmps72
    go_wp2
    go_ret
    exact ⟨ret_bool (decide_eq_false fun he => HQ.out (by rw [Hn.out, Hm.out, he])).symm, 0, rfl⟩
theorem sameI_any (xs ys : List Int) (A B : Option Addr) (n m c d : Nat) (w : World) (hn : n = xs.length) (hm : m = ys.length) (hA : Rd w A (ints xs)) (hB : Rd w B (ints ys)) (hl : n ≤ 9223372036854775807) :
    Calls Try.prog 43 #[.slice A n c, .slice B m d] w (QuietN (.bool (decide (xs = ys))) w) := by
  have hq := equalQ xs ys A B n m c d w hn hm hA hB hl
  have HQ := Lib.hid hq
  clear hq hn hm hA hB
  obtain ⟨r, hr⟩ : ∃ r, decide (xs = ys) = r := ⟨_, rfl⟩
  rw [hr] at HQ ⊢
  clear hr
  go_enter Try.func43, Try.ntmps43
  go_wp2_with fail
  refine (HQ.out).mono ?_
  rintro e w1 ⟨rfl, q, rfl⟩
  go_wp2
  go_ret
  exact ⟨rfl, q, rfl⟩
set_option maxHeartbeats 1000000 in
theorem ownI_any (xs : List Int) (A : Option Addr) (n c : Nat) (w : World) (hn : n = xs.length) (hr : Rd w A (ints xs)) (hm : n ≤ 1000000000) : Calls Try.prog 71 #[.slice A n c] w (OwnsV 3 (ints xs) n w) := by
  have HR := Lib.hid hr
  have HN := Lib.hid hn
  clear hr hn
  go_enter Try.func71, Try.ntmps71
  go_wp2_with (at_builtin; refine wpList_app tInt rfl (.const (.slice none 0 0)) (.tmp 3) rfl w.heap.size (.slice none 0 0) 0 [] rfl ⟨rfl, .inl ⟨rfl, rfl⟩⟩ A n c (ints xs) rfl (by rw [ints_length, HN.out]) HR.out (ints_one xs) (by omega) (by unfold maxLen; omega) (Nat.le_refl _) ?_; intro v1 w1 o1 _ hb1)
  rw [Nat.zero_add, List.nil_append] at o1
  obtain ⟨A1, c1, rfl, hc1⟩ := own_slice o1
  go_ret
  exact ⟨⟨A1, c1, rfl, hc1, o1⟩, hb1⟩
theorem copyI_any (xs : List Int) (A : Option Addr) (n c : Nat) (w : World) (hn : n = xs.length) (hr : Rd w A (ints xs)) (hm : n ≤ 1000000000) : Calls Try.prog 42 #[.slice A n c] w (OwnsV 3 (ints xs) n w) := by
  have ho := ownI_any xs A n c w hn hr hm
  have HO := Lib.hid ho
  clear ho hr hn
  go_enter Try.func42, Try.ntmps42
  go_wp2_with fail
  refine (HO.out).mono ?_
  rintro e w1 ⟨⟨A1, c1, rfl, hc1, o1⟩, hb1⟩
  have HO1 := Lib.hid o1
  clear o1
  go_wp2
  go_ret
  exact ⟨⟨A1, c1, rfl, hc1, HO1.out⟩, hb1⟩
theorem map_take_snoc {fs gs : List Fl} {k : Nat} {f g : Fl} (h : (fs.take k).map Fl.dat = (gs.take k).map Fl.dat) (hf : fs[k]? = some f) (hg : gs[k]? = some g) (h1 : f.nm = g.nm) (h2 : f.fr = g.fr) : (fs.take (k + 1)).map Fl.dat = (gs.take (k + 1)).map Fl.dat := by
  rw [List.take_add_one, List.take_add_one, hf, hg, List.map_append, List.map_append, h]
  simp [Fl.dat, h1, h2]
theorem map_ne {fs gs : List Fl} {k : Nat} {f g : Fl} (hf : fs[k]? = some f) (hg : gs[k]? = some g) (h : f.nm ≠ g.nm ∨ f.fr ≠ g.fr) : ¬ fs.map Fl.dat = gs.map Fl.dat := fun e => by
  have e2 := congrArg (·[k]?) e
  simp only [List.getElem?_map, hf, hg, Option.map_some] at e2
  injection e2 with e2
  injection e2 with e3 e4
  exact h.elim (fun h => h e3) (fun h => h e4)
set_option maxRecDepth 100000 in
set_option maxHeartbeats 2000000 in
theorem sameF_any (fs gs : List Fl) (A B : Option Addr) (n m c d : Nat) (w : World) (hn : fs.length = n) (hm : gs.length = m) (hA : RdF w A fs) (hB : RdF w B gs) (hl : n ≤ 9223372036854775807) :
    Calls Try.prog 11 #[.slice A n c, .slice B m d] w (QuietN (.bool (decide (fs.map Fl.dat = gs.map Fl.dat))) w) := by
  have HA := Lib.hid hA
  have HB := Lib.hid hB
  have Hn := Lib.hid hn
  have Hm := Lib.hid hm
  clear hA hB hn hm
  by_cases hnm : n = m
  · have hq : ((n : Int) != (m : Int)) = false := by simp [hnm]
    have HQ := Lib.hid hnm
    clear hnm
    go_enter Try.func11, Try.ntmps11
    go_wp2_with fail
    go_loopw [5] (fun i wr => ∃ k : Nat, i = .int .i64 k ∧ k ≤ n ∧ (fs.take k).map Fl.dat = (gs.take k).map Fl.dat ∧ ∃ q, wr = w.drewN q) (fun i _ => n - (intOf i).toNat)
    case atStart => exact ⟨0, rfl, by omega, by simp, 0, rfl⟩
    case round =>
      obtain ⟨k, rfl, hk, ht, hqq⟩ := hrel
      have hAr : RdF wr A fs := by obtain ⟨q, rfl⟩ := hqq; exact HA.out.drewN q
      have hBr : RdF wr B gs := by obtain ⟨q, rfl⟩ := hqq; exact HB.out.drewN q
      have HAR := Lib.hid hAr
      have HBR := Lib.hid hBr
      have HQQ := Lib.hid hqq
      clear hAr hBr hqq
      have HT := Lib.hid ht
      clear ht
      by_cases hlt : k < n
      · obtain ⟨f, hf⟩ : ∃ f, fs[k]? = some f := ⟨_, List.getElem?_eq_getElem (by rw [Hn.out]; exact hlt)⟩
        obtain ⟨g, hg⟩ : ∃ g, gs[k]? = some g := ⟨_, List.getElem?_eq_getElem (by rw [Hm.out, ← HQ.out]; exact hlt)⟩
        obtain ⟨b1, o1, rfl, hat1⟩ := HAR.out.row.fl hf
        obtain ⟨b2, o2, rfl, hat2⟩ := HBR.out.row.fl hg
        have hr1 := HAR.out.each f (List.mem_of_getElem? hf)
        have hr2 := HBR.out.each g (List.mem_of_getElem? hg)
        have h10 := hat1.c0
        have h11 := hat1.c1
        have h20 := hat2.c0
        have h21 := hat2.c1
        have hsm := fun (q' : Nat) => sameI_any f.fr g.fr f.A g.A f.n g.n f.c g.c (wr.drewN q') hr1.len.symm hr2.len.symm (hr1.fr.drewN q') (hr2.fr.drewN q') (by have := hr1.cap; have := hr1.top; unfold maxLen at this; omega)
        have HX := Lib.hid hf
        have HY := Lib.hid hg
        have HS := Lib.hid hsm
        clear hf hg hat1 hat2 hr1 hr2 hsm
        have hkm : (k : Int) < (m : Int) := by have := HQ.out; omega
        have hkn : (k : Int) < (n : Int) := by omega
        by_cases hnn : f.nm = g.nm
        · have e : (f.nm.toList != g.nm.toList) = false := by simp [hnn]
          have e' : (f.nm.toList == g.nm.toList) = true := by simp [hnn]
          have HNN := Lib.hid hnn
          clear hnn
          by_cases hff : f.fr = g.fr
          · have hd : decide (f.fr = g.fr) = true := by simp [hff]
            rw [hd] at HS
            have HFF := Lib.hid hff
            clear hff hd
            obtain ⟨nm, fr, fA, fn, fc⟩ := f
            obtain ⟨nm', fr', gA, gn, gc⟩ := g
            simp only at h10 h11 h20 h21 HS e e' HNN HFF
            go_wp2_with fail
            go_quiet ((go_at_call 43; exact quiet_n (HS.out _)))
            go_wp2
            go_roundw
            case rel => exact ⟨k + 1, by go_num, by omega, map_take_snoc HT.out HX.out HY.out HNN.out HFF.out, drewN_ex HQQ.out _⟩
            case measure => simp [intOf]; omega
          · have hd : decide (f.fr = g.fr) = false := by simp [hff]
            rw [hd] at HS
            have HFF := Lib.hid hff
            clear hff hd
            obtain ⟨nm, fr, fA, fn, fc⟩ := f
            obtain ⟨nm', fr', gA, gn, gc⟩ := g
            simp only at h10 h11 h20 h21 HS e e' HNN HFF
            go_wp2_with fail
            go_quiet ((go_at_call 43; exact quiet_n (HS.out _)))
            go_wp2
            go_ret
            exact ⟨ret_bool (decide_eq_false (map_ne HX.out HY.out (.inr HFF.out))).symm, drewN_ex HQQ.out _⟩
        · have e' : (f.nm.toList == g.nm.toList) = false := (Lib.bytes_beq_false_iff _ _).2 hnn
          have e : (f.nm.toList != g.nm.toList) = true := by unfold bne; rw [e']; rfl
          have HNN := Lib.hid hnn
          clear hnn
          obtain ⟨nm, fr, fA, fn, fc⟩ := f
          obtain ⟨nm', fr', gA, gn, gc⟩ := g
          simp only at h10 h11 h20 h21 e e' HNN
          go_wp2_with fail
          go_quiet (fail)
          go_wp2
          go_ret
          exact ⟨ret_bool (decide_eq_false (map_ne HX.out HY.out (.inl HNN.out))).symm, drewN_ex HQQ.out _⟩
      · go_wp2
        go_ret
        refine ⟨ret_bool (decide_eq_true ?_).symm, HQQ.out⟩
        have h1 := HT.out
        rwa [List.take_of_length_le (by rw [Hn.out]; omega), List.take_of_length_le (by rw [Hm.out, ← HQ.out]; omega)] at h1
  · have hq : ((n : Int) != (m : Int)) = true := by simp; omega
    have HQ := Lib.hid hnm
    clear hnm
    go_enter Try.func11, Try.ntmps11
    go_wp2
    go_ret
    exact ⟨ret_bool (decide_eq_false fun he => HQ.out (by have := congrArg List.length he; rw [List.length_map, List.length_map, Hn.out, Hm.out] at this; exact this)).symm, 0, rfl⟩
end Go.Proofs.Ytlhhkmpidnegcaa
