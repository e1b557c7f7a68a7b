/- OctetsRow's walk: any things, any bytes ahead, any cut: true; nothing that was there is written. No condition. -/
import Derived.Test.YtbmhfefbfocelaaThingPut
import Derived.Test.YtbmhfefbfocelaaThingOpen
import Derived.Deep.RegionHeld3
namespace Go.Proofs.Ytbmhfefbfocelaa
open Go.RowKit Go.WideShapes
set_option linter.unusedVariables false
theorem tInts : SlT Try.prog 47 3 (.int .i64 0) 8 := ⟨Try.underlying47, by kernel_rfl, rfl⟩
theorem info55 : (Try.prog.info? 55).map (fun i => (i.zero, i.size, i.bytes)) = some (some (.agg #[.int .u8 0, .int .u64 0, .string ⟨#[]⟩]), 3, 32) := by kernel_rfl
theorem own_apart {w : World} {b1 b2 : Nat} {e1 e2 : TypeId} {s1 s2 n1 n2 : Nat} {v1 v2 : Value} {xs ys : List Value} (h1 : w.ownsRow b1 e1 s1 v1 n1 xs) (h2 : w.ownsRow b2 e2 s2 v2 n2 ys) (he : e1 ≠ e2) : v1.ownBlock = none ∨ v1.ownBlock ≠ v2.ownBlock := by
  rcases h1.2 with ⟨rfl, _⟩ | ⟨g, cap, cur, rfl, _, hg, _⟩
  · exact .inl rfl
  · rcases h2.2 with ⟨rfl, _⟩ | ⟨g', cap', cur', rfl, _, hg', _⟩
    · right; simp [Value.ownBlock]
    · right
      intro e
      simp [Value.ownBlock] at e
      subst e
      rw [hg] at hg'
      injection hg' with h
      injection h with _ h
      exact he h
theorem rd_own {w : World} {base n : Nat} {e : TypeId} {size c : Nat} {A : Option Addr} {xs : List Value} (h : w.ownsRow base e size (.slice A n c) n xs) : Rd w A xs := fun hn => by
  have hl := h.1
  obtain ⟨g, cap, hv, _, hlt⟩ := h.form (by
    rcases Nat.eq_zero_or_pos n with h0 | h0
    · subst h0; rw [Nat.zero_mul] at hl; omega
    · exact h0)
  have hA : A = some ⟨g, 0, none⟩ := by injection hv
  subst hA
  refine ⟨g, 0, rfl, hlt, fun i u hu => ?_⟩
  have := h.cells (g := g) rfl i u hu
  rwa [addr_add] at this
theorem stands_is (W N : Int) (S : ByteArray) (bs : List Int) (A : Option Addr) (L c : Nat) (p : Int) (w : World) (hok : (Th.mk W N S).ok) (hL : L = bs.length) (ho : Oct bs) (hr : Rd w A (octs bs)) (hc : L ≤ c) (hcm : c ≤ maxLen) (hb : L ≤ 1000000) (p0 : 0 ≤ p) (p1 : p ≤ 1000000) (ok same : Bool) (to : Int)
    (h1 : okT (Th.mk W N S) bs p = ok) (h2 : sameT (Th.mk W N S) bs p = same) (h3 : toT (Th.mk W N S) bs p = to) :
    Calls Try.prog 25 #[.agg #[.int .u8 W, .int .u64 N, .string S], .slice A L c, .int .i64 p] w (IsStands ok same to w) := by
  subst h1 h2 h3
  exact stands_any W N S bs A L c p w hok hL ho hr hc hcm hb p0 p1
/-- How each of a row's things stands in all bytes, and in the first of them. -/
theorem row_stands (bs : List Int) (sel : List Th) (j : Nat) (t : Th) (ht : sel[j]? = some t) (hs : t.S.size ≤ 65535) (m : Nat) (hm : m ≤ (bs ++ encs sel).length) :
    (placeAt bs.length sel j + t.enc.length ≤ m → okT t ((bs ++ encs sel).take m) (placeAt bs.length sel j : Nat) = true ∧ sameT t ((bs ++ encs sel).take m) (placeAt bs.length sel j : Nat) = true ∧ toT t ((bs ++ encs sel).take m) (placeAt bs.length sel j : Nat) = (placeAt bs.length sel j + t.enc.length : Nat)) ∧
    (m < placeAt bs.length sel j + t.enc.length → okT t ((bs ++ encs sel).take m) (placeAt bs.length sel j : Nat) = false) := by
  have e : bs ++ encs sel = (bs ++ encs (sel.take j)) ++ (t.enc ++ encs (sel.drop (j + 1))) := by rw [encs_split ht, List.append_assoc]
  have hp : (bs ++ encs (sel.take j)).length = placeAt bs.length sel j := by rw [List.length_append]; rfl
  rw [e] at hm ⊢
  rw [← hp]
  refine ⟨fun h => ?_, fun h => stands_out t _ _ m hs hm h⟩
  obtain ⟨h1, h2, h3⟩ := stands_in t _ _ m hs hm h
  exact ⟨h1, h2, by rw [h3]; omega⟩
theorem placeAt_le (bs : List Int) (sel : List Th) (j : Nat) (t : Th) (ht : sel[j]? = some t) : placeAt bs.length sel j + t.enc.length ≤ (bs ++ encs sel).length := by
  have e : bs ++ encs sel = (bs ++ encs (sel.take j)) ++ (t.enc ++ encs (sel.drop (j + 1))) := by rw [encs_split ht, List.append_assoc]
  rw [e, List.length_append, List.length_append, List.length_append]
  unfold placeAt
  omega
theorem rd_take {w : World} {A : Option Addr} {l : List Int} (h : Rd w A (octs l)) (m : Nat) : Rd w A (octs (l.take m)) := by
  have := h.take m
  unfold octs at this ⊢
  rwa [← List.map_take] at this
structure RowRel (bs : List Int) (ts : List Th) (B : Nat) (w0 : World) (v7 v8 v9 i : Value) (w : World) : Prop where
  ex : ∃ (k : Nat) (sel : List Th), k ≤ ts.length ∧ k ≤ 20 ∧ i = .int .i64 k ∧ sel.length ≤ k ∧ (∀ t ∈ sel, t.ok ∧ t.S.size ≤ 60) ∧ (encs sel).length ≤ 62 * k ∧
    w.ownsRow B 5 1 v7 (bs.length + (encs sel).length) (octs (bs ++ encs sel)) ∧ w.ownsRow B 55 3 v8 sel.length (flat sel) ∧ w.ownsRow B 3 1 v9 (sel.length + 1) (placesV bs.length sel)
  low : Below B w0 w
theorem copyBytes_any (bs : List Int) (A : Option Addr) (c : Nat) (w : World) (hr : Rd w A (octs bs)) (hl : bs.length ≤ 140737488351232) :
    Calls Try.prog 23 #[.slice A bs.length c] w (OwnsB w.heap.size bs w) := by
  have HR := Lib.hid hr
  clear hr
  go_enter Try.func23, Try.ntmps23
  go_wp2_with fail
  refine (own_any bs A c w HR.out hl).mono ?_
  rintro e w1 ⟨⟨A1, c1, rfl, hc1, hown1⟩, hb1⟩
  go_wp2
  go_ret
  exact ⟨⟨A1, c1, rfl, hc1, hown1⟩, hb1⟩
set_option maxRecDepth 100000 in
set_option maxHeartbeats 16000000 in
theorem row_any (ts : List Th) (bs : List Int) (A B : Option Addr) (T L c d : Nat) (cut : Int) (w : World) (hT : T = ts.length) (hok : ∀ t ∈ ts, t.ok) (hrt : Rd w A (flat ts)) (hT2 : T ≤ c) (hTm : c ≤ maxLen)
    (hL : L = bs.length) (ho : Oct bs) (hr : Rd w B (octs bs)) (h2 : L ≤ d) (hm : d ≤ maxLen) (c0 : 0 ≤ cut) (c1 : cut ≤ 65535) :
    Calls Try.prog 7 #[.slice A T c, .slice B L d, .int .u16 cut] w fun e w' => e = .returned (.bool true) ∧ Below w.heap.size w w' := by
  obtain ⟨i55, hi55, hz55, hs55, hy55⟩ := info_parts info55
  have HI := Lib.hid hi55
  have HZ := Lib.hid hz55
  have HS := Lib.hid hs55
  have HY := Lib.hid hy55
  clear hi55 hz55 hs55 hy55
  have HT := Lib.hid hT
  have HOK := Lib.hid hok
  have HRT := Lib.hid hrt
  have HTM := Lib.hid hTm
  have HL := Lib.hid hL
  have HM := Lib.hid hm
  have HR := Lib.hid hr
  have HO := Lib.hid ho
  unfold maxLen at hTm hm
  clear hT hok hrt hL ho hr
  by_cases hbig : 40 < L
  · go_enter Try.func7, Try.ntmps7
    go_wp2_with (go_at_call 10; refine (awake_any _).mono ?_; rintro e w1 ⟨rfl, hb1⟩)
    go_ret
    exact ⟨rfl, hb1⟩
  go_enter Try.func7, Try.ntmps7
  go_wp2_with fail
  have hcb := copyBytes_any bs B d w HR.out (by rw [← HL.out]; omega)
  rw [← HL.out] at hcb
  refine hcb.mono ?_
  clear hcb
  rintro e w1 ⟨⟨A1, c1', rfl, hc1, o1⟩, hb1⟩
  rw [← HL.out] at o1 ⊢
  have O1 := Lib.hid o1
  have B1 := Lib.hid hb1
  clear o1 hb1 hc1
  go_wp2_with fail
  go_loopw [7, 8, 9, 10] (fun v7 v8 v9 i wr => RowRel bs ts w.heap.size w v7 v8 v9 i wr) (fun _ _ _ i _ => 20 - (intOf i).toNat)
  case atStart =>
    refine ⟨⟨0, [], by omega, by omega, rfl, by simp, (by intro t ht; cases ht), by simp [encs], ?_, ?_, ?_⟩, B1.out.alloc B1.out.size _⟩
    · simpa [encs, HL.out] using O1.out.alloc _
    · exact ⟨rfl, .inl ⟨rfl, rfl⟩⟩
    · have := World.ownsRow_lit (base := w.heap.size) (e := 3) (size := 1) w1 #[.int .i64 (L : Nat)] 1 B1.out.size (by simp [maxLen]) rfl
      simpa [placesV, placeAt, encs, HL.out] using this
  case round =>
    obtain ⟨⟨k, sel, hk, hk20, rfl, hsl, hall, hlen, o7, o8, o9⟩, hb⟩ := hrel
    obtain ⟨A7, d7, rfl, hd7⟩ := own_slice o7
    obtain ⟨A8, d8, rfl, hd8⟩ := own_slice o8
    obtain ⟨A9, d9, rfl, hd9⟩ := own_slice o9
    have CM7 := Lib.hid (own_cap o7)
    have O7 := Lib.hid o7
    have O8 := Lib.hid o8
    have O9 := Lib.hid o9
    have HB := Lib.hid hb
    have HALL := Lib.hid hall
    have ob := encs_oct sel
    have OB := Lib.hid ob
    have hk' := HT.out
    clear o7 o8 o9 hb hall ob
    obtain ⟨M, hM⟩ : ∃ M, bs.length + (encs sel).length = M := ⟨_, rfl⟩
    rw [hM] at O7 hd7 ⊢
    have hMl : M ≤ 40 + 62 * k := by have := HL.out; omega
    have HMM := Lib.hid hM
    clear hM
    by_cases hlt : k < ts.length ∧ k < 20
    · obtain ⟨hlt1, hlt2⟩ := hlt
      obtain ⟨t, ht⟩ : ∃ t, ts[k]? = some t := ⟨_, List.getElem?_eq_getElem hlt1⟩
      have htok := HOK.out t (List.mem_of_getElem? ht)
      obtain ⟨b, off, rfl, hbl, hcell⟩ := HRT.out (by rw [flat_length]; omega)
      have hce : ∀ wx, Below w.heap.size w wx → wx.cell? ⟨b, off + k * 3, none⟩ = some (.int .u8 t.W) ∧ wx.cell? ⟨b, off + k * 3 + 1, none⟩ = some (.int .u64 t.N) ∧ wx.cell? ⟨b, off + k * 3 + 2, none⟩ = some (.string t.S) := fun wx hx => by
        have e0 := hcell (k * 3 + 0) _ (flat_at ts k 0 t ht (by omega))
        have e1 := hcell (k * 3 + 1) _ (flat_at ts k 1 t ht (by omega))
        have e2 := hcell (k * 3 + 2) _ (flat_at ts k 2 t ht (by omega))
        exact ⟨(hx.cell (p := ⟨b, off + k * 3, none⟩) hbl).trans e0, (hx.cell (p := ⟨b, off + k * 3 + 1, none⟩) hbl).trans e1, (hx.cell (p := ⟨b, off + k * 3 + 2, none⟩) hbl).trans e2⟩
      obtain ⟨W, N, S⟩ := t
      simp only at hce
      have HCE := Lib.hid hce
      obtain ⟨e0, e1, e2⟩ := hce wr HB.out
      clear hce
      have gk : (k : Int) < T := by omega
      have gk2 : (k : Int) < 20 := by omega
      have HTK := Lib.hid ht
      have HTO := Lib.hid htok
      have hss := htok.s
      simp only at hss
      unfold maxLen at hss
      clear ht htok hk' hcell
      by_cases hs : S.size ≤ 60
      · have hs' : (S.size : Int) ≤ 60 := by omega
        have hnew : ∀ (w' : World) (j : Nat) (u : Value), (Th.cells ⟨W, N, S⟩)[j]? = some u → (w'.alloc (.cells #[.int .u8 W, .int .u64 N, .string S] 55)).cell? ((⟨w'.heap.size, 0, none⟩ : Addr).add j) = some u := fun w' j u hu => by
          rw [addr_add, Nat.zero_add, cell_of_row _ _ _ _ _ _ (heap_alloc_new _ _)]
          simpa [Th.cells] using hu
        have HN := Lib.hid hnew
        have hone : ∀ u ∈ Th.cells ⟨W, N, S⟩, u.oneCell' = true := by intro u hu; simp [Th.cells] at hu; rcases hu with rfl | rfl | rfl <;> rfl
        have HC := Lib.hid hone
        clear hone
        clear hnew
        have hbs : w.heap.size ≤ wr.heap.size + 1 := by have := HB.out.size; omega
        have ne7 := own_apart O7.out O8.out (by decide)
        have ne9 := own_apart O9.out O8.out (by decide)
        have NE7 := Lib.hid ne7
        have NE9 := Lib.hid ne9
        have ng8 := own_ge O8.out
        have NG8 := Lib.hid ng8
        clear ne7 ne9 ng8
        go_wp2_with (first
          | (at_builtin
             refine wpList_append_own _ rfl (.tmp 44) (.tmp 49) _ rfl w.heap.size 55 i55 (.agg #[.int .u8 0, .int .u64 0, .string ⟨#[]⟩]) 3 32 Try.underlying52 HI.out HZ.out HS.out HY.out rfl (by omega) (.slice A8 sel.length d8) sel.length (flat sel) rfl (O8.out.alloc _) ⟨wr.heap.size, 0, none⟩ 1 1 (Th.cells ⟨W, N, S⟩) rfl rfl (HN.out wr) (HC.out) (by unfold maxLen; omega) (by omega) (by rw [World.size_alloc]; exact hbs) ?_
             intro v8 w2 o8 hg8 _
             have o7 := Lib.hid ((O7.out.alloc (.cells #[.int .u8 W, .int .u64 N, .string S] 55)).kept hg8 NE7.out)
             have o9 := Lib.hid ((O9.out.alloc (.cells #[.int .u8 W, .int .u64 N, .string S] 55)).kept hg8 NE9.out)
             have hb2 := Lib.hid ((HB.out.alloc HB.out.size (.cells #[.int .u8 W, .int .u64 N, .string S] 55)).grown hg8 (by rw [World.size_alloc]; exact hbs) NG8.out)
             have o8h := Lib.hid o8
             obtain ⟨f0, f1, f2⟩ := HCE.out w2 hb2.out
             clear o8 hg8)
          | (go_at_call 24
             refine (put_any W N S (bs ++ encs sel) A7 M d7 (M + (Th.enc ⟨W, N, S⟩).length) w2 HTO.out (by omega) rfl ?_ (Rd.of_own o7.out) hd7 (by omega)).mono ?_
             · rw [List.length_append, HMM.out]
             rintro e w3 ⟨⟨A3, c3, rfl, hc3, hl3, o3⟩, hb3⟩
             have o8' := Lib.hid (own_below o8h.out hb3)
             have o9' := Lib.hid (own_below o9.out hb3)
             have hb3' := Lib.hid (ch0 hb2.out hb3)
             have hs3 := hb3'.out.size
             have o3' := Lib.hid o3
             have hl3' := Lib.hid hl3
             clear o3 hl3 hb3 f0 f1 f2 o8h o9 o7)
          | (at_builtin
             refine wpList_app1 tInts rfl (.tmp 57) (.tmp 60) rfl w.heap.size (.slice A9 (sel.length + 1) d9) (sel.length + 1) (placesV bs.length sel) rfl o9'.out _ (by rfl) _ rfl rfl (by omega) (by unfold maxLen; omega) hs3 ?_
             intro v9 w4 o9'' hg9 hb4))
        have hMM : bs.length + (encs (sel ++ [⟨W, N, S⟩])).length = M + (Th.enc ⟨W, N, S⟩).length := by rw [encs_snoc, List.length_append, ← HMM.out]; omega
        have hel := (Th.mk W N S).enc_len
        have hwl := (Th.mk W N S).wide_le
        have hel2 : (Th.enc ⟨W, N, S⟩).length ≤ 62 := by
          rw [hel]
          split
          · show 2 + S.size ≤ 62; omega
          · omega
        go_roundw
        case rel =>
          refine ⟨⟨k + 1, sel ++ [⟨W, N, S⟩], by omega, by omega, by go_num, by simp; omega, ?_, ?_, ?_, ?_, ?_⟩, hb3'.out.trans hb4⟩
          · intro t ht
            rcases List.mem_append.1 ht with h | h
            · exact HALL.out t h
            · simp at h; subst h; exact ⟨HTO.out, hs⟩
          · rw [encs_snoc, List.length_append]; omega
          · rw [hMM, encs_snoc, ← List.append_assoc]
            exact (own_less o3'.out hb2.out.size).kept hg9 (own_apart o3'.out o9'.out (by decide))
          · rw [flat_snoc, List.length_append]
            exact o8'.out.kept hg9 (own_apart o8'.out o9'.out (by decide))
          · rw [placesV_snoc, hMM, List.length_append]
            exact o9''
        case measure => simp [intOf]; omega
      · have hs' : (60 : Int) < S.size := by omega
        go_wp2
        go_roundw
        case rel => exact ⟨⟨k + 1, sel, by omega, by omega, by go_num, by omega, HALL.out, by omega, by rw [HMM.out]; exact O7.out, O8.out, O9.out⟩, HB.out⟩
        case measure => simp [intOf]; omega
    · have hML : L ≤ M := by have := HL.out; have := HMM.out; omega
      have r7 : Rd wr A7 (octs (bs ++ encs sel)) := Rd.of_own O7.out
      have r7' : Rd wr A7 (octs bs) := by
        have := r7.take bs.length
        rwa [show (octs (bs ++ encs sel)).take bs.length = octs bs by simp [octs]] at this
      obtain ⟨Z, hZ⟩ : ∃ Z, strOfNums bs = Z := ⟨_, rfl⟩
      have cv1 : ∀ n, (convert 22 9 (.slice A7 L d7)).run Try.prog (wr.drewN n) = .ok (.string Z) (wr.drewN n) := fun n => by rw [← hZ]; exact str_run _ A7 L d7 bs HL.out (Rd.drewN r7' n)
      have cv2 : ∀ n, (convert 22 9 (.slice B L d)).run Try.prog (wr.drewN n) = .ok (.string Z) (wr.drewN n) := fun n => by rw [← hZ]; exact str_run _ B L d bs HL.out (Rd.drewN (HR.out.below HB.out rfl) n)
      have R7 := Lib.hid r7
      clear r7 r7' hZ
      have gm : decide ((M : Int) < L) = false := by simp; omega
      have gL : L ≤ d7 := by omega
      have gL' : (L : Int) ≤ (d7 : Int) := by omega
      obtain ⟨q, hq, hqM⟩ : ∃ q : Nat, cut % ((M : Int) - L + 1) = (q : Int) ∧ L + q ≤ M := ⟨(cut % ((M : Int) - L + 1)).toNat, by
        have h1 := Int.emod_nonneg cut (b := (M : Int) - L + 1) (by omega)
        omega, by
        have h1 := Int.emod_nonneg cut (b := (M : Int) - L + 1) (by omega)
        have h2 := Int.emod_lt_of_pos cut (b := (M : Int) - L + 1) (by omega)
        omega⟩
      have gq : L + q ≤ d7 := by omega
      have gq' : (L : Int) + q ≤ d7 := by omega
      have gk : (¬ (k : Int) < T) ∨ ((k : Int) < T ∧ ¬ (k : Int) < 20) := by omega
      have KK := Lib.hid hlt
      clear hlt hk'
      rcases gk with gk | ⟨gk, gk2⟩
      all_goals
        go_wp2_with fail
        go_quiet (fail)
        go_wp2_with fail
        clear cv1 cv2 hq gm gL gL'
        obtain ⟨wl, hwl⟩ : ∃ x, x = wr.drewN nq := ⟨_, rfl⟩
        have R7' : Hid (Rd wl A7 (octs (bs ++ encs sel))) := by rw [hwl]; exact Lib.hid (Rd.drewN R7.out nq)
        have R8' : Hid (Rd wl A8 (flat sel)) := by rw [hwl]; exact Lib.hid (Rd.drewN (rd_own O8.out) nq)
        have R9' : Hid (Rd wl A9 (placesV bs.length sel)) := by rw [hwl]; exact Lib.hid (Rd.drewN (Rd.of_own O9.out) nq)
        have HBl : Hid (Below w.heap.size w wl) := by rw [hwl]; exact Lib.hid (below_drewN HB.out nq)
        rw [← hwl]
        clear hwl
        have gmn : decide (M < L) = false := by simp; omega
        simp only [gmn]
        clear gmn
        go_loopw [93] (fun i wr => ∃ j : Nat, j ≤ sel.length ∧ i = .int .i64 j ∧ Below wl.heap.size wl wr) (fun i _ => sel.length - (intOf i).toNat)
        case atStart => exact ⟨0, by omega, rfl, Below.refl _ _⟩
        case round =>
          obtain ⟨j, hj, rfl, hbj⟩ := hrel
          by_cases hjl : j < sel.length
          · obtain ⟨t, ht⟩ : ∃ t, sel[j]? = some t := ⟨_, List.getElem?_eq_getElem hjl⟩
            obtain ⟨htok, hts⟩ := HALL.out t (List.mem_of_getElem? ht)
            obtain ⟨b8, f8, rfl, hb8, hc8⟩ := (R8'.out.below hbj rfl) (by rw [flat_length]; omega)
            have e0 := hc8 (j * 3 + 0) _ (flat_at sel j 0 t ht (by omega))
            have e1 := hc8 (j * 3 + 1) _ (flat_at sel j 1 t ht (by omega))
            have e2 := hc8 (j * 3 + 2) _ (flat_at sel j 2 t ht (by omega))
            obtain ⟨b9, f9, rfl, hb9, hc9⟩ := (R9'.out.below hbj rfl) (by rw [placesV_length]; omega)
            have p0 := hc9 j _ (placesV_at (by omega))
            have p1 := hc9 (j + 1) _ (placesV_at (by omega))
            have hps := placeAt_succ (L0 := bs.length) ht
            rw [hps] at p1
            have hlen7 : (bs ++ encs sel).length = M := by rw [List.length_append]; exact HMM.out
            have rs1 := (row_stands bs sel j t ht (by omega) M (by omega)).1 (by have := placeAt_le bs sel j t ht; omega)
            rw [List.take_of_length_le (by omega)] at rs1
            have rs2 := row_stands bs sel j t ht (by omega) (L + q) (by omega)
            have hpl := placeAt_le bs sel j t ht
            rw [hlen7] at hpl
            generalize placeAt bs.length sel j = p at *
            generalize hn : t.enc.length = n at *
            have HFULL := Lib.hid hlen7
            have RS1 := Lib.hid rs1
            have RS2 := Lib.hid rs2
            have HTT := Lib.hid ht
            have HTK := Lib.hid htok
            clear hlen7 rs1 rs2 hps hn ht htok hc8 hc9
            obtain ⟨W, N, S⟩ := t
            rw [Nat.add_zero] at e0
            rw [← Nat.add_assoc] at e1 e2
            have hfs : ∀ wx, Below (wr.alloc (.cells #[.int .u8 W, .int .u64 N, .string S] 55)).heap.size (wr.alloc (.cells #[.int .u8 W, .int .u64 N, .string S] 55)) wx → wx.cell? ⟨wr.heap.size, 0, none⟩ = some (.int .u8 W) ∧ wx.cell? ⟨wr.heap.size, 1, none⟩ = some (.int .u64 N) ∧ wx.cell? ⟨wr.heap.size, 2, none⟩ = some (.string S) ∧ wx.cell? ⟨b9, f9 + j, none⟩ = some (.int .i64 (p : Nat)) ∧ wx.cell? ⟨b9, f9 + (j + 1), none⟩ = some (.int .i64 ((p : Int) + n)) ∧ Rd wx A7 (octs (bs ++ encs sel)) := fun wx hx => by
              refine ⟨?_, ?_, ?_, ?_, ?_, ?_⟩
              · exact (hx.cell (p := ⟨wr.heap.size, 0, none⟩) (by rw [World.size_alloc]; exact Nat.lt_succ_self _)).trans (by rw [cell_of_row _ _ _ _ _ _ (heap_alloc_new _ _)]; rfl)
              · exact (hx.cell (p := ⟨wr.heap.size, 1, none⟩) (by rw [World.size_alloc]; exact Nat.lt_succ_self _)).trans (by rw [cell_of_row _ _ _ _ _ _ (heap_alloc_new _ _)]; rfl)
              · exact (hx.cell (p := ⟨wr.heap.size, 2, none⟩) (by rw [World.size_alloc]; exact Nat.lt_succ_self _)).trans (by rw [cell_of_row _ _ _ _ _ _ (heap_alloc_new _ _)]; rfl)
              · exact (hx.cell (p := ⟨b9, f9 + j, none⟩) (by rw [World.size_alloc]; exact Nat.lt_succ_of_lt hb9)).trans ((World.cell?_alloc_lt wr _ ⟨b9, f9 + j, none⟩ hb9).trans p0)
              · exact (hx.cell (p := ⟨b9, f9 + (j + 1), none⟩) (by rw [World.size_alloc]; exact Nat.lt_succ_of_lt hb9)).trans ((World.cell?_alloc_lt wr _ ⟨b9, f9 + (j + 1), none⟩ hb9).trans (by rw [p1, Int.natCast_add]))
              · exact ((R7'.out.below hbj rfl).alloc _).below hx rfl
            have HFS := Lib.hid hfs
            have hbw : Below wl.heap.size wl (wr.alloc (.cells #[.int .u8 W, .int .u64 N, .string S] 55)) := hbj.alloc hbj.size _
            have HBW := Lib.hid hbw
            clear hfs p0 p1 hbj hbw
            have gsl : (j : Int) < sel.length := by omega
            have gj0 : (0 : Int) ≤ (j : Int) := by omega
            have gj1 : (j : Int) < (sel.length : Int) + 1 := by omega
            have gpl : (p : Int) + n ≤ M := by omega
            go_wp2_with fail
            obtain ⟨wa, hwa⟩ : ∃ x, x = wr.alloc (.cells #[.int .u8 W, .int .u64 N, .string S] 55) := ⟨_, rfl⟩
            rw [← hwa] at HFS HBW ⊢
            clear hwa e0 e1 e2
            obtain ⟨g0, g1, g2, g3, g4, gr⟩ := HFS.out wa (Below.refl _ _)
            have GR := Lib.hid gr
            clear gr
            go_region_held3 (fun w' => w'.cell? ⟨wr.heap.size, 0, none⟩ = some (.int .u8 W) ∧ w'.cell? ⟨wr.heap.size, 1, none⟩ = some (.int .u64 N) ∧ w'.cell? ⟨wr.heap.size, 2, none⟩ = some (.string S) ∧ w'.cell? ⟨b9, f9 + j, none⟩ = some (.int .i64 (p : Nat))) (first | exact ⟨g0, g1, g2, g3⟩ | (have hh := HFS.out _ (of_drew hb5); exact ⟨hh.1, hh.2.1, hh.2.2.1, hh.2.2.2.1⟩)) (first
              | (go_at_call 25; ((with_reducible refine (stands_is W N S (bs ++ encs sel) A7 M d7 p _ HTK.out HFULL.out.symm (HO.out.append OB.out) GR.out.drew hd7 CM7.out (by omega) (by omega) (by omega) true true _ RS1.out.1 RS1.out.2.1 RS1.out.2.2).mono ?_)); rintro e w5 ⟨rfl, hb5⟩))
            all_goals
              obtain ⟨g0, g1, g2, g3, g4, gr⟩ := HFS.out w5 (of_drew hb5)
              have GR5 := Lib.hid gr
              have HB5 := Lib.hid (of_drew hb5)
              clear gr hb5 GR
              by_cases hwh : p + n ≤ L + q
              · have gwh : (p : Int) + n ≤ (L : Int) + q := by omega
                go_wp2_with fail
                go_region_held3 (fun w' => w'.cell? ⟨wr.heap.size, 0, none⟩ = some (.int .u8 W) ∧ w'.cell? ⟨wr.heap.size, 1, none⟩ = some (.int .u64 N) ∧ w'.cell? ⟨wr.heap.size, 2, none⟩ = some (.string S) ∧ w'.cell? ⟨b9, f9 + j, none⟩ = some (.int .i64 (p : Nat))) (first | exact ⟨g0, g1, g2, g3⟩ | (have hh := HFS.out _ (HB5.out.trans ((of_drew hb6).mono HB5.out.size)); exact ⟨hh.1, hh.2.1, hh.2.2.1, hh.2.2.2.1⟩)) (first
                  | (go_at_call 25; ((with_reducible refine (stands_is W N S ((bs ++ encs sel).take (L + q)) A7 (L + q) d7 p _ HTK.out (take_len _ _ (by have := HFULL.out; omega)).symm ((HO.out.append OB.out).take _) (rd_take GR5.out.drew _) gq CM7.out (by omega) (by omega) (by omega) true true _ (RS2.out.1 hwh).1 (RS2.out.1 hwh).2.1 rfl).mono ?_)); rintro e w6 ⟨rfl, hb6⟩))
                obtain ⟨g0, g1, g2, g3, g4, gr⟩ := HFS.out w6 (HB5.out.trans ((of_drew hb6).mono HB5.out.size))
                have HB6 := Lib.hid (ch0 HBl.out (ch0 HBW.out (HB5.out.trans ((of_drew hb6).mono HB5.out.size))))
                have HB7 := Lib.hid (ch0 HBW.out (HB5.out.trans ((of_drew hb6).mono HB5.out.size)))
                clear gr hb6
                go_wp2_with (go_at_call 10; refine (awake_any _).mono ?_; rintro e w7 ⟨rfl, hb7⟩)
                go_roundw
                case rel => first | exact ⟨j + 1, by omega, by go_num, HB7.out⟩ | ((repeat apply Exists.intro); exact ⟨⟨by omega, by go_num, HB7.out⟩, rfl⟩) | ((repeat apply Exists.intro); exact ⟨⟨j + 1, by omega, by go_num, HB7.out⟩, rfl⟩)
                case measure => simp [intOf]; omega
              · have gwh : ¬ (p : Int) + n ≤ (L : Int) + q := by omega
                have gwh2 : (L : Int) + q < (p : Int) + n := by omega
                go_wp2_with fail
                obtain ⟨sm, hsm⟩ : ∃ x, sameT ⟨W, N, S⟩ ((bs ++ encs sel).take (L + q)) (p : Nat) = x := ⟨_, rfl⟩
                have HSM := Lib.hid hsm
                clear hsm
                go_region_held3 (fun w' => w'.cell? ⟨wr.heap.size, 0, none⟩ = some (.int .u8 W) ∧ w'.cell? ⟨wr.heap.size, 1, none⟩ = some (.int .u64 N) ∧ w'.cell? ⟨wr.heap.size, 2, none⟩ = some (.string S) ∧ w'.cell? ⟨b9, f9 + j, none⟩ = some (.int .i64 (p : Nat))) (first | exact ⟨g0, g1, g2, g3⟩ | (have hh := HFS.out _ (HB5.out.trans ((of_drew hb6).mono HB5.out.size)); exact ⟨hh.1, hh.2.1, hh.2.2.1, hh.2.2.2.1⟩)) (first
                  | (go_at_call 25; ((with_reducible refine (stands_is W N S ((bs ++ encs sel).take (L + q)) A7 (L + q) d7 p _ HTK.out (take_len _ _ (by have := HFULL.out; omega)).symm ((HO.out.append OB.out).take _) (rd_take GR5.out.drew _) gq CM7.out (by omega) (by omega) (by omega) false sm _ (RS2.out.2 (by omega)) HSM.out rfl).mono ?_)); rintro e w6 ⟨rfl, hb6⟩))
                obtain ⟨g0, g1, g2, g3, g4, gr⟩ := HFS.out w6 (HB5.out.trans ((of_drew hb6).mono HB5.out.size))
                have HB6 := Lib.hid (ch0 HBl.out (ch0 HBW.out (HB5.out.trans ((of_drew hb6).mono HB5.out.size))))
                have HB7 := Lib.hid (ch0 HBW.out (HB5.out.trans ((of_drew hb6).mono HB5.out.size)))
                clear gr hb6
                go_wp2_with (go_at_call 10; refine (awake_any _).mono ?_; rintro e w7 ⟨rfl, hb7⟩)
                go_ret
                exact ⟨rfl, ch0 HB6.out hb7⟩
          · go_wp2_with (go_at_call 10; refine (awake_any _).mono ?_; rintro e w7 ⟨rfl, hb7⟩)
            go_ret
            exact ⟨rfl, ch0 (ch0 HBl.out hbj) hb7⟩
theorem row_law {H : Type} {enc : TypeId × Value → H} {base base' : Nat} {dl db : DataW H} {pl pb : List MemPlace} (vl vb : Value) (cut : Int) (w : World) (hl : Value.okWide Try.prog w .any base 52 vl) (kl : DataW.Trod enc Try.prog w 0 (fun _ => true) true 52 vl dl pl)
    (hb : Value.okWide Try.prog w .any base' 22 vb) (kb : DataW.Trod enc Try.prog w 0 (fun _ => true) true 22 vb db pb) (hc : (Lit.int .u16 cut).wf = true) :
    Calls Try.prog 7 #[vl, vb, .int .u16 cut] w fun e w' => e = .returned (.bool true) ∧ Below w.heap.size w w' := by
  obtain ⟨ts, A, c, rfl, hok, hrt, hT2, hTm⟩ := open_things hl kl
  obtain ⟨bs, B, d, rfl, ho, hr, h2, hm⟩ := open_bytes hb kb
  exact row_any ts bs A B _ _ c d cut w rfl hok hrt hT2 hTm rfl ho hr h2 hm (wf_u16 hc).1 (wf_u16 hc).2
end Go.Proofs.Ytbmhfefbfocelaa
