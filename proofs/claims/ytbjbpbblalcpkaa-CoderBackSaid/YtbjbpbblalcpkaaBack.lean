/- CoderBack's walk: any bits, any chances, any bytes behind: true; nothing that was there is written. No condition. -/
import Derived.Test.YtbjbpbblalcpkaaBackPlain
import Derived.Test.YtbjbpbblalcpkaaPuts
import Derived.Test.YtbjbpbblalcpkaaBitOpen
import Derived.Test.YtbjbpbblalcpkaaGets
import Derived.Test.YtbjbpbblalcpkaaRefPut
import Derived.Test.YtbjbpbblalcpkaaNone
namespace Go.Proofs.Ytbjbpbblalcpkaa
open Go.RowKit Go.WideShapes
set_option linter.unusedVariables false
theorem step_appH {P : Program} {t e : TypeId} {z : Value} {bytes : Nat} {ops : Array Oper} {o : Oper} {a : Act} {w : World} {K : Act → World → Prop} {Q : Exit → Act → World → Prop} {E : Prop} (T : SlT P t e z bytes) (hgd : Region.wanted o (yielded ops a.tmps) = true) (s x : Operand)
    (ho : o.op = .call { callee := .builtin .append, args := #[s, x], argTypes := #[t, t] })
    (base : Nat) (v : Value) (n : Nat) (xs : List Value) (hs : a.eval s = v) (hown : w.ownsRow base e 1 v n xs)
    (A : Option Addr) (m c : Nat) (news : List Value) (hx : a.eval x = .slice A m c) (hm : m = news.length) (hr : Rd w A news) (h1 : ∀ u ∈ news, u.oneCell' = true)
    (hby : (n + m) * bytes ≤ 140737488355328) (h63 : n + m ≤ maxLen) (hbase : base ≤ w.heap.size)
    (h : ∀ v' w', w'.ownsRow base e 1 v' (n + m) (xs ++ news) → Below base w w' → K (a.put o.dst v') w') :
    if Region.wanted o (yielded ops a.tmps) = true then Oper.wp P o a w K Q else E := by
  subst hm
  obtain ⟨v', w', hrun, h2, h3, h4⟩ := run_app T w o.type base v n xs hown A c news hr h1 hby h63 hbase
  rw [if_pos hgd]
  unfold Oper.wp execOp
  simp only [ho, resolve, invoke, builtin, Sem.run_bind, Sem.run_pure, Result.andThen_ok, List.map_toArray, List.map_cons, List.map_nil, hs, hx, hrun]
  exact h v' w' h2 h4
/-- What CoderBack makes of a bit handed in. -/
def bl (t : Bt) : Int × Int := (bits .and .i64 t.b 1, 1 + (pickI t.p 65535 : Int))
theorem bl_good (ts : List Bt) : Good (ts.map bl) := fun u hu => by
  obtain ⟨t, _, rfl⟩ := List.mem_map.1 hu
  have := pickI_lt t.p 65535 (by omega)
  exact ⟨and_one t.b, by unfold bl; simp only; omega, by unfold bl; simp only; omega⟩
def bE (ts : List Bt) (k : Nat) : Int × Int × List Int := est est0 ((ts.map bl).take k)
theorem bE_zero (ts : List Bt) : bE ts 0 = est0 := by simp [bE, est]
theorem bE_succ (ts : List Bt) (k : Nat) (t : Bt) (h : ts[k]? = some t) : bE ts (k + 1) = estep (bE ts k) (bl t) := by
  unfold bE
  rw [List.take_add_one, List.getElem?_map, h]
  exact est_snoc _ _ _
theorem take_good (ts : List Bt) (k : Nat) : Good ((ts.map bl).take k) := fun u hu => bl_good ts u (List.mem_of_mem_take hu)
theorem bE_nrm (ts : List Bt) (k : Nat) : Nrm (bE ts k).1 (bE ts k).2.1 := est_nrm _ _ (take_good ts k) nrm0
theorem bE_oct (ts : List Bt) (k : Nat) : Oct (bE ts k).2.2 := est_oct _ _ (take_good ts k) nrm0 (by intro u hu; cases hu)
theorem bE_len (ts : List Bt) (k : Nat) : (bE ts k).2.2.length ≤ 4 * k := by
  have h := est_len ((ts.map bl).take k) est0 (take_good ts k) nrm0
  have : ((ts.map bl).take k).length ≤ k := List.length_take_le _ _
  have e : est0.2.2.length = 0 := rfl
  unfold bE
  omega
theorem bE_bit (ts : List Bt) (k j : Nat) (t : Bt) (hj : j < k) (ht : ts[j]? = some t) (S more : List Int) (ho : Oct S) (hS : S = (bE ts k).2.2 ++ four (bE ts k).1 ++ more) :
    bitOf (bE ts j).1 (bE ts j).2.1 (bl t).2 (zN S (4 + (bE ts j).2.2.length)) = (bl t).1 := by
  have hjl : j < ts.length := (List.getElem?_eq_some_iff.1 ht).1
  have e : (ts.map bl).take k = (ts.map bl).take j ++ bl t :: ((ts.map bl).take k).drop (j + 1) := by
    have h1 : ((ts.map bl).take k).take j = (ts.map bl).take j := by rw [List.take_take, Nat.min_eq_left (by omega)]
    have hjk : j < ((ts.map bl).take k).length := by rw [List.length_take, List.length_map]; omega
    have h2 : ((ts.map bl).take k)[j] = bl t := by
      rw [List.getElem_take, List.getElem_map]
      congr 1
      rw [List.getElem?_eq_getElem hjl] at ht
      exact Option.some.inj ht
    rw [← h1, ← h2, List.getElem_cons_drop, List.take_append_drop]
  have hg : Good ((ts.map bl).take j ++ bl t :: ((ts.map bl).take k).drop (j + 1)) := by rw [← e]; exact take_good ts k
  rw [Nat.add_comm 4]
  refine bit_back ho more _ (bl t) _ hg est0 nrm0 ?_
  rw [← e, hS, List.append_assoc]
  rfl
theorem decB_step (ts : List Bt) (j : Nat) (t : Bt) (ht : ts[j]? = some t) (S : List Int) : (step (bl t).1 (bl t).2 (bE ts j).1 (bE ts j).2.1).2.1 = (bE ts (j + 1)).1 ∧ (step (bl t).1 (bl t).2 (bE ts j).1 (bE ts j).2.1).2.2 = (bE ts (j + 1)).2.1 ∧
    4 + (bE ts j).2.2.length + (step (bl t).1 (bl t).2 (bE ts j).1 (bE ts j).2.1).1.length = 4 + (bE ts (j + 1)).2.2.length := by
  rw [bE_succ ts j t ht]
  refine ⟨rfl, rfl, ?_⟩
  show _ = 4 + ((bE ts j).2.2 ++ _).length
  rw [List.length_append]
  omega
structure BackRel (B ge : Nat) (ts : List Bt) (w0 : World) (k : Nat) (w : World) : Prop where
  ex : ∃ v, Enc B w ge (bE ts k).1 (bE ts k).2.1 (bE ts k).2.2 v
  low : Below w0.heap.size w0 w
structure BackRel2 (B gd : Nat) (ts : List Bt) (S : List Int) (v : Value) (w0 : World) (k : Nat) (w : World) : Prop where
  dec : Dec B w gd (bE ts k).1 (bE ts k).2.1 S (nexts S (4 + (bE ts k).2.2.length) (0, 0)) v
  low : Below w0.heap.size w0 w
/-- What is at hand of the j-th bit. -/
structure BitAt (ts : List Bt) (A : Option Addr) (w0 : World) (j : Nat) (t : Bt) (b o : Nat) : Prop where
  at' : ts[j]? = some t
  eq : A = some ⟨b, o, none⟩
  lt : b < w0.heap.size
  bit : w0.cell? ⟨b, o + j * 2, none⟩ = some (.int .i64 t.b)
  p : w0.cell? ⟨b, o + j * 2 + 1, none⟩ = some (.int .i64 t.p)
theorem bitAt_of {ts : List Bt} {A : Option Addr} {w0 : World} {j : Nat} (hr : Rd w0 A (flat ts)) (hj : j < ts.length) : ∃ t b o, BitAt ts A w0 j t b o := by
  obtain ⟨t, ht⟩ : ∃ t, ts[j]? = some t := ⟨_, List.getElem?_eq_getElem hj⟩
  obtain ⟨b0, o0, hA, hAl, hA0⟩ := hr.at (flat_at ts j 0 t ht (by omega))
  obtain ⟨b1, o1, hA', _, hA1⟩ := hr.at (flat_at ts j 1 t ht (by omega))
  subst hA
  injection hA' with hA'
  injection hA' with e1 e2
  subst e1 e2
  rw [Nat.add_zero] at hA0
  rw [← Nat.add_assoc] at hA1
  exact ⟨t, b0, o0, ht, rfl, hAl, hA0, hA1⟩
set_option maxRecDepth 100000 in
set_option maxHeartbeats 8000000 in
theorem back_any (ts : List Bt) (A : Option Addr) (n c : Nat) (ms : List Int) (P : Option Addr) (m d : Nat) (w : World) (hn : n = ts.length) (hr : Rd w A (flat ts)) (hnl : n ≤ 9223372036854775807)
    (hok : ∀ t ∈ ts, t.ok) (hm : m = ms.length) (hp : Rd w P (octs ms)) (hoc : Oct ms) (hml : m ≤ d) (hdl : d ≤ 9223372036854775807) :
    Calls Try.prog 4 #[.slice A n c, .slice P m d] w fun e w' => e = .returned (.bool true) ∧ Below w.heap.size w w' := by
  have HN := Lib.hid hn
  have HR := Lib.hid hr
  have HOK := Lib.hid hok
  have HM := Lib.hid hm
  have HP := Lib.hid hp
  have HOC := Lib.hid hoc
  obtain ⟨mm, hmm, hmd, hmin, hml5⟩ : ∃ mm : Nat, mm ≤ m ∧ mm ≤ d ∧ (if (1000 : Int) < (m : Int) then (1000 : Int) else (m : Int)) = (mm : Int) ∧ mm ≤ 1000 := by
    rcases Nat.lt_or_ge 1000 m with h | h
    · exact ⟨1000, by omega, by omega, by rw [if_pos (by omega)]; rfl, by omega⟩
    · exact ⟨m, by omega, by omega, by rw [if_neg (by omega)], by omega⟩
  have hmlen : mm = (octs (ms.take mm)).length := by rw [octs_length, List.length_take]; omega
  have HML := Lib.hid hmlen
  clear hn hr hok hm hp hoc hmlen
  go_enter Try.func4, Try.ntmps4
  go_wp2_with fail
  refine (newEnc_any w).mono ?_
  rintro e w1 ⟨⟨ge, rfl, ee⟩, hb1⟩
  have E1 : Hid (Enc w.heap.size w1 ge (bE ts 0).1 (bE ts 0).2.1 (bE ts 0).2.2 (.slice none 0 0)) := by rw [bE_zero]; exact ee
  have B1 := Lib.hid hb1
  clear ee hb1
  go_wp2_with fail
  go_loopw [6, 7] (fun q i wz => ∃ k : Nat, k ≤ n ∧ k ≤ 6000 ∧ q = .int .i64 k ∧ i = .int .i64 k ∧ BackRel w.heap.size ge ts w k wz) (fun _ i _ => n - (intOf i).toNat)
  case atStart => exact ⟨0, by omega, by omega, rfl, rfl, ⟨⟨_, E1.out⟩, B1.out⟩⟩
  case round =>
    obtain ⟨k, hkn, hk6, rfl, rfl, ⟨⟨v, hE⟩, hB⟩⟩ := hrel
    have HE := Lib.hid hE
    have HB := Lib.hid hB
    clear hE hB
    by_cases hlt : k < n ∧ k < 6000
    · obtain ⟨hln, hl6⟩ := hlt
      have gj : decide ((k : Int) < 6000) = true := by simp; omega
      obtain ⟨t, b0, o0, hat⟩ := bitAt_of (j := k) HR.out (by rw [← HN.out]; exact hln)
      obtain rfl := hat.eq
      have hx0 := (HB.out.cell (p := ⟨b0, o0 + k * 2, none⟩) hat.lt).trans hat.bit
      have hx1 := (HB.out.cell (p := ⟨b0, o0 + k * 2 + 1, none⟩) hat.lt).trans hat.p
      have htk := HOK.out t (List.mem_of_getElem? hat.at')
      have hpk := pick_any t.p 65535 65535 wr rfl (by omega) (by omega) htk.p0 htk.p1
      have hgd := bl_good ts (bl t) (List.mem_map.2 ⟨t, List.mem_of_getElem? hat.at', rfl⟩)
      have hput := put_ok w.heap.size ge (bl t).1 _ _ (bl t).2 _ v wr HE.out (bE_nrm ts k) (by have := bE_len ts k; omega) HB.out.size hgd.1 hgd.2.1 hgd.2.2
      have hnx := bE_succ ts k t hat.at'
      have hs1 : (step (bl t).1 (bl t).2 (bE ts k).1 (bE ts k).2.1).2.1 = (bE ts (k + 1)).1 := by rw [hnx]; rfl
      have hs2 : (step (bl t).1 (bl t).2 (bE ts k).1 (bE ts k).2.1).2.2 = (bE ts (k + 1)).2.1 := by rw [hnx]; rfl
      have hs3 : (bE ts k).2.2 ++ (step (bl t).1 (bl t).2 (bE ts k).1 (bE ts k).2.1).1 = (bE ts (k + 1)).2.2 := by rw [hnx]; rfl
      rw [hs1, hs2, hs3] at hput
      have hpl := pickI_lt t.p 65535 (by omega)
      rw [show (bl t).1 = bits .and .i64 t.b 1 from rfl, show (bl t).2 = 1 + (pickI t.p 65535 : Int) from rfl] at hput
      obtain ⟨tb, tp⟩ := t
      simp only at hput hpk hpl hx0 hx1
      obtain ⟨pk, hpe⟩ : ∃ x, pickI tp 65535 = x := ⟨_, rfl⟩
      rw [hpe] at hput hpk hpl
      obtain ⟨bb, hbe⟩ : ∃ x, bits .and .i64 tb 1 = x := ⟨_, rfl⟩
      rw [hbe] at hput
      have HPUT := Lib.hid hput
      have HPK := Lib.hid hpk
      clear hpk hput hs1 hs2 hs3 hnx hgd htk hat hpe
      go_wp2_with fail
      refine HPK.out.mono ?_
      rintro e w2 ⟨rfl, rfl⟩
      go_wp2_with fail
      refine HPUT.out.mono ?_
      rintro e w2 ⟨rfl, ⟨v2, he2, _⟩, hf2⟩
      have E2 := Lib.hid he2
      have B2 := Lib.hid (HB.out.trans (hf2.to_below HB.out.size fun q hq => HE.out.low q hq))
      clear he2 hf2
      go_wp2
      go_roundw
      case rel => exact ⟨k + 1, by omega, by omega, by go_num, by go_num, ⟨⟨v2, E2.out⟩, B2.out⟩⟩
      case measure => simp [intOf]; omega
    · have hnx := bE_nrm ts k
      have hoc := bE_oct ts k
      have hlen := bE_len ts k
      have hend := end_any w.heap.size ge _ _ _ v wr.drew HE.out.drew' hnx.toIvl (by omega)
      have hso := (hoc.append (four_oct hnx.x0 (by have := hnx.xy; have := hnx.y1; omega))).append (HOC.out.take mm)
      obtain ⟨S0, hS0⟩ : ∃ S, (bE ts k).2.2 ++ four (bE ts k).1 = S := ⟨_, rfl⟩
      have hsl : S0.length ≤ 24004 := by rw [← hS0, List.length_append]; show _ + 4 ≤ _; omega
      have hbit := fun j t h1 h2 => bE_bit ts k j t h1 h2 (S0 ++ ms.take mm) (ms.take mm) (by rw [← hS0]; exact hso) (by rw [hS0])
      rw [hS0] at hend hso
      obtain ⟨S, hS⟩ : ∃ S, S0 ++ ms.take mm = S := ⟨_, rfl⟩
      rw [hS] at hso hbit
      have HS := Lib.hid hS
      have HEND := Lib.hid hend
      have HSO := Lib.hid hso
      have HBIT := Lib.hid hbit
      have HSL : Hid (S.length ≤ 30000 ∧ S0.length + mm = S.length) := by
        have e : S.length = S0.length + (ms.take mm).length := by rw [← hS, List.length_append]
        have e2 : (ms.take mm).length = mm := by rw [List.length_take]; have := HM.out; omega
        exact ⟨by omega, by omega⟩
      clear hnx hoc hlen hend hso hbit hS hS0
      rcases Nat.lt_or_ge k n with hlm | hlm
      · have gj : decide ((k : Int) < 6000) = false := by simp; omega
        have hkn : k ≤ n := by omega
        clear hlt
        go_wp2_with fail
        refine wp_region_held_drew (S := fun _ => True) (by kernel_rfl) trivial (fun hHeld => ?_)
        refine wpAnyH_takeD (i := 0) (d := 44) (oi := _) (v := ?_) rfl rfl (by kernel_rfl) (by kernel_rfl) (by kernel_rfl) (fun _ _ _ h => h) (Or.inl ⟨by rfl, ?_⟩) (by assumption) ?_
        rotate_left
        · (intro w hSw; (try dsimp only at hSw); go_simp) <;> with_reducible rfl
        simp only [Act.put, List.setIfInBounds_toArray, List.set_cons_zero, List.set_cons_succ]
        refine wpAnyH_takeD (i := 2) (d := 46) (oi := _) (v := ?_) rfl rfl (by kernel_rfl) (by kernel_rfl) (by kernel_rfl) (fun _ _ _ h => h) (Or.inl ⟨by rfl, ?_⟩) (by assumption) ?_
        rotate_left
        · (intro w hSw; (try dsimp only at hSw); go_simp) <;> with_reducible rfl
        simp only [Act.put, List.setIfInBounds_toArray, List.set_cons_zero, List.set_cons_succ]
        refine wpAnyH_takeD (i := 3) (d := 47) (oi := _) (v := ?_) rfl rfl (by kernel_rfl) (by kernel_rfl) (by kernel_rfl) (fun _ _ _ h => h) (Or.inl ⟨by rfl, ?_⟩) (by assumption) ?_
        rotate_left
        · (intro w hSw; (try dsimp only at hSw); go_simp) <;> with_reducible rfl
        simp only [Act.put, List.setIfInBounds_toArray, List.set_cons_zero, List.set_cons_succ]
        refine wpAnyH_takeD (i := 4) (d := 48) (oi := _) (v := ?_) rfl rfl (by kernel_rfl) (by kernel_rfl) (by kernel_rfl) (fun _ _ _ h => h) (Or.inl ⟨by rfl, ?_⟩) (by assumption) ?_
        rotate_left
        · (intro w hSw; (try dsimp only at hSw); go_simp) <;> with_reducible rfl
        simp only [Act.put, List.setIfInBounds_toArray, List.set_cons_zero, List.set_cons_succ]
        refine wpAnyH_takeD (i := 5) (d := 49) (oi := _) (v := ?_) rfl rfl (by kernel_rfl) (by kernel_rfl) (by kernel_rfl) (fun _ _ _ h => h) (Or.inl ⟨by rfl, ?_⟩) (by assumption) ?_
        rotate_left
        · (intro w hSw; (try dsimp only at hSw); go_simp) <;> with_reducible rfl
        simp only [Act.put, List.setIfInBounds_toArray, List.set_cons_zero, List.set_cons_succ]
        refine wpAnyH_takeD (i := 6) (d := 50) (oi := _) (v := ?_) rfl rfl (by kernel_rfl) (by kernel_rfl) (by kernel_rfl) (fun _ _ _ h => h) (Or.inl ⟨by rfl, ?_⟩) (by assumption) ?_
        rotate_left
        · (intro w hSw; (try dsimp only at hSw); go_simp) <;> with_reducible rfl
        simp only [Act.put, List.setIfInBounds_toArray, List.set_cons_zero, List.set_cons_succ]
        refine wpAnyH_ready (rs := [1]) (by kernel_rfl) (by simp) ?_
        refine AllReadyH.cons (o := _) rfl (fun K hK => ?_) AllReadyH.nil
        go_simp
        refine HEND.out.mono ?_
        rintro e w2 ⟨⟨A2, c2, rfl, hc2, o2⟩, hb2⟩
        have O2 := Lib.hid o2
        have B2 := Lib.hid (ch0 HB.out (of_drew hb2))
        have hz2 : wr.heap.size ≤ w2.heap.size := hb2.size
        clear o2 hb2
        go_wp2_with fail
        refine hK.out _ _ trivial (fun hHeld => ?_)
        clear hK K
        try simp only [Act.put, List.setIfInBounds_toArray, List.set_cons_zero, List.set_cons_succ]
        refine wpAnyH_ready (rs := [7]) (by kernel_rfl) (by simp) ?_
        refine AllReadyH.cons (o := _) rfl (fun K hK => ?_) AllReadyH.nil
        refine step_appH (t := 30) (e := 5) (z := .int .u8 0) (bytes := 1) tBytes rfl (.tmp 45) (.tmp 50) rfl wr.drew.heap.size (.slice A2 S0.length c2) S0.length (octs S0) rfl O2.out P mm d (octs (ms.take mm)) rfl HML.out (by have := (HP.out.below B2.out rfl).take mm; rwa [show (octs ms).take mm = octs (ms.take mm) by simp [octs]] at this) (octs_one _) (by omega) (by unfold maxLen; omega) hz2 ?_
        intro v3 w3 o3 hb3
        have o3' : w3.ownsRow wr.heap.size 5 1 v3 S.length (octs S) := by
          have e1 : octs S0 ++ octs (ms.take mm) = octs S := by rw [← HS.out]; simp [octs]
          rw [e1, HSL.out.2] at o3
          exact o3
        obtain ⟨A3, c3, rfl, hc3⟩ := own_slice o3'
        have O3 := Lib.hid o3'
        have B3 := Lib.hid (B2.out.trans (hb3.mono HB.out.size))
        clear o3 o3' hb3
        refine hK.out _ _ trivial (fun hHeld => ?_)
        clear hK K
        try simp only [Act.put]
        refine wpAnyH_ready (rs := [8]) (by kernel_rfl) (by simp) ?_
        refine AllReadyH.cons (o := _) rfl (fun K hK => ?_) AllReadyH.nil
        go_simp
        refine (newDec_any S A3 S.length c3 w3 rfl HSO.out (rd_own O3.out) (own_none O3.out) (by have := HSL.out.1; omega)).mono ?_
        rintro e w4 ⟨⟨gd, vD, rfl, dD, gd1⟩, hb4⟩
        have D4 := Lib.hid dD
        have B4 := Lib.hid (ch0 B3.out hb4)
        have hz4 := Nat.le_trans B3.out.size hb4.size
        clear dD hb4
        go_wp2_with fail
        refine hK.out _ _ trivial (fun hHeld => ?_)
        clear hK K
        try simp only [Act.put, List.setIfInBounds_toArray, List.set_cons_zero, List.set_cons_succ]
        refine wpAnyH_takeD (i := 9) (d := 9) (oi := _) (v := ?_) rfl rfl (by kernel_rfl) (by kernel_rfl) (by kernel_rfl) (fun _ _ _ h => h) (Or.inl ⟨by rfl, ?_⟩) (by assumption) ?_
        rotate_left
        · (intro w hSw; (try dsimp only at hSw); go_simp) <;> with_reducible rfl
        simp only [Act.put, List.setIfInBounds_toArray, List.set_cons_zero, List.set_cons_succ]
        refine wpAnyH_done (by kernel_rfl) ?_ _
        go_wp2_with fail
        go_loopw [10] (fun i wz => ∃ j : Nat, j ≤ k ∧ i = .int .i64 j ∧ BackRel2 w3.heap.size gd ts S vD w j wz) (fun i _ => k - (intOf i).toNat)
        case atStart => exact ⟨0, by omega, rfl, ⟨by rw [bE_zero]; exact D4.out, B4.out⟩⟩
        case round =>
          obtain ⟨j, hjk, rfl, ⟨hD, hB⟩⟩ := hrel
          have HD := Lib.hid hD
          have HBJ := Lib.hid hB
          clear hD hB
          by_cases hltj : j < k
          · obtain ⟨t, b0, o0, hat⟩ := bitAt_of (j := j) HR.out (by rw [← HN.out]; omega)
            obtain rfl := hat.eq
            have hx1 := (HBJ.out.cell (p := ⟨b0, o0 + j * 2 + 1, none⟩) hat.lt).trans hat.p
            have htk := HOK.out t (List.mem_of_getElem? hat.at')
            have hpk := pick_any t.p 65535 65535 wr (by rfl) (by omega) (by omega) htk.p0 htk.p1
            have hgo := bl_good ts (bl t) (List.mem_map.2 ⟨t, List.mem_of_getElem? hat.at', rfl⟩)
            have hbt := HBIT.out j t hltj hat.at'
            have hst := decB_step ts j t hat.at' S
            have hgd := get_ok w3.heap.size gd (bE ts j).1 (bE ts j).2.1 (bl t).2 S (nexts S (4 + (bE ts j).2.2.length) (0, 0)) vD wr HD.out (bE_nrm ts j) (by have := HSL.out.1; omega) hgo.2.1 hgo.2.2
            rw [show (nexts S (4 + (bE ts j).2.2.length) (0, 0)).2 = zN S (4 + (bE ts j).2.2.length) from rfl, hbt, hst.1, hst.2.1, nexts_add, hst.2.2] at hgd
            rw [show (bl t).1 = bits .and .i64 t.b 1 from rfl, show (bl t).2 = 1 + (pickI t.p 65535 : Int) from rfl] at hgd
            have hpl := pickI_lt t.p 65535 (by omega)
            have HBB := Lib.hid hat.bit
            have hbl : b0 < w.heap.size := hat.lt
            obtain ⟨tb, tp⟩ := t
            simp only at hgd hpk hpl hx1
            obtain ⟨pk, hpe⟩ : ∃ x, pickI tp 65535 = x := ⟨_, rfl⟩
            rw [hpe] at hgd hpk hpl
            obtain ⟨bb, hbe⟩ : ∃ x, bits .and .i64 tb 1 = x := ⟨_, rfl⟩
            rw [hbe] at hgd
            have HGD := Lib.hid hgd
            have HPK := Lib.hid hpk
            clear hpk hgd hst hbt hgo htk hat hpe
            go_wp2_with fail
            refine HPK.out.mono ?_
            rintro e w5 ⟨rfl, rfl⟩
            go_wp2_with fail
            refine HGD.out.mono ?_
            rintro e w5 ⟨rfl, hd5, hf5⟩
            have D5 := Lib.hid hd5
            have B5 := Lib.hid (HBJ.out.trans (hf5.to_below HBJ.out.size fun q e => by have := HD.out.ge; have := B3.out.size; omega))
            have hx0 := (B5.out.cell (p := ⟨b0, o0 + j * 2, none⟩) hbl).trans HBB.out
            clear hd5 hf5
            go_wp2
            go_roundw
            case rel => exact ⟨j + 1, by omega, by go_num, ⟨D5.out, B5.out⟩⟩
            case measure => simp [intOf]; omega
          · have hjk2 : j = k := by omega
            subst hjk2
            go_wp2_with (go_at_call 16; refine (awake_any _).mono ?_; rintro e w11 ⟨rfl, hb11⟩)
            go_ret
            exact ⟨rfl, ch0 HBJ.out hb11⟩
      · have hjn2 : k = n := by omega
        subst hjn2
        clear hlt
        go_wp2_with fail
        refine wp_region_held_drew (S := fun _ => True) (by kernel_rfl) trivial (fun hHeld => ?_)
        refine wpAnyH_takeD (i := 0) (d := 44) (oi := _) (v := ?_) rfl rfl (by kernel_rfl) (by kernel_rfl) (by kernel_rfl) (fun _ _ _ h => h) (Or.inl ⟨by rfl, ?_⟩) (by assumption) ?_
        rotate_left
        · (intro w hSw; (try dsimp only at hSw); go_simp) <;> with_reducible rfl
        simp only [Act.put, List.setIfInBounds_toArray, List.set_cons_zero, List.set_cons_succ]
        refine wpAnyH_takeD (i := 2) (d := 46) (oi := _) (v := ?_) rfl rfl (by kernel_rfl) (by kernel_rfl) (by kernel_rfl) (fun _ _ _ h => h) (Or.inl ⟨by rfl, ?_⟩) (by assumption) ?_
        rotate_left
        · (intro w hSw; (try dsimp only at hSw); go_simp) <;> with_reducible rfl
        simp only [Act.put, List.setIfInBounds_toArray, List.set_cons_zero, List.set_cons_succ]
        refine wpAnyH_takeD (i := 3) (d := 47) (oi := _) (v := ?_) rfl rfl (by kernel_rfl) (by kernel_rfl) (by kernel_rfl) (fun _ _ _ h => h) (Or.inl ⟨by rfl, ?_⟩) (by assumption) ?_
        rotate_left
        · (intro w hSw; (try dsimp only at hSw); go_simp) <;> with_reducible rfl
        simp only [Act.put, List.setIfInBounds_toArray, List.set_cons_zero, List.set_cons_succ]
        refine wpAnyH_takeD (i := 4) (d := 48) (oi := _) (v := ?_) rfl rfl (by kernel_rfl) (by kernel_rfl) (by kernel_rfl) (fun _ _ _ h => h) (Or.inl ⟨by rfl, ?_⟩) (by assumption) ?_
        rotate_left
        · (intro w hSw; (try dsimp only at hSw); go_simp) <;> with_reducible rfl
        simp only [Act.put, List.setIfInBounds_toArray, List.set_cons_zero, List.set_cons_succ]
        refine wpAnyH_takeD (i := 5) (d := 49) (oi := _) (v := ?_) rfl rfl (by kernel_rfl) (by kernel_rfl) (by kernel_rfl) (fun _ _ _ h => h) (Or.inl ⟨by rfl, ?_⟩) (by assumption) ?_
        rotate_left
        · (intro w hSw; (try dsimp only at hSw); go_simp) <;> with_reducible rfl
        simp only [Act.put, List.setIfInBounds_toArray, List.set_cons_zero, List.set_cons_succ]
        refine wpAnyH_takeD (i := 6) (d := 50) (oi := _) (v := ?_) rfl rfl (by kernel_rfl) (by kernel_rfl) (by kernel_rfl) (fun _ _ _ h => h) (Or.inl ⟨by rfl, ?_⟩) (by assumption) ?_
        rotate_left
        · (intro w hSw; (try dsimp only at hSw); go_simp) <;> with_reducible rfl
        simp only [Act.put, List.setIfInBounds_toArray, List.set_cons_zero, List.set_cons_succ]
        refine wpAnyH_ready (rs := [1]) (by kernel_rfl) (by simp) ?_
        refine AllReadyH.cons (o := _) rfl (fun K hK => ?_) AllReadyH.nil
        go_simp
        refine HEND.out.mono ?_
        rintro e w2 ⟨⟨A2, c2, rfl, hc2, o2⟩, hb2⟩
        have O2 := Lib.hid o2
        have B2 := Lib.hid (ch0 HB.out (of_drew hb2))
        have hz2 : wr.heap.size ≤ w2.heap.size := hb2.size
        clear o2 hb2
        go_wp2_with fail
        refine hK.out _ _ trivial (fun hHeld => ?_)
        clear hK K
        try simp only [Act.put, List.setIfInBounds_toArray, List.set_cons_zero, List.set_cons_succ]
        refine wpAnyH_ready (rs := [7]) (by kernel_rfl) (by simp) ?_
        refine AllReadyH.cons (o := _) rfl (fun K hK => ?_) AllReadyH.nil
        refine step_appH (t := 30) (e := 5) (z := .int .u8 0) (bytes := 1) tBytes rfl (.tmp 45) (.tmp 50) rfl wr.drew.heap.size (.slice A2 S0.length c2) S0.length (octs S0) rfl O2.out P mm d (octs (ms.take mm)) rfl HML.out (by have := (HP.out.below B2.out rfl).take mm; rwa [show (octs ms).take mm = octs (ms.take mm) by simp [octs]] at this) (octs_one _) (by omega) (by unfold maxLen; omega) hz2 ?_
        intro v3 w3 o3 hb3
        have o3' : w3.ownsRow wr.heap.size 5 1 v3 S.length (octs S) := by
          have e1 : octs S0 ++ octs (ms.take mm) = octs S := by rw [← HS.out]; simp [octs]
          rw [e1, HSL.out.2] at o3
          exact o3
        obtain ⟨A3, c3, rfl, hc3⟩ := own_slice o3'
        have O3 := Lib.hid o3'
        have B3 := Lib.hid (B2.out.trans (hb3.mono HB.out.size))
        clear o3 o3' hb3
        refine hK.out _ _ trivial (fun hHeld => ?_)
        clear hK K
        try simp only [Act.put]
        refine wpAnyH_ready (rs := [8]) (by kernel_rfl) (by simp) ?_
        refine AllReadyH.cons (o := _) rfl (fun K hK => ?_) AllReadyH.nil
        go_simp
        refine (newDec_any S A3 S.length c3 w3 rfl HSO.out (rd_own O3.out) (own_none O3.out) (by have := HSL.out.1; omega)).mono ?_
        rintro e w4 ⟨⟨gd, vD, rfl, dD, gd1⟩, hb4⟩
        have D4 := Lib.hid dD
        have B4 := Lib.hid (ch0 B3.out hb4)
        have hz4 := Nat.le_trans B3.out.size hb4.size
        clear dD hb4
        go_wp2_with fail
        refine hK.out _ _ trivial (fun hHeld => ?_)
        clear hK K
        try simp only [Act.put, List.setIfInBounds_toArray, List.set_cons_zero, List.set_cons_succ]
        refine wpAnyH_takeD (i := 9) (d := 9) (oi := _) (v := ?_) rfl rfl (by kernel_rfl) (by kernel_rfl) (by kernel_rfl) (fun _ _ _ h => h) (Or.inl ⟨by rfl, ?_⟩) (by assumption) ?_
        rotate_left
        · (intro w hSw; (try dsimp only at hSw); go_simp) <;> with_reducible rfl
        simp only [Act.put, List.setIfInBounds_toArray, List.set_cons_zero, List.set_cons_succ]
        refine wpAnyH_done (by kernel_rfl) ?_ _
        go_wp2_with fail
        go_loopw [10] (fun i wz => ∃ j : Nat, j ≤ k ∧ i = .int .i64 j ∧ BackRel2 w3.heap.size gd ts S vD w j wz) (fun i _ => k - (intOf i).toNat)
        case atStart => exact ⟨0, by omega, rfl, ⟨by rw [bE_zero]; exact D4.out, B4.out⟩⟩
        case round =>
          obtain ⟨j, hjk, rfl, ⟨hD, hB⟩⟩ := hrel
          have HD := Lib.hid hD
          have HBJ := Lib.hid hB
          clear hD hB
          by_cases hltj : j < k
          · obtain ⟨t, b0, o0, hat⟩ := bitAt_of (j := j) HR.out (by rw [← HN.out]; omega)
            obtain rfl := hat.eq
            have hx1 := (HBJ.out.cell (p := ⟨b0, o0 + j * 2 + 1, none⟩) hat.lt).trans hat.p
            have htk := HOK.out t (List.mem_of_getElem? hat.at')
            have hpk := pick_any t.p 65535 65535 wr (by rfl) (by omega) (by omega) htk.p0 htk.p1
            have hgo := bl_good ts (bl t) (List.mem_map.2 ⟨t, List.mem_of_getElem? hat.at', rfl⟩)
            have hbt := HBIT.out j t hltj hat.at'
            have hst := decB_step ts j t hat.at' S
            have hgd := get_ok w3.heap.size gd (bE ts j).1 (bE ts j).2.1 (bl t).2 S (nexts S (4 + (bE ts j).2.2.length) (0, 0)) vD wr HD.out (bE_nrm ts j) (by have := HSL.out.1; omega) hgo.2.1 hgo.2.2
            rw [show (nexts S (4 + (bE ts j).2.2.length) (0, 0)).2 = zN S (4 + (bE ts j).2.2.length) from rfl, hbt, hst.1, hst.2.1, nexts_add, hst.2.2] at hgd
            rw [show (bl t).1 = bits .and .i64 t.b 1 from rfl, show (bl t).2 = 1 + (pickI t.p 65535 : Int) from rfl] at hgd
            have hpl := pickI_lt t.p 65535 (by omega)
            have HBB := Lib.hid hat.bit
            have hbl : b0 < w.heap.size := hat.lt
            obtain ⟨tb, tp⟩ := t
            simp only at hgd hpk hpl hx1
            obtain ⟨pk, hpe⟩ : ∃ x, pickI tp 65535 = x := ⟨_, rfl⟩
            rw [hpe] at hgd hpk hpl
            obtain ⟨bb, hbe⟩ : ∃ x, bits .and .i64 tb 1 = x := ⟨_, rfl⟩
            rw [hbe] at hgd
            have HGD := Lib.hid hgd
            have HPK := Lib.hid hpk
            clear hpk hgd hst hbt hgo htk hat hpe
            go_wp2_with fail
            refine HPK.out.mono ?_
            rintro e w5 ⟨rfl, rfl⟩
            go_wp2_with fail
            refine HGD.out.mono ?_
            rintro e w5 ⟨rfl, hd5, hf5⟩
            have D5 := Lib.hid hd5
            have B5 := Lib.hid (HBJ.out.trans (hf5.to_below HBJ.out.size fun q e => by have := HD.out.ge; have := B3.out.size; omega))
            have hx0 := (B5.out.cell (p := ⟨b0, o0 + j * 2, none⟩) hbl).trans HBB.out
            clear hd5 hf5
            go_wp2
            go_roundw
            case rel => exact ⟨j + 1, by omega, by go_num, ⟨D5.out, B5.out⟩⟩
            case measure => simp [intOf]; omega
          · have hjk2 : j = k := by omega
            subst hjk2
            go_wp2_with (go_at_call 16; refine (awake_any _).mono ?_; rintro e w11 ⟨rfl, hb11⟩)
            go_ret
            exact ⟨rfl, ch0 HBJ.out hb11⟩
theorem back_law {H : Type} {enc : TypeId × Value → H} {base base' : Nat} {db dp : DataW H} {pb pp : List MemPlace} (vb vp : Value) (w : World) (hb : Value.okWide Try.prog w .any base 22 vb) (kb : DataW.Trod enc Try.prog w 0 (fun _ => true) true 22 vb db pb)
    (hv : Value.okWide Try.prog w .any base' 30 vp) (kp : DataW.Trod enc Try.prog w 0 (fun _ => true) true 30 vp dp pp) :
    Calls Try.prog 4 #[vb, vp] w fun e w' => e = .returned (.bool true) ∧ Below w.heap.size w w' := by
  obtain ⟨ts, A, c, rfl, hok, hr, hc, hm⟩ := open_bits hb kb
  obtain ⟨ms, P, d, rfl, ho, hp, hd, hdm⟩ := open_bytes hv kp
  exact back_any ts A _ c ms P _ d w rfl hr (by unfold maxLen at *; omega) hok rfl hp ho hd (by unfold maxLen at *; omega)
end Go.Proofs.Ytbjbpbblalcpkaa
