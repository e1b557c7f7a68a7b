/- The reference's Of: the same twenty bytes. -/
import Derived.Test.YtgkgdbjdmmieaaaShPa
import Derived.ArgAppend
import Derived.Test.YtgkgdbjdmmieaaaHeld
namespace Go.Proofs.Ytgkgdbjdmmieaaa
open Go.RowKit Go.WideShapes
set_option linter.unusedVariables false
set_option linter.unusedSimpArgs false
/-- 'append(own, x)' as one step of a drawing region; what stood in the row still reads the same. -/
theorem step_app1k {P : Program} {t e : TypeId} {z : Value} {bytes : Nat} {ops : Array Oper} {o : Oper} {a : Act} {w : World} {K : Act → World → Prop} {Q : Exit → Act → World → Prop} {E : Prop} (T : SlT P t e z bytes) (hgd : Region.wanted o (yielded ops a.tmps) = true) (s x : Operand)
    (ho : o.op = .call { callee := .builtin .append, args := #[s, x], argTypes := #[t, t] })
    (base g n cap : Nat) (xs : List Value) (hs : a.eval s = .slice (some ⟨g, 0, none⟩) n cap) (hown : w.ownsRow base e 1 (.slice (some ⟨g, 0, none⟩) n cap) n xs) (u : Value) (h1 : u.oneCell' = true)
    (g0 : Nat) (hx : a.eval x = .slice (some ⟨g0, 0, none⟩) 1 1) (hc : w.cell? ⟨g0, 0, none⟩ = some u)
    (hby : (n + 1) * bytes ≤ 140737488355328) (h63 : n + 1 ≤ maxLen) (hbase : base ≤ w.heap.size)
    (h : ∀ v' w', w'.ownsRow base e 1 v' (n + 1) (xs ++ [u]) → Below base w w' → (∀ j y, xs[j]? = some y → w'.cell? ⟨g, j, none⟩ = some y) → K (a.put o.dst v') w') :
    if Region.wanted o (yielded ops a.tmps) = true then Oper.wp P o a w K Q else E := by
  obtain ⟨i, hi, hz, hsz, hb⟩ := info_parts T.i
  rw [if_pos hgd]
  have hnews : ∀ j y, [u][j]? = some y → w.cell? ((⟨g0, 0, none⟩ : Addr).add j) = some y := fun j y hy => by
    rcases j with _ | j
    · simp at hy; subst hy; rw [addr_add]; exact hc
    · simp at hy
  have hcells : ∀ j y, xs[j]? = some y → w.cell? ⟨g, j, none⟩ = some y := fun j y hy => by
    have := hown.cells (g := g) rfl j y hy
    rwa [addr_add, Nat.zero_add] at this
  have hbg : base ≤ g := own_ge hown g rfl
  have key : ∃ v' w', (Builtin.append_ #[t, t] o.type #[.slice (some ⟨g, 0, none⟩) n cap, .slice (some ⟨g0, 0, none⟩) 1 1]).run P w = .ok v' w' ∧ w'.ownsRow base e 1 v' (n + 1) (xs ++ [u]) ∧ Below base w w' ∧ (∀ j y, xs[j]? = some y → w'.cell? ⟨g, j, none⟩ = some y) := by
    by_cases hr : n + 1 ≤ cap
    · obtain ⟨w', hrun, h2, h3⟩ := run_append_fits (P := P) w base t o.type e i 1 T.u hi hsz g n cap xs hown ⟨g0, 0, none⟩ 1 1 [u] rfl hnews (by simpa using h1) hr
      refine ⟨_, w', hrun, h2, (Below.refl _ _).grown h3 hbase (by simpa using hbg), fun j y hy => ?_⟩
      have hj : j < xs.length := (List.getElem?_eq_some_iff.1 hy).1
      have := h2.cells (g := g) rfl j y (by rw [List.getElem?_append_left hj]; exact hy)
      rwa [addr_add, Nat.zero_add] at this
    · obtain ⟨v', w', hrun, h2, h3⟩ := run_append_arg_grows (P := P) w t o.type e i z 1 bytes T.u hi hz hsz hb T.z (by omega) ⟨g, 0, none⟩ n cap xs hown.1 (fun j y hy => by rw [addr_add, Nat.zero_add]; exact hcells j y hy) ⟨g0, 0, none⟩ 1 1 [u] rfl hnews (by omega) h63 hby
      refine ⟨v', w', hrun, ?_, (Below.refl _ _).grown h3 hbase (by simp), fun j y hy => ?_⟩
      · refine ⟨h2.1, ?_⟩
        rcases h2.2 with h0 | ⟨gg, cp, cur, hv, hb2, hr2⟩
        · exact .inl h0
        · exact .inr ⟨gg, cp, cur, hv, by omega, hr2⟩
      · have hc := hcells j y hy
        have hlt := World.block_lt_of_cell? w _ hc
        rw [World.cell?_of_block (h3.block g hlt (by simp))]
        exact hc
  obtain ⟨v', w', hrun, h2, h3, h4⟩ := key
  unfold Oper.wp execOp
  simp only [ho, resolve, invoke, builtin, Sem.run_bind, Sem.run_pure, Result.andThen_ok, List.map_toArray, List.map_cons, List.map_nil, hs, hx, hrun]
  exact h v' w' h2 h3 h4
theorem quiet_same {P : Program} {f : FuncId} {args : Array Value} {w : World} {n : Nat} {v : Value} (h : Calls P f args (w.drewN n) fun e w'' => e = .returned v ∧ w.drewN n = w'') : Calls P f args (w.drewN n) fun e w'' => e = .returned v ∧ ∃ m, w'' = w.drewN m :=
  h.mono fun _ _ ⟨he, hm⟩ => ⟨he, n, hm.symm⟩
theorem quiet_same2 {P : Program} {f : FuncId} {args : Array Value} {w : World} {n x : Nat} {v : Value} (h : Calls P f args (w.drewN (n + x)) fun e w'' => e = .returned v ∧ w.drewN (n + x) = w'') : Calls P f args (w.drewN (n + x)) fun e w'' => e = .returned v ∧ ∃ m, w'' = w.drewN (n + m) :=
  h.mono fun _ _ ⟨he, hm⟩ => ⟨he, x, hm.symm⟩
theorem drewN_two (w : World) : ∀ (a b : Nat), ∃ n, (w.drewN a).drewN b = w.drewN n := fun a b => ⟨a + b, by simp [World.drewN, Nat.add_assoc]⟩
theorem tWords : SlT Try.prog 50 30 (.int .u32 0) 4 := ⟨Try.underlying50, by kernel_rfl, rfl⟩
def wds (l : List Int) : List Value := l.map (Value.int .u32)
theorem wds_length (l : List Int) : (wds l).length = l.length := by simp [wds]
theorem wds_snoc (l : List Int) (x : Int) : wds l ++ [.int .u32 x] = wds (l ++ [x]) := by simp [wds]
theorem wds_at {l : List Int} {i : Nat} (h : i < l.length) : (wds l)[i]? = some (.int .u32 (l.getD i 0)) := by
  simp [wds, List.getElem?_eq_getElem h, List.getD_eq_getElem?_getD]
theorem getD_cut (P : List Int) (a i : Nat) (h : i < 64) : ((P.drop a).take 64).getD i 0 = P.getD (a + i) 0 := by
  rw [List.getD_eq_getElem?_getD, List.getD_eq_getElem?_getD, List.getElem?_take, if_pos h, List.getElem?_drop]
theorem h0lit (W : World) (g0 : Nat) (hg : g0 = W.heap.size) : Blk (W.alloc (.cells #[.int .u32 1732584193, .int .u32 4023233417, .int .u32 2562383102, .int .u32 271733878, .int .u32 3285377520] 30)) g0 30 h0I.vals := by subst hg; exact Blk.new _ _ _
structure RRel (P : List Int) (w0 : World) (vh va : Value) (w : World) : Prop where
  ex : ∃ (j gh : Nat), va = .int .i64 ((64 * j : Nat) : Int) ∧ 64 * j ≤ P.length ∧ vh = .slice (some ⟨gh, 0, none⟩) 5 5 ∧ Blk w gh 30 (runs j h0I P).vals
  low : Below w0.heap.size w0 w
set_option maxHeartbeats 8000000 in
set_option maxRecDepth 100000 in
theorem ofRef_any (xs : List Int) (A : Option Addr) (m c : Nat) (w : World) (hm : m = xs.length) (ho : Oct xs) (hr : Rd w A (octs xs)) (hlen : m ≤ 100000) :
    Calls Try.prog 10 #[.slice A m c] w (Quiet (.agg (octs (shaI xs)).toArray) w) := by
  have k0 := Blk.new w 23 zero20
  have hr1 := hr.alloc (.cells zero20 23)
  have hb1 := (Below.refl w.heap.size w).alloc (Nat.le_refl _) (.cells zero20 23)
  have s1 : (w.alloc (.cells zero20 23)).heap.size = w.heap.size + 1 := by simp
  have hpad := fun (W : World) (hrW : Rd W A (octs xs)) => padded_any xs A m c W hm hrW hlen
  obtain ⟨P, hP⟩ : ∃ P, xs ++ padI m = P := ⟨_, rfl⟩
  have hPo : Oct P := by rw [← hP]; exact ho.append (padI_oct m)
  have hPl : P.length % 64 = 0 ∧ P.length ≤ 100200 := by
    rw [← hP, List.length_append, padI_length, ← hm]
    unfold padZ
    omega
  have hfin : shaI xs = outL (runs (P.length / 64) h0I P) 20 := by
    unfold shaI
    rw [← hm, hP, ← hP, List.length_append, ← hm]
  simp only [hP] at hpad
  have K0 := Lib.hid k0
  have HR1 := Lib.hid hr1
  have HB1 := Lib.hid hb1
  have HS1 := Lib.hid s1
  have HPAD := Lib.hid hpad
  have HPO := Lib.hid hPo
  have HPL := Lib.hid hPl
  have HFIN := Lib.hid (show ∀ n, n = P.length / 64 → shaI xs = outL (runs n h0I P) 20 from fun n hn => by rw [hn]; exact hfin)
  clear k0 hr1 hb1 s1 hpad hPo hPl hfin hr ho hP hm
  go_enter Try.func10, Try.ntmps10
  go_wp2_with fail
  refine (HPAD.out _ HR1.out).mono ?_
  rintro e w2 ⟨⟨A2, c2, rfl, ho2⟩, hb2⟩
  have hb2' : Below (w.alloc (.cells zero20 23)).heap.size (w.alloc (.cells zero20 23)) w2 := hb2
  have hr2 := Rd.of_own ho2
  have k2 := K0.out.below hb2'
  have hb2w := HB1.out.trans (hb2'.mono (by rw [HS1.out]; omega))
  have hs2 : w.heap.size + 1 ≤ w2.heap.size := by have := hb2'.size; rw [HS1.out] at this; exact this
  have hc2 : P.length ≤ c2 := by
    obtain ⟨A', c', hv, hc⟩ := own_slice ho2
    injection hv with _ _ hv
    omega
  have HR2 := Lib.hid hr2
  have K2 := Lib.hid k2
  have HB2 := Lib.hid hb2w
  have HS2 := Lib.hid hs2
  have HC2 := Lib.hid hc2
  clear ho2 hb2 hb2' hr2 k2 hb2w hs2 hc2 K0 HR1 HB1 HPAD HS1
  obtain ⟨NP, hNP⟩ : ∃ NP, P.length = NP := ⟨_, rfl⟩
  rw [hNP]
  have HNP := Lib.hid hNP
  clear hNP
  go_wp2_with fail
  go_loopw [4, 5] (fun vh va wr => RRel P w2 vh va wr) (fun _ va _ => NP - (intOf va).toNat)
  case atStart => exact ⟨⟨0, _, rfl, by omega, rfl, h0lit w2 _ (by first | rfl | simp)⟩, (Below.refl _ _).alloc (Nat.le_refl _) _⟩
  case round =>
    obtain ⟨⟨j, gh, rfl, hj, rfl, hbk⟩, hb⟩ := hrel
    have hPl := HPL.out
    rw [HNP.out] at hj hPl
    obtain ⟨a0, ha0⟩ : ∃ a0, 64 * j = a0 := ⟨_, rfl⟩
    rw [ha0] at hj ⊢
    by_cases hlt : a0 < NP
    · have hNPb : NP ≤ 100200 := hPl.2
      have haN : a0 + 64 ≤ NP := by omega
      have HBK := Lib.hid hbk
      have HB := Lib.hid hb
      have HA0 := Lib.hid ha0
      have hr3 := HR2.out.below hb rfl
      have HR3 := Lib.hid hr3
      obtain ⟨bs, hbs⟩ : ∃ bs, (P.drop a0).take 64 = bs := ⟨_, rfl⟩
      have hbo : Oct bs := by rw [← hbs]; exact (HPO.out.drop _).take _
      have hcut := fun i hi => getD_cut P a0 i hi
      rw [hbs] at hcut
      have HCUT := Lib.hid hcut
      have HBO := Lib.hid hbo
      have HBS := Lib.hid hbs
      obtain ⟨w3, rfl⟩ : ∃ w3, w3 = wr := ⟨wr, rfl⟩
      clear hbk hb ha0 hr3 hbs hbo hcut hPl
      go_wp2_with fail
      obtain ⟨B2, hB2⟩ : ∃ B2, w3.heap.size = B2 := ⟨_, rfl⟩
      have HBB := Lib.hid hB2
      clear hB2
      go_loopw [6, 7] (fun v i wr => ∃ t : Nat, t ≤ 80 ∧ i = .int .i64 (t : Int) ∧ wr.ownsRow B2 30 1 v t (wds (sched bs t)) ∧ Below B2 w3 wr) (fun _ i _ => 80 - (intOf i).toNat)
      case atStart => exact ⟨0, by omega, rfl, ⟨rfl, .inl ⟨rfl, rfl⟩⟩, Below.refl _ _⟩
      case round =>
        obtain ⟨t, ht, rfl, hown, hb⟩ := hrel
        by_cases ht80 : t < 80
        · have hsz : B2 ≤ wr.heap.size := by have := hb.size; rw [HBB.out] at this; exact this
          have hsn : wds (sched bs t) ++ [.int .u32 (nextW bs (sched bs t) t)] = wds (sched bs (t + 1)) := wds_snoc _ _
          by_cases h16 : t < 16
          · obtain ⟨A6, c6, rfl, hc6⟩ := own_slice hown
            have hx : nextW bs (sched bs t) t = wordI bs t := by unfold nextW; rw [if_pos h16]
            have hwd : Rd wr A2 (octs P) → Calls Try.prog 23 #[.slice A2 NP c2, .int .i64 ((a0 : Int) + 4 * (t : Int))] wr fun e w' => e = .returned (.int .u32 (wordI bs t)) ∧ wr = w' := fun hrw => by
              have := wordRef_any P (a0 + 4 * t) A2 NP c2 wr HNP.out.symm (by omega) (by omega) HPO.out hrw
              rw [show ((a0 + 4 * t : Nat) : Int) = (a0 : Int) + 4 * (t : Int) by omega] at this
              have e0 := HCUT.out (4 * t) (by omega)
              have e1 := HCUT.out (4 * t + 1) (by omega)
              have e2 := HCUT.out (4 * t + 2) (by omega)
              have e3 := HCUT.out (4 * t + 3) (by omega)
              unfold wordI
              rw [e0, e1, e2, e3]
              rw [show a0 + (4 * t + 1) = a0 + 4 * t + 1 by omega, show a0 + (4 * t + 2) = a0 + 4 * t + 2 by omega, show a0 + (4 * t + 3) = a0 + 4 * t + 3 by omega]
              exact this
            rw [hx] at hsn
            have HWD := Lib.hid (hwd (HR3.out.below hb HBB.out.symm))
            generalize wordI bs t = x at *
            have HSN := Lib.hid hsn
            have HO := Lib.hid hown
            have HB6 := Lib.hid hb
            clear hwd hsn hown hb hx
            go_wp2_with fail
            refine (HWD.out).mono ?_
            rintro e w8 ⟨rfl, rfl⟩
            go_wp2_with (at_builtin; refine wpList_app1 tWords rfl (.tmp 34) (.tmp 41) rfl B2 (.slice A6 t c6) t _ rfl HO.out (.int .u32 x) rfl _ rfl (by first | rfl | simp) (by omega) (by unfold maxLen; omega) hsz ?_; intro v9 w9 o9 hg9 hb9)
            go_roundw
            case rel => exact ⟨t + 1, by omega, by go_num, by rw [HSN.out] at o9; exact o9, HB6.out.trans hb9⟩
            case measure => simp [intOf]; omega
          · obtain ⟨g6, c6, hv6, hge6, hlt6⟩ := hown.form (by omega)
            subst hv6
            have hx : nextW bs (sched bs t) t = rotA (xorI (xorI (xorI ((sched bs t).getD (t - 3) 0) ((sched bs t).getD (t - 8) 0)) ((sched bs t).getD (t - 14) 0)) ((sched bs t).getD (t - 16) 0)) := by unfold nextW; rw [if_neg h16]
            have hsl := sched_length bs t
            have a3 := wds_at (l := sched bs t) (i := t - 3) (by omega)
            have a8 := wds_at (l := sched bs t) (i := t - 8) (by omega)
            have a14 := wds_at (l := sched bs t) (i := t - 14) (by omega)
            have a16 := wds_at (l := sched bs t) (i := t - 16) (by omega)
            obtain ⟨n3, e3⟩ : ∃ n, t - 3 = n := ⟨_, rfl⟩
            obtain ⟨n8, e8⟩ : ∃ n, t - 8 = n := ⟨_, rfl⟩
            obtain ⟨n14, e14⟩ : ∃ n, t - 14 = n := ⟨_, rfl⟩
            obtain ⟨n16, e16⟩ : ∃ n, t - 16 = n := ⟨_, rfl⟩
            rw [e3] at hx a3
            rw [e8] at hx a8
            rw [e14] at hx a14
            rw [e16] at hx a16
            have cell : ∀ (j : Nat) (y : Value), (wds (sched bs t))[j]? = some y → wr.cell? ⟨g6, j, none⟩ = some y := fun j y hy => by
              have := hown.cells (g := g6) rfl j y hy
              rwa [addr_add, Nat.zero_add] at this
            generalize (sched bs t).getD n3 0 = x3 at *
            generalize (sched bs t).getD n8 0 = x8 at *
            generalize (sched bs t).getD n14 0 = x14 at *
            generalize (sched bs t).getD n16 0 = x16 at *
            obtain ⟨r, hr'⟩ : ∃ r, nextW bs (sched bs t) t = r := ⟨_, rfl⟩
            rw [hr'] at hsn hx
            clear hr'
            have c3 := cell _ _ a3
            have c8 := cell _ _ a8
            have c14 := cell _ _ a14
            have c16 := cell _ _ a16
            have al : ∀ (j : Nat) (y : Value), wr.cell? ⟨g6, j, none⟩ = some y → (wr.drew.alloc (.cells #[.int .u32 r] 30)).cell? ⟨g6, j, none⟩ = some y := fun j y hy => by
              rw [World.cell?_alloc_lt wr.drew _ ⟨g6, j, none⟩ hlt6]; exact hy
            have hS0 : wr.drew.cell? ⟨g6, n3, none⟩ = some (.int .u32 x3) ∧ wr.drew.cell? ⟨g6, n8, none⟩ = some (.int .u32 x8) ∧ wr.drew.cell? ⟨g6, n14, none⟩ = some (.int .u32 x14) ∧ wr.drew.cell? ⟨g6, n16, none⟩ = some (.int .u32 x16) := ⟨c3, c8, c14, c16⟩
            have hSA : (wr.drew.alloc (.cells #[.int .u32 r] 30)).cell? ⟨g6, n3, none⟩ = some (.int .u32 x3) ∧ (wr.drew.alloc (.cells #[.int .u32 r] 30)).cell? ⟨g6, n8, none⟩ = some (.int .u32 x8) ∧ (wr.drew.alloc (.cells #[.int .u32 r] 30)).cell? ⟨g6, n14, none⟩ = some (.int .u32 x14) ∧ (wr.drew.alloc (.cells #[.int .u32 r] 30)).cell? ⟨g6, n16, none⟩ = some (.int .u32 x16) := ⟨al _ _ c3, al _ _ c8, al _ _ c14, al _ _ c16⟩
            have hS9 : ∀ w9 : World, (∀ j y, (wds (sched bs t))[j]? = some y → w9.cell? ⟨g6, j, none⟩ = some y) → w9.cell? ⟨g6, n3, none⟩ = some (.int .u32 x3) ∧ w9.cell? ⟨g6, n8, none⟩ = some (.int .u32 x8) ∧ w9.cell? ⟨g6, n14, none⟩ = some (.int .u32 x14) ∧ w9.cell? ⟨g6, n16, none⟩ = some (.int .u32 x16) := fun w9 hk => ⟨hk _ _ a3, hk _ _ a8, hk _ _ a14, hk _ _ a16⟩
            have hoA : (wr.drew.alloc (.cells #[.int .u32 r] 30)).ownsRow B2 30 1 (.slice (some ⟨g6, 0, none⟩) t c6) t (wds (sched bs t)) := World.ownsRow.alloc (w := wr.drew) hown _
            have hnc : (wr.drew.alloc (.cells #[.int .u32 r] 30)).cell? ⟨wr.heap.size, 0, none⟩ = some (.int .u32 r) := (Blk.new wr.drew 30 #[.int .u32 r]).cell 0
            have hbsz : B2 ≤ (wr.drew.alloc (.cells #[.int .u32 r] 30)).heap.size := by
              have : (wr.drew.alloc (.cells #[.int .u32 r] 30)).heap.size = wr.heap.size + 1 := Array.size_push ..
              omega
            have hba : Below B2 w3 (wr.drew.alloc (.cells #[.int .u32 r] 30)) := hb.drew.alloc hsz _
            have hrot : ∀ w, Calls Try.prog 24 #[.int .u32 (xorI (xorI (xorI x3 x8) x14) x16), .int .u64 1] w fun e w' => e = .returned (.int .u32 r) ∧ w = w' := fun w => by rw [hx]; exact turnA_any _ w (U_xor _ _)
            have b16 : (16 : Int) ≤ t := by omega
            have b80 : (t : Int) < 80 := by omega
            have w3' : IntKind.i64.wrap ((t : Int) - 3) = (n3 : Int) := by rw [IntKind.wrap_i64]; omega
            have w8' : IntKind.i64.wrap ((t : Int) - 8) = (n8 : Int) := by rw [IntKind.wrap_i64]; omega
            have w14' : IntKind.i64.wrap ((t : Int) - 14) = (n14 : Int) := by rw [IntKind.wrap_i64]; omega
            have w16' : IntKind.i64.wrap ((t : Int) - 16) = (n16 : Int) := by rw [IntKind.wrap_i64]; omega
            have l3 : (n3 : Int) < t := by omega
            have l8 : (n8 : Int) < t := by omega
            have l14 : (n14 : Int) < t := by omega
            have l16 : (n16 : Int) < t := by omega
            have HS0 := Lib.hid hS0
            have HSA := Lib.hid hSA
            have HOA := Lib.hid hoA
            have HNC := Lib.hid hnc
            have HBS2 := Lib.hid hbsz
            have HBA := Lib.hid hba
            have HROT := Lib.hid hrot
            have HSN := Lib.hid hsn
            have HS9 := Lib.hid hS9
            clear hsn hown hb hx hS0 hSA hoA hnc hbsz hba hrot hS9 a3 a8 a14 a16 c3 c8 c14 c16 al cell hsl
            go_wp2_with fail
            refine wp_region_held_drew (S := fun w' => w'.cell? ⟨g6, n3, none⟩ = some (.int .u32 x3) ∧ w'.cell? ⟨g6, n8, none⟩ = some (.int .u32 x8) ∧ w'.cell? ⟨g6, n14, none⟩ = some (.int .u32 x14) ∧ w'.cell? ⟨g6, n16, none⟩ = some (.int .u32 x16)) (by kernel_rfl) HS0.out (fun hHeld => ?_)
            refine wpAnyH_takeD (i := 0) (d := 43) (oi := _) (v := ?_) rfl rfl (by kernel_rfl) (by kernel_rfl) (by kernel_rfl) (fun _ _ _ h => h) (Or.inl ⟨by rfl, ?_⟩) (by assumption) ?_
            rotate_left
            · (intro w hSw; (try dsimp only at hSw); go_simp) <;> with_reducible rfl
            simp only [Act.put, List.setIfInBounds_toArray, List.set_cons_zero, List.set_cons_succ]
            refine wpAnyH_takeD (i := 1) (d := 44) (oi := _) (v := ?_) rfl rfl (by kernel_rfl) (by kernel_rfl) (by kernel_rfl) (fun _ _ _ h => h) (Or.inl ⟨by rfl, ?_⟩) (by assumption) ?_
            rotate_left
            · (intro w hSw; (try dsimp only at hSw); go_simp) <;> with_reducible rfl
            simp only [Act.put, List.setIfInBounds_toArray, List.set_cons_zero, List.set_cons_succ]
            refine wpAnyH_takeD (i := 2) (d := 45) (oi := _) (v := ?_) rfl rfl (by kernel_rfl) (by kernel_rfl) (by kernel_rfl) (fun _ _ _ h => h) (Or.inl ⟨by rfl, ?_⟩) (by assumption) ?_
            rotate_left
            · (intro w hSw; (try dsimp only at hSw); go_simp) <;> with_reducible rfl
            simp only [Act.put, List.setIfInBounds_toArray, List.set_cons_zero, List.set_cons_succ]
            refine wpAnyH_takeD (i := 3) (d := 46) (oi := _) (v := ?_) rfl rfl (by kernel_rfl) (by kernel_rfl) (by kernel_rfl) (fun _ _ _ h => h) (Or.inl ⟨by rfl, ?_⟩) (by assumption) ?_
            rotate_left
            · (intro w hSw; (try dsimp only at hSw); go_simp) <;> with_reducible rfl
            simp only [Act.put, List.setIfInBounds_toArray, List.set_cons_zero, List.set_cons_succ]
            refine wpAnyH_takeD (i := 4) (d := 47) (oi := _) (v := ?_) rfl rfl (by kernel_rfl) (by kernel_rfl) (by kernel_rfl) (fun _ _ _ h => h) (Or.inl ⟨by rfl, ?_⟩) (by assumption) ?_
            rotate_left
            · (intro w hSw; (try dsimp only at hSw); go_simp) <;> with_reducible rfl
            simp only [Act.put, List.setIfInBounds_toArray, List.set_cons_zero, List.set_cons_succ]
            refine wpAnyH_takeD (i := 5) (d := 48) (oi := _) (v := ?_) rfl rfl (by kernel_rfl) (by kernel_rfl) (by kernel_rfl) (fun _ _ _ h => h) (Or.inl ⟨by rfl, ?_⟩) (by assumption) ?_
            rotate_left
            · (intro w hSw; (try dsimp only at hSw); go_simp) <;> with_reducible rfl
            simp only [Act.put, List.setIfInBounds_toArray, List.set_cons_zero, List.set_cons_succ]
            refine wpAnyH_takeD (i := 6) (d := 49) (oi := _) (v := ?_) rfl rfl (by kernel_rfl) (by kernel_rfl) (by kernel_rfl) (fun _ _ _ h => h) (Or.inl ⟨by rfl, ?_⟩) (by assumption) ?_
            rotate_left
            · (intro w hSw; (try dsimp only at hSw); go_simp) <;> with_reducible rfl
            simp only [Act.put, List.setIfInBounds_toArray, List.set_cons_zero, List.set_cons_succ]
            refine wpAnyH_takeD (i := 7) (d := 50) (oi := _) (v := ?_) rfl rfl (by kernel_rfl) (by kernel_rfl) (by kernel_rfl) (fun _ _ _ h => h) (Or.inl ⟨by rfl, ?_⟩) (by assumption) ?_
            rotate_left
            · (intro w hSw; (try dsimp only at hSw); go_simp) <;> with_reducible rfl
            simp only [Act.put, List.setIfInBounds_toArray, List.set_cons_zero, List.set_cons_succ]
            refine wpAnyH_takeD (i := 8) (d := 51) (oi := _) (v := ?_) rfl rfl (by kernel_rfl) (by kernel_rfl) (by kernel_rfl) (fun _ _ _ h => h) (Or.inl ⟨by rfl, ?_⟩) (by assumption) ?_
            rotate_left
            · (intro w hSw; (try dsimp only at hSw); go_simp) <;> with_reducible rfl
            simp only [Act.put, List.setIfInBounds_toArray, List.set_cons_zero, List.set_cons_succ]
            refine wpAnyH_takeD (i := 9) (d := 52) (oi := _) (v := ?_) rfl rfl (by kernel_rfl) (by kernel_rfl) (by kernel_rfl) (fun _ _ _ h => h) (Or.inl ⟨by rfl, ?_⟩) (by assumption) ?_
            rotate_left
            · (intro w hSw; (try dsimp only at hSw); go_simp) <;> with_reducible rfl
            simp only [Act.put, List.setIfInBounds_toArray, List.set_cons_zero, List.set_cons_succ]
            refine wpAnyH_takeD (i := 10) (d := 53) (oi := _) (v := ?_) rfl rfl (by kernel_rfl) (by kernel_rfl) (by kernel_rfl) (fun _ _ _ h => h) (Or.inl ⟨by rfl, ?_⟩) (by assumption) ?_
            rotate_left
            · (intro w hSw; (try dsimp only at hSw); go_simp) <;> with_reducible rfl
            simp only [Act.put, List.setIfInBounds_toArray, List.set_cons_zero, List.set_cons_succ]
            refine wpAnyH_takeD (i := 11) (d := 54) (oi := _) (v := ?_) rfl rfl (by kernel_rfl) (by kernel_rfl) (by kernel_rfl) (fun _ _ _ h => h) (Or.inl ⟨by rfl, ?_⟩) (by assumption) ?_
            rotate_left
            · (intro w hSw; (try dsimp only at hSw); go_simp) <;> with_reducible rfl
            simp only [Act.put, List.setIfInBounds_toArray, List.set_cons_zero, List.set_cons_succ]
            refine wpAnyH_takeD (i := 12) (d := 55) (oi := _) (v := ?_) rfl rfl (by kernel_rfl) (by kernel_rfl) (by kernel_rfl) (fun _ _ _ h => h) (Or.inl ⟨by rfl, ?_⟩) (by assumption) ?_
            rotate_left
            · (intro w hSw; (try dsimp only at hSw); go_simp) <;> with_reducible rfl
            simp only [Act.put, List.setIfInBounds_toArray, List.set_cons_zero, List.set_cons_succ]
            refine wpAnyH_takeD (i := 13) (d := 56) (oi := _) (v := ?_) rfl rfl (by kernel_rfl) (by kernel_rfl) (by kernel_rfl) (fun _ _ _ h => h) (Or.inl ⟨by rfl, ?_⟩) (by assumption) ?_
            rotate_left
            · (intro w hSw; (try dsimp only at hSw); go_simp) <;> with_reducible rfl
            simp only [Act.put, List.setIfInBounds_toArray, List.set_cons_zero, List.set_cons_succ]
            refine wpAnyH_takeD (i := 14) (d := 57) (oi := _) (v := ?_) rfl rfl (by kernel_rfl) (by kernel_rfl) (by kernel_rfl) (fun _ _ _ h => h) (Or.inl ⟨by rfl, ?_⟩) (by assumption) ?_
            rotate_left
            · (intro w hSw; (try dsimp only at hSw); go_simp) <;> with_reducible rfl
            simp only [Act.put, List.setIfInBounds_toArray, List.set_cons_zero, List.set_cons_succ]
            refine wpAnyH_takeD (i := 15) (d := 58) (oi := _) (v := ?_) rfl rfl (by kernel_rfl) (by kernel_rfl) (by kernel_rfl) (fun _ _ _ h => h) (Or.inl ⟨by rfl, ?_⟩) (by assumption) ?_
            rotate_left
            · (intro w hSw; (try dsimp only at hSw); go_simp) <;> with_reducible rfl
            simp only [Act.put, List.setIfInBounds_toArray, List.set_cons_zero, List.set_cons_succ]
            refine wpAnyH_takeD (i := 16) (d := 59) (oi := _) (v := ?_) rfl rfl (by kernel_rfl) (by kernel_rfl) (by kernel_rfl) (fun _ _ _ h => h) (Or.inl ⟨by rfl, ?_⟩) (by assumption) ?_
            rotate_left
            · (intro w hSw; (try dsimp only at hSw); go_simp) <;> with_reducible rfl
            simp only [Act.put, List.setIfInBounds_toArray, List.set_cons_zero, List.set_cons_succ]
            refine wpAnyH_takeD (i := 17) (d := 60) (oi := _) (v := ?_) rfl rfl (by kernel_rfl) (by kernel_rfl) (by kernel_rfl) (fun _ _ _ h => h) (Or.inl ⟨by rfl, ?_⟩) (by assumption) ?_
            rotate_left
            · (intro w hSw; (try dsimp only at hSw); go_simp) <;> with_reducible rfl
            simp only [Act.put, List.setIfInBounds_toArray, List.set_cons_zero, List.set_cons_succ]
            refine wpAnyH_takeD (i := 18) (d := 61) (oi := _) (v := ?_) rfl rfl (by kernel_rfl) (by kernel_rfl) (by kernel_rfl) (fun _ _ _ h => h) (Or.inl ⟨by rfl, ?_⟩) (by assumption) ?_
            rotate_left
            · (intro w hSw; (try dsimp only at hSw); go_simp) <;> with_reducible rfl
            simp only [Act.put, List.setIfInBounds_toArray, List.set_cons_zero, List.set_cons_succ]
            refine wpAnyH_takeD (i := 19) (d := 62) (oi := _) (v := ?_) rfl rfl (by kernel_rfl) (by kernel_rfl) (by kernel_rfl) (fun _ _ _ h => h) (Or.inl ⟨by rfl, ?_⟩) (by assumption) ?_
            rotate_left
            · (intro w hSw; (try dsimp only at hSw); go_simp) <;> with_reducible rfl
            simp only [Act.put, List.setIfInBounds_toArray, List.set_cons_zero, List.set_cons_succ]
            refine wpAnyH_takeD (i := 20) (d := 63) (oi := _) (v := ?_) rfl rfl (by kernel_rfl) (by kernel_rfl) (by kernel_rfl) (fun _ _ _ h => h) (Or.inl ⟨by rfl, ?_⟩) (by assumption) ?_
            rotate_left
            · (intro w hSw; (try dsimp only at hSw); go_simp) <;> with_reducible rfl
            simp only [Act.put, List.setIfInBounds_toArray, List.set_cons_zero, List.set_cons_succ]
            refine wpAnyH_takeD (i := 21) (d := 64) (oi := _) (v := ?_) rfl rfl (by kernel_rfl) (by kernel_rfl) (by kernel_rfl) (fun _ _ _ h => h) (Or.inl ⟨by rfl, ?_⟩) (by assumption) ?_
            rotate_left
            · (intro w hSw; (try dsimp only at hSw); go_simp) <;> with_reducible rfl
            simp only [Act.put, List.setIfInBounds_toArray, List.set_cons_zero, List.set_cons_succ]
            refine wpAnyH_takeD (i := 22) (d := 65) (oi := _) (v := ?_) rfl rfl (by kernel_rfl) (by kernel_rfl) (by kernel_rfl) (fun _ _ _ h => h) (Or.inl ⟨by rfl, ?_⟩) (by assumption) ?_
            rotate_left
            · (intro w hSw; (try dsimp only at hSw); go_simp) <;> with_reducible rfl
            simp only [Act.put, List.setIfInBounds_toArray, List.set_cons_zero, List.set_cons_succ]
            refine wpAnyH_takeD (i := 23) (d := 66) (oi := _) (v := ?_) rfl rfl (by kernel_rfl) (by kernel_rfl) (by kernel_rfl) (fun _ _ _ h => h) (Or.inl ⟨by rfl, ?_⟩) (by assumption) ?_
            rotate_left
            · (intro w hSw; (try dsimp only at hSw); go_simp) <;> with_reducible rfl
            simp only [Act.put, List.setIfInBounds_toArray, List.set_cons_zero, List.set_cons_succ]
            refine wpAnyH_ready (rs := [24]) (by kernel_rfl) (by simp) ?_
            refine AllReadyH.cons (o := _) rfl (fun K hK => ?_) AllReadyH.nil
            go_simp
            refine (HROT.out _).mono ?_
            rintro e w8 ⟨rfl, rfl⟩
            go_wp2_with fail
            refine hK.out _ _ hHeld (fun hHeld => ?_)
            clear hK K
            try simp only [Act.put, List.setIfInBounds_toArray, List.set_cons_zero, List.set_cons_succ]
            refine wpAnyH_ready (rs := [25]) (by kernel_rfl) (by simp) ?_
            refine AllReadyH.cons (o := _) rfl (fun K hK => ?_) AllReadyH.nil
            go_simp
            refine hK.out _ _ HSA.out (fun hHeld => ?_)
            clear hK K
            try simp only [Act.put, List.setIfInBounds_toArray, List.set_cons_zero, List.set_cons_succ]
            refine wpAnyH_ready (rs := [26]) (by kernel_rfl) (by simp) ?_
            refine AllReadyH.cons (o := _) rfl (fun K hK => ?_) AllReadyH.nil
            refine step_app1k tWords rfl (.tmp 43) (.tmp 68) rfl B2 g6 t c6 _ rfl HOA.out (.int .u32 r) rfl wr.heap.size rfl HNC.out (by omega) (by unfold maxLen; omega) HBS2.out ?_
            intro v9 w9 o9 hb9 hk9
            try simp only [Act.put, List.setIfInBounds_toArray, List.set_cons_zero, List.set_cons_succ]
            refine hK.out _ _ (HS9.out w9 hk9) (fun hHeld => ?_)
            clear hK K
            try simp only [Act.put, List.setIfInBounds_toArray, List.set_cons_zero, List.set_cons_succ]
            refine wpAnyH_ready (rs := [27]) (by kernel_rfl) (by simp) ?_
            refine AllReadyH.cons (o := _) rfl (fun K hK => ?_) AllReadyH.nil
            go_simp
            refine hK.out _ _ hHeld (fun hHeld => ?_)
            clear hK K
            try simp only [Act.put, List.setIfInBounds_toArray, List.set_cons_zero, List.set_cons_succ]
            refine wpAnyH_done (by kernel_rfl) ?_ _
            go_wp2_with fail
            go_roundw
            case rel => exact ⟨t + 1, by omega, by go_num, by rw [HSN.out] at o9; exact o9, HBA.out.trans hb9⟩
            case measure => simp [intOf]; omega
        · obtain rfl : t = 80 := by omega
          rw [show ((80 : Nat) : Int) = 80 from rfl]
          obtain ⟨g6, c6, hv6, hge6, hlt6⟩ := hown.form (by omega)
          subst hv6
          have hsl := sched_length bs 80
          have cell : ∀ (q : Nat), q < 80 → wr.cell? ⟨g6, q, none⟩ = some (.int .u32 ((sched bs 80).getD q 0)) := fun q hq => by
            have := hown.cells (g := g6) rfl q _ (wds_at (by omega))
            rwa [addr_add, Nat.zero_add] at this
          have hbkH : Blk wr gh 30 (runs j h0I P).vals := HBK.out.low hb (by have := HBK.out.lt; rw [HBB.out] at this; exact this)
          have hU : (runs j h0I P).U := runs_U j h0I_U P
          obtain ⟨s0, hs0⟩ : ∃ s0, runs j h0I P = s0 := ⟨_, rfl⟩
          rw [hs0] at hbkH hU
          obtain ⟨L, hL⟩ : ∃ L, sched bs 80 = L := ⟨_, rfl⟩
          rw [hL] at cell
          have hrs : runs (j + 1) h0I P = s0.add (stepsI L s0 80) := by
            have := runs_snoc j h0I P
            rw [hs0, HA0.out, HBS.out] at this
            rw [this]
            unfold blockI
            rw [hL]
          obtain ⟨Ha, Hb, Hc, Hd, He⟩ := s0
          simp only [S5.vals] at hbkH
          have c0 := hbkH.cell 0
          have c1 := hbkH.cell 1
          have c2' := hbkH.cell 2
          have c3 := hbkH.cell 3
          have c4 := hbkH.cell 4
          simp at c0 c1 c2' c3 c4
          have HRS := Lib.hid (show ∀ n, n = 80 → runs (j + 1) h0I P = (S5.mk Ha Hb Hc Hd He).add (stepsI L ⟨Ha, Hb, Hc, Hd, He⟩ n) from fun n hn => by rw [hn]; exact hrs)
          have HCE := Lib.hid cell
          have HBH := Lib.hid hbkH
          have HUU := Lib.hid hU
          have HB6 := Lib.hid hb
          obtain ⟨w80, rfl⟩ : ∃ w80, w80 = wr := ⟨wr, rfl⟩
          clear hown hb hsl cell hbkH hU hs0 hL hrs
          go_wp2_with fail
          go_quiet (fail)
          go_wp2_with fail
          go_loopw [8, 9, 10, 11, 12, 13] (fun va vb vc vd ve i wz => ∃ t : Nat, t ≤ 80 ∧ i = .int .i64 t ∧ va = .int .u32 (stepsI L ⟨Ha, Hb, Hc, Hd, He⟩ t).a ∧ vb = .int .u32 (stepsI L ⟨Ha, Hb, Hc, Hd, He⟩ t).b ∧ vc = .int .u32 (stepsI L ⟨Ha, Hb, Hc, Hd, He⟩ t).c ∧ vd = .int .u32 (stepsI L ⟨Ha, Hb, Hc, Hd, He⟩ t).d ∧ ve = .int .u32 (stepsI L ⟨Ha, Hb, Hc, Hd, He⟩ t).e ∧ ∃ n, wz = w80.drewN n) (fun _ _ _ _ _ i _ => 80 - (intOf i).toNat)
          case atStart => exact ⟨0, by omega, rfl, rfl, rfl, rfl, rfl, rfl, _, rfl⟩
          case round =>
            obtain ⟨t, ht, rfl, rfl, rfl, rfl, rfl, rfl, n, rfl⟩ := hrel
            have hst0 : stepsI L ⟨Ha, Hb, Hc, Hd, He⟩ (t + 1) = stepI (stepsI L ⟨Ha, Hb, Hc, Hd, He⟩ t) t (L.getD t 0) := rfl
            have hUt := stepsI_U L HUU.out t
            generalize hs : stepsI L ⟨Ha, Hb, Hc, Hd, He⟩ t = s at hst0 hUt ⊢
            obtain ⟨sa, sb, sc, sd, se⟩ := s
            have HS := Lib.hid hs
            clear hs
            simp only at *
            by_cases hlt : t < 80
            · have cx := HCE.out t hlt
              generalize L.getD t 0 = x at *
              have hst : stepsI L ⟨Ha, Hb, Hc, Hd, He⟩ (t + 1) = ⟨(rotB sa + fI t sb sc sd + se + kI t + x) % 4294967296, sa, rotC sb, sc, sd⟩ := hst0
              have hTB := fun w => turnB_any sa w hUt.1
              have hTC := fun w => turnC_any sb w hUt.2.1
              generalize rotB sa = ra at *
              generalize rotC sb = rb at *
              have HTB := Lib.hid hTB
              have HTC := Lib.hid hTC
              have l80 : (t : Int) < 80 := by omega
              clear hTB hTC hst0 hUt
              by_cases q1 : t < 20
              · have hf : fI t sb sc sd = bits .or .u32 (bits .and .u32 sb sc) (bits .and .u32 (bits .xor .u32 IntKind.u32.max sb) sd) := by unfold fI; rw [if_pos q1]; rfl
                have hk : kI t = 1518500249 := by unfold kI; rw [if_pos q1]
                rw [hf, hk] at hst
                have HX := Lib.hid hst
                clear hst hf hk
                go_wp2_with fail
                go_quiet ((first | (go_at_call 24; exact quiet_same2 (HTB.out _))))
                go_wp2_with fail
                refine (HTC.out _).mono ?_
                rintro e w9 ⟨rfl, rfl⟩
                go_wp2_with fail
                go_roundw
                case rel => exact ⟨t + 1, by omega, by go_num, by rw [HX.out], by rw [HX.out], by rw [HX.out], by rw [HX.out], by rw [HX.out], ⟨_, rfl⟩⟩
                case measure => simp [intOf]; omega
              · by_cases q2 : t < 40
                · have hf : fI t sb sc sd = bits .xor .u32 (bits .xor .u32 sb sc) sd := by unfold fI; rw [if_neg q1, if_pos q2]; rfl
                  have hk : kI t = 1859775393 := by unfold kI; rw [if_neg q1, if_pos q2]
                  rw [hf, hk] at hst
                  have HX := Lib.hid hst
                  clear hst hf hk
                  go_wp2_with fail
                  go_quiet ((first | (go_at_call 24; exact quiet_same2 (HTB.out _))))
                  go_wp2_with fail
                  refine (HTC.out _).mono ?_
                  rintro e w9 ⟨rfl, rfl⟩
                  go_wp2_with fail
                  go_roundw
                  case rel => exact ⟨t + 1, by omega, by go_num, by rw [HX.out], by rw [HX.out], by rw [HX.out], by rw [HX.out], by rw [HX.out], ⟨_, rfl⟩⟩
                  case measure => simp [intOf]; omega
                · by_cases q3 : t < 60
                  · have hf : fI t sb sc sd = bits .or .u32 (bits .or .u32 (bits .and .u32 sb sc) (bits .and .u32 sb sd)) (bits .and .u32 sc sd) := by unfold fI; rw [if_neg q1, if_neg q2, if_pos q3]; rfl
                    have hk : kI t = 2400959708 := by unfold kI; rw [if_neg q1, if_neg q2, if_pos q3]
                    rw [hf, hk] at hst
                    have HX := Lib.hid hst
                    clear hst hf hk
                    go_wp2_with fail
                    go_quiet ((first | (go_at_call 24; exact quiet_same2 (HTB.out _))))
                    go_wp2_with fail
                    refine (HTC.out _).mono ?_
                    rintro e w9 ⟨rfl, rfl⟩
                    go_wp2_with fail
                    go_roundw
                    case rel => exact ⟨t + 1, by omega, by go_num, by rw [HX.out], by rw [HX.out], by rw [HX.out], by rw [HX.out], by rw [HX.out], ⟨_, rfl⟩⟩
                    case measure => simp [intOf]; omega
                  · have hf : fI t sb sc sd = bits .xor .u32 (bits .xor .u32 sb sc) sd := by unfold fI; rw [if_neg q1, if_neg q2, if_neg q3]; rfl
                    have hk : kI t = 3395469782 := by unfold kI; rw [if_neg q1, if_neg q2, if_neg q3]
                    rw [hf, hk] at hst
                    have HX := Lib.hid hst
                    clear hst hf hk
                    go_wp2_with fail
                    go_quiet ((first | (go_at_call 24; exact quiet_same2 (HTB.out _))))
                    go_wp2_with fail
                    refine (HTC.out _).mono ?_
                    rintro e w9 ⟨rfl, rfl⟩
                    go_wp2_with fail
                    go_roundw
                    case rel => exact ⟨t + 1, by omega, by go_num, by rw [HX.out], by rw [HX.out], by rw [HX.out], by rw [HX.out], by rw [HX.out], ⟨_, rfl⟩⟩
                    case measure => simp [intOf]; omega
            · obtain rfl : t = 80 := by omega
              rw [show ((80 : Nat) : Int) = 80 from rfl]
              have hbk1 : Blk (w80.drewN n) gh 30 #[.int .u32 Ha, .int .u32 Hb, .int .u32 Hc, .int .u32 Hd, .int .u32 He] := HBH.out
              have hbw1 : Below w2.heap.size w2 (w80.drewN n) := below_drewN (HB.out.trans (HB6.out.mono (by have := HBB.out; have := HB.out.size; omega))) n
              clear hst0 hUt
              generalize w80.drewN n = w81 at hbk1 hbw1 ⊢
              have d0 := hbk1.cell 0
              have d1 := hbk1.cell 1
              have d2 := hbk1.cell 2
              have d3 := hbk1.cell 3
              have d4 := hbk1.cell 4
              simp at d0 d1 d2 d3 d4
              have hlg := hbk1.lt
              have al : ∀ (o : Obj) (q : Nat) (y : Value), w81.cell? ⟨gh, q, none⟩ = some y → (w81.drew.alloc o).cell? ⟨gh, q, none⟩ = some y := fun o q y hy => by
                rw [World.cell?_alloc_lt w81.drew o ⟨gh, q, none⟩ hlg]; exact hy
              have hSC : w81.drew.cell? ⟨gh, 0, none⟩ = some (.int .u32 Ha) ∧ w81.drew.cell? ⟨gh, 1, none⟩ = some (.int .u32 Hb) ∧ w81.drew.cell? ⟨gh, 2, none⟩ = some (.int .u32 Hc) ∧ w81.drew.cell? ⟨gh, 3, none⟩ = some (.int .u32 Hd) ∧ w81.drew.cell? ⟨gh, 4, none⟩ = some (.int .u32 He) := ⟨d0, d1, d2, d3, d4⟩
              have hSB := And.intro (al (.cells #[.int .u32 ((Ha + sa) % 4294967296), .int .u32 ((Hb + sb) % 4294967296), .int .u32 ((Hc + sc) % 4294967296), .int .u32 ((Hd + sd) % 4294967296), .int .u32 ((He + se) % 4294967296)] 30) _ _ d0) (And.intro (al (.cells #[.int .u32 ((Ha + sa) % 4294967296), .int .u32 ((Hb + sb) % 4294967296), .int .u32 ((Hc + sc) % 4294967296), .int .u32 ((Hd + sd) % 4294967296), .int .u32 ((He + se) % 4294967296)] 30) _ _ d1) (And.intro (al (.cells #[.int .u32 ((Ha + sa) % 4294967296), .int .u32 ((Hb + sb) % 4294967296), .int .u32 ((Hc + sc) % 4294967296), .int .u32 ((Hd + sd) % 4294967296), .int .u32 ((He + se) % 4294967296)] 30) _ _ d2) (And.intro (al (.cells #[.int .u32 ((Ha + sa) % 4294967296), .int .u32 ((Hb + sb) % 4294967296), .int .u32 ((Hc + sc) % 4294967296), .int .u32 ((Hd + sd) % 4294967296), .int .u32 ((He + se) % 4294967296)] 30) _ _ d3) (al (.cells #[.int .u32 ((Ha + sa) % 4294967296), .int .u32 ((Hb + sb) % 4294967296), .int .u32 ((Hc + sc) % 4294967296), .int .u32 ((Hd + sd) % 4294967296), .int .u32 ((He + se) % 4294967296)] 30) _ _ d4))))
              have hbn := Blk.new w81.drew 30 #[.int .u32 ((Ha + sa) % 4294967296), .int .u32 ((Hb + sb) % 4294967296), .int .u32 ((Hc + sc) % 4294967296), .int .u32 ((Hd + sd) % 4294967296), .int .u32 ((He + se) % 4294967296)]
              have hbl : Below w2.heap.size w2 (w81.drew.alloc (.cells #[.int .u32 ((Ha + sa) % 4294967296), .int .u32 ((Hb + sb) % 4294967296), .int .u32 ((Hc + sc) % 4294967296), .int .u32 ((Hd + sd) % 4294967296), .int .u32 ((He + se) % 4294967296)] 30)) := hbw1.drew.alloc hbw1.size _
              have hrn : runs (j + 1) h0I P = ⟨(Ha + sa) % 4294967296, (Hb + sb) % 4294967296, (Hc + sc) % 4294967296, (Hd + sd) % 4294967296, (He + se) % 4294967296⟩ := by
                rw [HRS.out 80 rfl, HS.out]
                rfl
              have HSC := Lib.hid hSC
              have HSB := Lib.hid hSB
              have HBN := Lib.hid hbn
              have HBL := Lib.hid hbl
              have HRN := Lib.hid (show ∀ q, q = j + 1 → runs q h0I P = ⟨(Ha + sa) % 4294967296, (Hb + sb) % 4294967296, (Hc + sc) % 4294967296, (Hd + sd) % 4294967296, (He + se) % 4294967296⟩ from fun q hq => by rw [hq]; exact hrn)
              clear hSC hSB hbn hbl hrn d0 d1 d2 d3 d4 al hbk1 hbw1 c0 c1 c2' c3 c4 HS HRS HBH HUU HB6 HCE
              go_wp2_with fail
              refine wp_region_held_drew (S := fun w' => w'.cell? ⟨gh, 0, none⟩ = some (.int .u32 Ha) ∧ w'.cell? ⟨gh, 1, none⟩ = some (.int .u32 Hb) ∧ w'.cell? ⟨gh, 2, none⟩ = some (.int .u32 Hc) ∧ w'.cell? ⟨gh, 3, none⟩ = some (.int .u32 Hd) ∧ w'.cell? ⟨gh, 4, none⟩ = some (.int .u32 He)) (by kernel_rfl) HSC.out (fun hHeld => ?_)
              refine wpAnyH_takeD (i := 0) (d := 142) (oi := _) (v := ?_) rfl rfl (by kernel_rfl) (by kernel_rfl) (by kernel_rfl) (fun _ _ _ h => h) (Or.inl ⟨by rfl, ?_⟩) (by assumption) ?_
              rotate_left
              · (intro w hSw; (try dsimp only at hSw); go_simp) <;> with_reducible rfl
              simp only [Act.put, List.setIfInBounds_toArray, List.set_cons_zero, List.set_cons_succ]
              refine wpAnyH_takeD (i := 1) (d := 143) (oi := _) (v := ?_) rfl rfl (by kernel_rfl) (by kernel_rfl) (by kernel_rfl) (fun _ _ _ h => h) (Or.inl ⟨by rfl, ?_⟩) (by assumption) ?_
              rotate_left
              · (intro w hSw; (try dsimp only at hSw); go_simp) <;> with_reducible rfl
              simp only [Act.put, List.setIfInBounds_toArray, List.set_cons_zero, List.set_cons_succ]
              refine wpAnyH_takeD (i := 2) (d := 144) (oi := _) (v := ?_) rfl rfl (by kernel_rfl) (by kernel_rfl) (by kernel_rfl) (fun _ _ _ h => h) (Or.inl ⟨by rfl, ?_⟩) (by assumption) ?_
              rotate_left
              · (intro w hSw; (try dsimp only at hSw); go_simp) <;> with_reducible rfl
              simp only [Act.put, List.setIfInBounds_toArray, List.set_cons_zero, List.set_cons_succ]
              refine wpAnyH_takeD (i := 3) (d := 145) (oi := _) (v := ?_) rfl rfl (by kernel_rfl) (by kernel_rfl) (by kernel_rfl) (fun _ _ _ h => h) (Or.inl ⟨by rfl, ?_⟩) (by assumption) ?_
              rotate_left
              · (intro w hSw; (try dsimp only at hSw); go_simp) <;> with_reducible rfl
              simp only [Act.put, List.setIfInBounds_toArray, List.set_cons_zero, List.set_cons_succ]
              refine wpAnyH_takeD (i := 4) (d := 146) (oi := _) (v := ?_) rfl rfl (by kernel_rfl) (by kernel_rfl) (by kernel_rfl) (fun _ _ _ h => h) (Or.inl ⟨by rfl, ?_⟩) (by assumption) ?_
              rotate_left
              · (intro w hSw; (try dsimp only at hSw); go_simp) <;> with_reducible rfl
              simp only [Act.put, List.setIfInBounds_toArray, List.set_cons_zero, List.set_cons_succ]
              refine wpAnyH_takeD (i := 5) (d := 147) (oi := _) (v := ?_) rfl rfl (by kernel_rfl) (by kernel_rfl) (by kernel_rfl) (fun _ _ _ h => h) (Or.inl ⟨by rfl, ?_⟩) (by assumption) ?_
              rotate_left
              · (intro w hSw; (try dsimp only at hSw); go_simp) <;> with_reducible rfl
              simp only [Act.put, List.setIfInBounds_toArray, List.set_cons_zero, List.set_cons_succ]
              refine wpAnyH_takeD (i := 6) (d := 148) (oi := _) (v := ?_) rfl rfl (by kernel_rfl) (by kernel_rfl) (by kernel_rfl) (fun _ _ _ h => h) (Or.inl ⟨by rfl, ?_⟩) (by assumption) ?_
              rotate_left
              · (intro w hSw; (try dsimp only at hSw); go_simp) <;> with_reducible rfl
              simp only [Act.put, List.setIfInBounds_toArray, List.set_cons_zero, List.set_cons_succ]
              refine wpAnyH_takeD (i := 7) (d := 149) (oi := _) (v := ?_) rfl rfl (by kernel_rfl) (by kernel_rfl) (by kernel_rfl) (fun _ _ _ h => h) (Or.inl ⟨by rfl, ?_⟩) (by assumption) ?_
              rotate_left
              · (intro w hSw; (try dsimp only at hSw); go_simp) <;> with_reducible rfl
              simp only [Act.put, List.setIfInBounds_toArray, List.set_cons_zero, List.set_cons_succ]
              refine wpAnyH_takeD (i := 8) (d := 150) (oi := _) (v := ?_) rfl rfl (by kernel_rfl) (by kernel_rfl) (by kernel_rfl) (fun _ _ _ h => h) (Or.inl ⟨by rfl, ?_⟩) (by assumption) ?_
              rotate_left
              · (intro w hSw; (try dsimp only at hSw); go_simp) <;> with_reducible rfl
              simp only [Act.put, List.setIfInBounds_toArray, List.set_cons_zero, List.set_cons_succ]
              refine wpAnyH_takeD (i := 9) (d := 151) (oi := _) (v := ?_) rfl rfl (by kernel_rfl) (by kernel_rfl) (by kernel_rfl) (fun _ _ _ h => h) (Or.inl ⟨by rfl, ?_⟩) (by assumption) ?_
              rotate_left
              · (intro w hSw; (try dsimp only at hSw); go_simp) <;> with_reducible rfl
              simp only [Act.put, List.setIfInBounds_toArray, List.set_cons_zero, List.set_cons_succ]
              refine wpAnyH_takeD (i := 10) (d := 152) (oi := _) (v := ?_) rfl rfl (by kernel_rfl) (by kernel_rfl) (by kernel_rfl) (fun _ _ _ h => h) (Or.inl ⟨by rfl, ?_⟩) (by assumption) ?_
              rotate_left
              · (intro w hSw; (try dsimp only at hSw); go_simp) <;> with_reducible rfl
              simp only [Act.put, List.setIfInBounds_toArray, List.set_cons_zero, List.set_cons_succ]
              refine wpAnyH_takeD (i := 11) (d := 153) (oi := _) (v := ?_) rfl rfl (by kernel_rfl) (by kernel_rfl) (by kernel_rfl) (fun _ _ _ h => h) (Or.inl ⟨by rfl, ?_⟩) (by assumption) ?_
              rotate_left
              · (intro w hSw; (try dsimp only at hSw); go_simp) <;> with_reducible rfl
              simp only [Act.put, List.setIfInBounds_toArray, List.set_cons_zero, List.set_cons_succ]
              refine wpAnyH_takeD (i := 12) (d := 154) (oi := _) (v := ?_) rfl rfl (by kernel_rfl) (by kernel_rfl) (by kernel_rfl) (fun _ _ _ h => h) (Or.inl ⟨by rfl, ?_⟩) (by assumption) ?_
              rotate_left
              · (intro w hSw; (try dsimp only at hSw); go_simp) <;> with_reducible rfl
              simp only [Act.put, List.setIfInBounds_toArray, List.set_cons_zero, List.set_cons_succ]
              refine wpAnyH_takeD (i := 13) (d := 155) (oi := _) (v := ?_) rfl rfl (by kernel_rfl) (by kernel_rfl) (by kernel_rfl) (fun _ _ _ h => h) (Or.inl ⟨by rfl, ?_⟩) (by assumption) ?_
              rotate_left
              · (intro w hSw; (try dsimp only at hSw); go_simp) <;> with_reducible rfl
              simp only [Act.put, List.setIfInBounds_toArray, List.set_cons_zero, List.set_cons_succ]
              refine wpAnyH_takeD (i := 14) (d := 156) (oi := _) (v := ?_) rfl rfl (by kernel_rfl) (by kernel_rfl) (by kernel_rfl) (fun _ _ _ h => h) (Or.inl ⟨by rfl, ?_⟩) (by assumption) ?_
              rotate_left
              · (intro w hSw; (try dsimp only at hSw); go_simp) <;> with_reducible rfl
              simp only [Act.put, List.setIfInBounds_toArray, List.set_cons_zero, List.set_cons_succ]
              refine wpAnyH_takeD (i := 15) (d := 157) (oi := _) (v := ?_) rfl rfl (by kernel_rfl) (by kernel_rfl) (by kernel_rfl) (fun _ _ _ h => h) (Or.inl ⟨by rfl, ?_⟩) (by assumption) ?_
              rotate_left
              · (intro w hSw; (try dsimp only at hSw); go_simp) <;> with_reducible rfl
              simp only [Act.put, List.setIfInBounds_toArray, List.set_cons_zero, List.set_cons_succ]
              refine wpAnyH_takeD (i := 16) (d := 158) (oi := _) (v := ?_) rfl rfl (by kernel_rfl) (by kernel_rfl) (by kernel_rfl) (fun _ _ _ h => h) (Or.inl ⟨by rfl, ?_⟩) (by assumption) ?_
              rotate_left
              · (intro w hSw; (try dsimp only at hSw); go_simp) <;> with_reducible rfl
              simp only [Act.put, List.setIfInBounds_toArray, List.set_cons_zero, List.set_cons_succ]
              refine wpAnyH_takeD (i := 17) (d := 159) (oi := _) (v := ?_) rfl rfl (by kernel_rfl) (by kernel_rfl) (by kernel_rfl) (fun _ _ _ h => h) (Or.inl ⟨by rfl, ?_⟩) (by assumption) ?_
              rotate_left
              · (intro w hSw; (try dsimp only at hSw); go_simp) <;> with_reducible rfl
              simp only [Act.put, List.setIfInBounds_toArray, List.set_cons_zero, List.set_cons_succ]
              refine wpAnyH_takeD (i := 18) (d := 160) (oi := _) (v := ?_) rfl rfl (by kernel_rfl) (by kernel_rfl) (by kernel_rfl) (fun _ _ _ h => h) (Or.inl ⟨by rfl, ?_⟩) (by assumption) ?_
              rotate_left
              · (intro w hSw; (try dsimp only at hSw); go_simp) <;> with_reducible rfl
              simp only [Act.put, List.setIfInBounds_toArray, List.set_cons_zero, List.set_cons_succ]
              refine wpAnyH_takeD (i := 19) (d := 161) (oi := _) (v := ?_) rfl rfl (by kernel_rfl) (by kernel_rfl) (by kernel_rfl) (fun _ _ _ h => h) (Or.inl ⟨by rfl, ?_⟩) (by assumption) ?_
              rotate_left
              · (intro w hSw; (try dsimp only at hSw); go_simp) <;> with_reducible rfl
              simp only [Act.put, List.setIfInBounds_toArray, List.set_cons_zero, List.set_cons_succ]
              refine wpAnyH_takeD (i := 20) (d := 162) (oi := _) (v := ?_) rfl rfl (by kernel_rfl) (by kernel_rfl) (by kernel_rfl) (fun _ _ _ h => h) (Or.inl ⟨by rfl, ?_⟩) (by assumption) ?_
              rotate_left
              · (intro w hSw; (try dsimp only at hSw); go_simp) <;> with_reducible rfl
              simp only [Act.put, List.setIfInBounds_toArray, List.set_cons_zero, List.set_cons_succ]
              refine wpAnyH_takeD (i := 21) (d := 163) (oi := _) (v := ?_) rfl rfl (by kernel_rfl) (by kernel_rfl) (by kernel_rfl) (fun _ _ _ h => h) (Or.inl ⟨by rfl, ?_⟩) (by assumption) ?_
              rotate_left
              · (intro w hSw; (try dsimp only at hSw); go_simp) <;> with_reducible rfl
              simp only [Act.put, List.setIfInBounds_toArray, List.set_cons_zero, List.set_cons_succ]
              refine wpAnyH_takeD (i := 22) (d := 164) (oi := _) (v := ?_) rfl rfl (by kernel_rfl) (by kernel_rfl) (by kernel_rfl) (fun _ _ _ h => h) (Or.inl ⟨by rfl, ?_⟩) (by assumption) ?_
              rotate_left
              · (intro w hSw; (try dsimp only at hSw); go_simp) <;> with_reducible rfl
              simp only [Act.put, List.setIfInBounds_toArray, List.set_cons_zero, List.set_cons_succ]
              refine wpAnyH_takeD (i := 23) (d := 165) (oi := _) (v := ?_) rfl rfl (by kernel_rfl) (by kernel_rfl) (by kernel_rfl) (fun _ _ _ h => h) (Or.inl ⟨by rfl, ?_⟩) (by assumption) ?_
              rotate_left
              · (intro w hSw; (try dsimp only at hSw); go_simp) <;> with_reducible rfl
              simp only [Act.put, List.setIfInBounds_toArray, List.set_cons_zero, List.set_cons_succ]
              refine wpAnyH_takeD (i := 24) (d := 166) (oi := _) (v := ?_) rfl rfl (by kernel_rfl) (by kernel_rfl) (by kernel_rfl) (fun _ _ _ h => h) (Or.inl ⟨by rfl, ?_⟩) (by assumption) ?_
              rotate_left
              · (intro w hSw; (try dsimp only at hSw); go_simp) <;> with_reducible rfl
              simp only [Act.put, List.setIfInBounds_toArray, List.set_cons_zero, List.set_cons_succ]
              refine wpAnyH_ready (rs := [25]) (by kernel_rfl) (by simp) ?_
              refine AllReadyH.cons (o := _) rfl (fun K hK => ?_) AllReadyH.nil
              go_simp
              refine hK.out _ _ HSB.out (fun hHeld => ?_)
              clear hK K
              try simp only [Act.put, List.setIfInBounds_toArray, List.set_cons_zero, List.set_cons_succ]
              refine wpAnyH_ready (rs := [26]) (by kernel_rfl) (by simp) ?_
              refine AllReadyH.cons (o := _) rfl (fun K hK => ?_) AllReadyH.nil
              go_simp
              refine hK.out _ _ hHeld (fun hHeld => ?_)
              clear hK K
              try simp only [Act.put, List.setIfInBounds_toArray, List.set_cons_zero, List.set_cons_succ]
              refine wpAnyH_done (by kernel_rfl) ?_ _
              go_wp2_with fail
              go_roundw
              case rel =>
                refine ⟨⟨j + 1, w81.heap.size, ?_, ?_, rfl, ?_⟩, HBL.out⟩
                · have := HA0.out
                  congr 1
                  omega
                · have := HA0.out
                  rw [HNP.out]
                  omega
                · rw [HRN.out _ rfl]
                  exact HBN.out
              case measure => simp [intOf]; omega
    · have haN : a0 = NP := by omega
      obtain ⟨w10, rfl⟩ : ∃ w10, w10 = wr := ⟨wr, rfl⟩
      have hjn : j = P.length / 64 := by rw [HNP.out]; omega
      have hend := HFIN.out j hjn
      obtain ⟨s, hs⟩ : ∃ s, runs j h0I P = s := ⟨_, rfl⟩
      rw [hs] at hbk hend
      have hlg := hbk.lt
      obtain ⟨go, hgo⟩ : ∃ go, w10.heap.size = go := ⟨_, rfl⟩
      have kO : Blk (w10.alloc (.cells zero20 23)) go 23 (cellsO s 0) := by rw [← hgo]; exact Blk.new w10 23 zero20
      have kG := hbk.alloc (.cells zero20 23)
      have hsz2 := HS2.out
      have hbsz := hb.size
      have kR := (K2.out.below hb).alloc (.cells zero20 23)
      have hne : gh ≠ go := by omega
      have hneR : w.heap.size ≠ go := by omega
      have hbw : Below w.heap.size w (w10.alloc (.cells zero20 23)) := (HB2.out.trans (hb.mono (by omega))).alloc (by have := HB2.out.size; omega) _
      have HEE := Lib.hid (show ∀ n, n = 20 → shaI xs = outL s n from fun n hn => by rw [hn]; exact hend)
      have HKO := Lib.hid kO
      have HKG := Lib.hid kG
      have HKR := Lib.hid kR
      have HBW := Lib.hid hbw
      have HGO := Lib.hid hgo
      have HLO := Lib.hid (show w.heap.size + 1 ≤ go by omega)
      clear kO kG kR hbk hend hs hb hbw ha0 hjn hsz2 hbsz hPl hlg
      subst haN
      go_wp2_with fail
      generalize hw11 : w10.alloc (.cells zero20 23) = w11 at HKO HKG HKR HBW
      rw [show w10.alloc (.cells #[.int .u8 0, .int .u8 0, .int .u8 0, .int .u8 0, .int .u8 0, .int .u8 0, .int .u8 0, .int .u8 0, .int .u8 0, .int .u8 0, .int .u8 0, .int .u8 0, .int .u8 0, .int .u8 0, .int .u8 0, .int .u8 0, .int .u8 0, .int .u8 0, .int .u8 0, .int .u8 0] 23) = w11 from hw11]
      clear hw11
      go_loopw [18] (fun i wq => ∃ k : Nat, k ≤ 20 ∧ i = .int .i64 k ∧ Blk wq go 23 (cellsO s k) ∧ Frm (fun b => b = go) w11 wq) (fun i _ => 20 - (intOf i).toNat)
      case atStart => exact ⟨0, by omega, rfl, HKO.out, Frm.refl _ _⟩
      case round =>
        obtain ⟨k, hk20, rfl, hbo, hfo⟩ := hrel
        by_cases hlt20 : k < 20
        · have hgc := ((HKG.out.frm hfo hne).cell (k / 4)).trans (vals_at s k hlt20)
          have hset := hbo.set k (.int .u8 (outI s k))
          rw [cellsO_set s k hlt20] at hset
          have hfo2 : Frm (fun b => b = go) w11 (wr.setCell ⟨go, k, none⟩ (.int .u8 (outI s k))) := hfo.setCell (p := ⟨go, k, none⟩) (fun _ => rfl) _
          have hfz := hbo.frozen k
          have hcl : wr.cell? ⟨go, k, none⟩ = some ((cellsO s k)[k]'(by rw [cellsO_size s k hk20]; exact hlt20)) := by rw [hbo.cell]; simp
          have hoi : outI s k = s.at (k / 4) / 2 ^ (24 - 8 * (k % 4)) % 256 := rfl
          generalize (cellsO s k)[k]'(by rw [cellsO_size s k hk20]; exact hlt20) = old at hcl
          rw [hoi] at hset hfo2
          generalize s.at (k / 4) = x at *
          have hq0 : ((k : Int) / 4).toNat = k / 4 := by omega
          have hq1 : (0 : Int) ≤ (k : Int) / 4 := by omega
          have hq2 : (k : Int) / 4 < 5 := by omega
          have hs0 : (0 : Int) ≤ 24 - 8 * ((k : Int) % 4) := by omega
          have HSET := Lib.hid hset
          have HFO := Lib.hid hfo2
          clear hset hfo2 hbo hfo hoi
          go_wp2_with fail
          go_roundw
          case rel => exact ⟨k + 1, by omega, by go_num, HSET.out, HFO.out⟩
          case measure => simp [intOf]; omega
        · obtain rfl : k = 20 := by omega
          have hkr := HKR.out.frm hfo hneR
          have hbw : Below w.heap.size w wr := HBW.out.trans ⟨hfo.os, hfo.tape, hfo.output, hfo.size, fun b hb => hfo.block b (by have := HBW.out.size; omega) (by have := HLO.out; omega)⟩
          have hsz : (Try.prog.info? 23).map (·.size) = some (cellsO s 20).size := by rw [cellsO_size s 20 (Nat.le_refl _)]; exact size23
          have hss : zero20.size = (cellsO s 20).size := by rw [cellsO_size s 20 (Nat.le_refl _)]; rfl
          have hone := cellsO_one s 20
          obtain ⟨hk2, hb2⟩ := row2 (cs' := cellsO s 20) hkr hbw (Nat.le_refl _)
          have hfin := HEE.out 20 rfl
          have hce := cellsO_end s
          rw [← hfin] at hce
          generalize cellsO s 20 = fin at *
          subst hce
          have HBO := Lib.hid hbo
          have HKR2 := Lib.hid hkr
          have HSZ := Lib.hid hsz
          have HSS := Lib.hid hss
          have HONE := Lib.hid hone
          have HK2 := Lib.hid hk2
          have HBB2 := Lib.hid hb2
          clear hbo hkr hsz hss hone hk2 hb2 hfo hbw hfin
          go_wp2_with (first | (refine wpList_load_row rfl 23 (.tmp 17) rfl _ rfl 23 _ _ _ HBO.out Try.underlying23 rfl HSZ.out ?_) | (refine wpList_store_row rfl 23 (.tmp 2) (.tmp 186) rfl w.heap.size _ rfl rfl 23 _ HKR2.out HSZ.out HSS.out HONE.out ?_))
          exact bodyPost_ret (v := .agg _) (results_cell_row rfl _ _ w.heap.size 23 _ _ _ rfl HK2.out Try.underlying23 rfl HSZ.out) rfl ⟨rfl, HBB2.out⟩
end Go.Proofs.Ytgkgdbjdmmieaaa
