/- A model put into bytes, the reference's: walks. Lists of at most 5000 parts. -/
import Derived.Test.YtaiekpdoljleeaaMoPut
import Derived.Test.YtaiekpdoljleeaaMoRr
import Derived.Test.YtaiekpdoljleeaaHeld
namespace Go.Proofs.Ytaiekpdoljleeaa
open Go.RowKit Go.WideShapes
set_option linter.unusedVariables false
set_option linter.unusedSimpArgs false
/-- Two bytes more. -/
structure IsTwo (base m : Nat) (bs : List Int) (v : Value) (n : Int) (w0 : World) (e : Ending) (w : World) : Prop where
  ex : ∃ v', e = .returned v' ∧ w.ownsRow base 5 1 v' (m + 2) (octs (bs ++ [n / 256, n % 256]))
  grown : w0.grownBy w v.ownBlock
  low : Below base w0 w
set_option maxHeartbeats 2000000 in
theorem two58 (base m : Nat) (bs : List Int) (v : Value) (n : Int) (w : World) (ho : w.ownsRow base 5 1 v m (octs bs)) (hm : m ≤ 1000000000) (hb : base ≤ w.heap.size) (n0 : 0 ≤ n) (n1 : n ≤ 65535) : Calls Try.prog 58 #[v, .int .i64 n] w (IsTwo base m bs v n w) := by
  obtain ⟨A, c, rfl, hc⟩ := own_slice ho
  have HO := Lib.hid ho
  clear ho
  go_enter Try.func58, Try.ntmps58
  go_wp2_with (at_builtin; refine wpList_lit tBytes rfl (.tmp 5) (.tmp 12) rfl base _ m _ rfl HO.out [.int .u8 (n / 256), .int .u8 (n % 256)] (by intro u hu; simp at hu; rcases hu with rfl | rfl <;> rfl) 2 rfl _ rfl rfl (by omega) (by unfold maxLen; omega) hb ?_; intro v5 w5 o5 hg5 _ hb5; obtain ⟨A5, c5, rfl, hc5⟩ := own_slice o5)
  go_ret
  exact ⟨⟨_, rfl, by rw [octs_append]; exact o5⟩, hg5, hb5⟩
def optB (b : Bool) (l : List Int) : List Int := if b then l else []
theorem octP_opt (t : Pt) : octP t = [t.k] ++ (optB (hasK t.k 1) [t.s] ++ optB (hasK t.k 2) [t.a] ++ optB (hasK t.k 3) [t.b]) ++ optB (hasK t.k 4) [(t.c + 2048) / 256, (t.c + 2048) % 256] ++ optB (hasK t.k 5) [t.r] ++ optB (hasK t.k 6) [t.l / 256, t.l % 256] := by
  unfold octP fdsK
  cases h1 : hasK t.k 1 <;> cases h2 : hasK t.k 2 <;> cases h3 : hasK t.k 3 <;> cases h4 : hasK t.k 4 <;> cases h5 : hasK t.k 5 <;> cases h6 : hasK t.k 6 <;> simp [List.filter, h1, h2, h3, h4, h5, h6, optB, fB, wide, moreF, Pt.get]
/-- The first three fields' bytes. -/
def thr (t : Pt) (k : Nat) : List Int := (if 0 < k then optB (hasK t.k 1) [t.s] else []) ++ (if 1 < k then optB (hasK t.k 2) [t.a] else []) ++ (if 2 < k then optB (hasK t.k 3) [t.b] else [])
theorem thr_step (t : Pt) (k : Nat) (hk : k < 3) : thr t (k + 1) = thr t k ++ optB (hasK t.k (k + 1)) [t.get (k + 1)] := by
  rcases (show k = 0 ∨ k = 1 ∨ k = 2 from by omega) with rfl | rfl | rfl <;> simp [thr, Pt.get]
theorem step_appR {P : Program} {t e : TypeId} {z : Value} {bytes : Nat} {ops : Array Oper} {o : Oper} {a : Act} {w : World} {K : Act → World → Prop} {Q : Exit → Act → World → Prop} {E : Prop} (T : SlT P t e z bytes) (hgd : Region.wanted o (yielded ops a.tmps) = true) (s x : Operand)
    (ho : o.op = .call { callee := .builtin .append, args := #[s, x], argTypes := #[t, t] })
    (base : Nat) (v : Value) (n : Nat) (xs : List Value) (hs : a.eval s = v) (hown : w.ownsRow base e 1 v n xs)
    (A : Option Addr) (m c : Nat) (news : List Value) (hx : a.eval x = .slice A m c) (hm : m = news.length) (hr : Rd w A news) (h1 : ∀ u ∈ news, u.oneCell' = true)
    (hby : (n + m) * bytes ≤ 140737488355328) (h63 : n + m ≤ maxLen) (hbase : base ≤ w.heap.size)
    (h : ∀ v' w', w'.ownsRow base e 1 v' (n + m) (xs ++ news) → w.grownBy w' v.ownBlock → Below base w w' → K (a.put o.dst v') w') : if Region.wanted o (yielded ops a.tmps) = true then Oper.wp P o a w K Q else E := by
  subst hm
  obtain ⟨v', w', hrun, h2, h3, h4⟩ := run_app T w o.type base v n xs hown A c news hr h1 hby h63 hbase
  rw [if_pos hgd]
  unfold Oper.wp execOp
  simp only [ho, resolve, invoke, builtin, Sem.run_bind, Sem.run_pure, Result.andThen_ok, List.map_toArray, List.map_cons, List.map_nil, hs, hx, hrun]
  exact h v' w' h2 h3 h4
theorem optB_len (b : Bool) (l : List Int) : (optB b l).length ≤ l.length := by unfold optB; split <;> simp
theorem thr_len (t : Pt) (k : Nat) : (thr t k).length ≤ 3 := by
  unfold thr
  have h1 := optB_len (hasK t.k 1) [t.s]
  have h2 := optB_len (hasK t.k 2) [t.a]
  have h3 := optB_len (hasK t.k 3) [t.b]
  simp only [List.length_append, List.length_cons, List.length_nil] at *
  split <;> split <;> split <;> simp <;> omega
set_option maxRecDepth 100000 in
set_option maxHeartbeats 8000000 in
theorem put36_no (d : Md) (A B D : Option Addr) (n c nc cc np cp : Nat) (w : World) (hn : n = d.ts.length) (hnc : nc = d.code.length) (hnp : np = d.post.length) (hr : Rd w A (flat_pts d.ts)) (hl : n ≤ 5000) (lc : nc ≤ 1000000000) (lp : np ≤ 1000000000) (hno : rightM d ≠ 0) :
    Calls Try.prog 36 #[mdV d.h d.m d.ph d.pm (.slice A n c) (.slice B nc cc) (.slice D np cp)] w fun e w' => e = .returned (.tuple #[.slice none 0 0, .int .i64 (rightM d)]) ∧ Below w.heap.size w w' := by
  have hrt := fun W (h : Below w.heap.size w W) => right40 d A B D n c nc cc np cp W hn hnc hnp (hr.below h rfl) hl lc lp
  obtain ⟨T, hT⟩ : ∃ T, rightM d = T := ⟨_, rfl⟩
  simp only [hT] at hrt
  rw [hT] at hno ⊢
  obtain ⟨h, m, ph, pm, ts, code, post⟩ := d
  unfold mdV at *
  simp only at hrt ⊢
  clear hT hn hnc hnp hr
  have HRT := Lib.hid hrt
  have q0 : (T != 0) = true := by simpa using hno
  clear hrt hno
  go_enter Try.func36, Try.ntmps36
  go_wp2_with fail
  refine (HRT.out _ ((Below.refl _ _).alloc (Nat.le_refl _) _)).mono ?_
  rintro e w1 ⟨rfl, hb1⟩
  have HB := Lib.hid (((Below.refl w.heap.size w).alloc (Nat.le_refl _) _).trans (hb1.mono (by simp)))
  clear hb1
  go_wp2_with fail
  go_ret2
  exact ⟨rfl, HB.out⟩
set_option maxRecDepth 100000 in
set_option maxHeartbeats 16000000 in
theorem put36_yes (d : Md) (A B D : Option Addr) (n c nc cc np cp : Nat) (w : World) (hn : n = d.ts.length) (hnc : nc = d.code.length) (hnp : np = d.post.length) (hr : Rd w A (flat_pts d.ts)) (hrc : Rd w B (octs d.code)) (hrp : Rd w D (octs d.post)) (hyes : rightM d = 0) :
    Calls Try.prog 36 #[mdV d.h d.m d.ph d.pm (.slice A n c) (.slice B nc cc) (.slice D np cp)] w (IsBytes (bytesM d) w) := by
  have ho := (okM_iff d).1 (rightM_zero hyes).1
  obtain ⟨r1, r2, r3, r4⟩ := right_zero (rightM_zero hyes).2
  have hin := ptIn_all hyes
  have hrt := fun W (h : Below w.heap.size w W) => right40 d A B D n c nc cc np cp W hn hnc hnp (hr.below h rfl) (by omega) (by omega) (by omega)
  simp only [hyes] at hrt
  have hpw := pw_le8 ho.1 ho.2.1
  have hb5 : bytesM d = headB d ++ d.ts.flatMap octP ++ segB d 2 := by simp [bytesM, headB, segB]
  have hhd : headB d = [d.h, d.m, d.ph, d.pm, (n : Int)] := by rw [hn]; rfl
  have hs1 : segB d 1 = segB d 0 ++ (two nc ++ d.code) := by rw [hnc]; simp [segB]
  have hs2 : segB d 2 = segB d 1 ++ (two np ++ d.post) := by rw [hnp]; simp [segB]
  have hfl := flatP_length d.ts
  rw [hb5]
  have HN := Lib.hid hn
  have HNC := Lib.hid hnc
  have HNP := Lib.hid hnp
  have HR := Lib.hid hr
  have HRC := Lib.hid hrc
  have HRP := Lib.hid hrp
  have HIN := Lib.hid hin
  have HRT := Lib.hid hrt
  have HHD := Lib.hid hhd
  have HS1 := Lib.hid hs1
  have HS2 := Lib.hid hs2
  have ln16 : n ≤ 16 := by omega
  have lc : nc ≤ 4096 := by omega
  have lp : np ≤ 4096 := by omega
  have hfl2 : (d.ts.flatMap octP).length ≤ 208 := by omega
  have HFL := Lib.hid hfl2
  have hseg0 : segB d 0 = [] := rfl
  have HS0 := Lib.hid hseg0
  clear hn hnc hnp hr hrc hrp hin hrt hhd hs1 hs2 hfl hfl2 hyes hb5 r1 r2 r3 r4 hseg0
  obtain ⟨h, m, ph, pm, ts, code, post⟩ := d
  unfold mdV at *
  simp only at *
  obtain ⟨h0, h1, ph0, ph1, m0, m1, pm0, pm1, _, _, _, _⟩ := ho
  have HBX := Lib.hid (Blk.new w 58 #[.int .i64 h, .int .i64 m, .int .i64 ph, .int .i64 pm, .slice A n c, .slice B nc cc, .slice D np cp])
  obtain ⟨HD, hHD⟩ : ∃ x, headB ⟨h, m, ph, pm, ts, code, post⟩ = x := ⟨_, rfl⟩
  rw [hHD] at HHD ⊢
  obtain ⟨SG, hSG⟩ : ∃ x, segB ⟨h, m, ph, pm, ts, code, post⟩ = x := ⟨_, rfl⟩
  rw [hSG] at HS0 HS1 HS2 ⊢
  clear hHD hSG
  obtain ⟨BS, hBS⟩ : ∃ x, HD ++ ts.flatMap octP ++ SG 2 = x := ⟨_, rfl⟩
  rw [hBS]
  have HBS := Lib.hid hBS
  clear hBS
  go_enter Try.func36, Try.ntmps36
  go_wp2_with fail
  refine (HRT.out _ ((Below.refl _ _).alloc (Nat.le_refl _) _)).mono ?_
  rintro e w1 ⟨rfl, hb1⟩
  have hbx1 := HBX.out.below hb1
  have c0 := hbx1.cell 0
  have c1 := hbx1.cell 1
  have c2 := hbx1.cell 2
  have c3 := hbx1.cell 3
  have c4 := hbx1.cell 4
  simp at c0 c1 c2 c3 c4
  have hlt1 : w.heap.size < w1.heap.size := hbx1.lt
  have HB1 := Lib.hid (((Below.refl w.heap.size w).alloc (Nat.le_refl _) _).trans (hb1.mono (by simp)))
  have HX1 := Lib.hid hbx1
  clear hb1 hbx1
  go_wp2_with fail
  go_loopw [5, 6] (fun v i wr => ∃ k : Nat, k ≤ n ∧ i = .int .i64 k ∧ OutB w1.heap.size (HD ++ (ts.take k).flatMap octP) v wr ∧ Below w1.heap.size w1 wr) (fun _ i _ => n - (intOf i).toNat)
  case atStart =>
    refine ⟨0, by omega, rfl, OutB.of (n := 5) ?_, (Below.refl _ _).alloc (Nat.le_refl _) _⟩
    rw [HHD.out]
    exact World.ownsRow_lit w1 #[.int .u8 h, .int .u8 m, .int .u8 ph, .int .u8 pm, .int .u8 n] 5 (Nat.le_refl _) (by simp [maxLen]) rfl
  case round =>
    obtain ⟨k, hk, rfl, hv, hb⟩ := hrel
    obtain ⟨WR, rfl⟩ : ∃ x : World, x = wr := ⟨_, rfl⟩
    have HV := Lib.hid hv
    have HB := Lib.hid hb
    have hbxr := HX1.out.below hb
    have c4 := hbxr.cell 4
    simp at c4
    clear hv hb hbxr
    by_cases hlt : k < n
    · obtain ⟨t, b, o, ht, rfl, hat⟩ := pts_at ((HR.out.below HB1.out rfl).below HB.out rfl) (k := k) (by rw [← HN.out]; exact hlt)
      obtain ⟨d0, d1, d2, d3, d4, d5, d6⟩ : _ ∧ _ ∧ _ ∧ _ ∧ _ ∧ _ ∧ _ := ⟨hat.c0, hat.c1, hat.c2, hat.c3, hat.c4, hat.c5, hat.c6⟩
      have hti := HIN.out t (List.mem_of_getElem? ht)
      have hsn := flatP_snoc ht
      have hml : (HD ++ (ts.take k).flatMap octP).length ≤ 213 := by
        have h1 := flatP_length (ts.take k)
        have h2 : (ts.take k).length ≤ k := List.length_take_le _ _
        rw [List.length_append, HHD.out]
        simp only [List.length_cons, List.length_nil]
        omega
      have ho := HV.out.own
      obtain ⟨pre, hpre⟩ : ∃ x, HD ++ (ts.take k).flatMap octP = x := ⟨_, rfl⟩
      have hnext : HD ++ (ts.take (k + 1)).flatMap octP = pre ++ octP t := by rw [hsn, ← hpre, List.append_assoc]
      rw [octP_opt] at hnext
      rw [hpre] at ho hml
      obtain ⟨mm, hmm⟩ : ∃ x, pre.length = x := ⟨_, rfl⟩
      rw [hmm] at ho hml
      have HMM := Lib.hid hmm
      have HTI := Lib.hid hti
      have HNX := Lib.hid hnext
      have HO := Lib.hid ho
      have HPB := Lib.hid (Blk.new WR 32 t.cells.toArray)
      have htc : t.cells.toArray = #[.int .u8 t.k, .int .i64 t.s, .int .i64 t.a, .int .i64 t.b, .int .i64 t.c, .int .i64 t.r, .int .i64 t.l] := rfl
      have HTC := Lib.hid htc
      clear hti hsn ht hat ho hpre hnext hmm HV htc
      go_wp2_with fail
      refine (has57 t.k _).mono ?_
      rintro e w2 ⟨rfl, hb2⟩
      have hp2 := HPB.out.below hb2
      have q0 := hp2.cell 0
      rw [HTC.out] at q0
      simp at q0
      have plt := hp2.lt
      have HP2 := Lib.hid hp2
      have B2 := Lib.hid ((HB.out.alloc HB.out.size (.cells t.cells.toArray 32)).trans (hb2.mono (by have := HB.out.size; simp; omega)))
      have O2 := Lib.hid (own_below (HO.out.alloc (.cells t.cells.toArray 32)) hb2)
      clear hb2 hp2
      unfold hasV
      have HHB := Lib.hid (Blk.new w2 91 #[.bool (hasK t.k 1), .bool (hasK t.k 2), .bool (hasK t.k 3), .bool (hasK t.k 4), .bool (hasK t.k 5), .bool (hasK t.k 6)])
      have hhlt : w2.heap.size < (w2.alloc (.cells #[.bool (hasK t.k 1), .bool (hasK t.k 2), .bool (hasK t.k 3), .bool (hasK t.k 4), .bool (hasK t.k 5), .bool (hasK t.k 6)] 91)).heap.size := by simp
      go_wp2_with (at_builtin; refine wpList_app1 tBytes rfl (.tmp 52) (.tmp 55) rfl w1.heap.size _ mm _ rfl (O2.out.alloc _) (.int .u8 t.k) rfl _ rfl (by simp) (by omega) (by unfold maxLen; omega) (by have := B2.out.size; simp; omega) ?_; intro v3 w3 o3 hg3 hb3; have hp3 := (HP2.out.alloc _).grown (O2.out.alloc _) (by decide) hg3; have hh3 := HHB.out.grown (O2.out.alloc _) (by decide) hg3; have p1 : w3.cell? ⟨WR.heap.size, 1, none⟩ = some (.int .i64 t.s) := hp3.cell 1; have p2 : w3.cell? ⟨WR.heap.size, 2, none⟩ = some (.int .i64 t.a) := hp3.cell 2; have p3 : w3.cell? ⟨WR.heap.size, 3, none⟩ = some (.int .i64 t.b) := hp3.cell 3; have HP3 := Lib.hid hp3; have HH3 := Lib.hid hh3; have O3 := Lib.hid o3; have B3 := Lib.hid ((B2.out.alloc B2.out.size _).trans hb3); clear hp3 hh3 o3 hg3 hb3)
      have HON := Lib.hid (Blk.new w3 3 #[.int .i64 t.s, .int .i64 t.a, .int .i64 t.b])
      go_loopw [5, 11] (fun v i wr2 => ∃ q : Nat, q ≤ 3 ∧ i = .int .i64 q ∧ OutB w1.heap.size (pre ++ [t.k] ++ thr t q) v wr2 ∧ Blk wr2 WR.heap.size 32 t.cells.toArray ∧ Blk wr2 w2.heap.size 91 #[.bool (hasK t.k 1), .bool (hasK t.k 2), .bool (hasK t.k 3), .bool (hasK t.k 4), .bool (hasK t.k 5), .bool (hasK t.k 6)] ∧ Blk wr2 w3.heap.size 3 #[.int .i64 t.s, .int .i64 t.a, .int .i64 t.b] ∧ Below w1.heap.size w1 wr2) (fun _ i _ => 3 - (intOf i).toNat)
      case atStart =>
        refine ⟨0, by omega, rfl, OutB.of (n := mm + 1) ?_, HP3.out.alloc _, HH3.out.alloc _, HON.out, B3.out.alloc B3.out.size _⟩
        rw [octs_append, octs_append]; simpa [thr, octs] using O3.out.alloc _
      case round =>
        obtain ⟨q, hq, rfl, hv, hp, hh, ho1, hb⟩ := hrel
        have HV := Lib.hid hv
        have HBb := Lib.hid hb
        have HP := Lib.hid hp
        have HH := Lib.hid hh
        have HO1 := Lib.hid ho1
        have hml2 : (pre ++ [t.k] ++ thr t q).length ≤ 217 := by
          have h1 := thr_len t q
          simp only [List.length_append, List.length_cons, List.length_nil]
          have := HMM.out
          omega
        have ho2 := HV.out.own
        by_cases hlt2 : q < 3
        · have hst := thr_step t q hlt2
          have x0 : wr.cell? ⟨w2.heap.size, q, none⟩ = some (.bool (hasK t.k (q + 1))) := by
            rw [hh.cell q]
            rcases (show q = 0 ∨ q = 1 ∨ q = 2 from by omega) with rfl | rfl | rfl <;> rfl
          have x1 : wr.cell? ⟨w3.heap.size, q, none⟩ = some (.int .i64 (t.get (q + 1))) := by
            rw [ho1.cell q]
            rcases (show q = 0 ∨ q = 1 ∨ q = 2 from by omega) with rfl | rfl | rfl <;> rfl
          have hgt : 0 ≤ t.get (q + 1) ∧ t.get (q + 1) ≤ 255 := by
            have hti := HTI.out
            rcases (show q = 0 ∨ q = 1 ∨ q = 2 from by omega) with rfl | rfl | rfl
            · exact hti.s
            · exact hti.a
            · exact hti.b
          obtain ⟨pr2, hpr2⟩ : ∃ x, pre ++ [t.k] ++ thr t q = x := ⟨_, rfl⟩
          have hnx2 : pre ++ [t.k] ++ thr t (q + 1) = pr2 ++ optB (hasK t.k (q + 1)) [t.get (q + 1)] := by rw [hst, ← hpr2]; simp
          rw [hpr2] at ho2 hml2
          obtain ⟨m2, hm2⟩ : ∃ x, pr2.length = x := ⟨_, rfl⟩
          rw [hm2] at ho2 hml2
          obtain ⟨N, hN⟩ : ∃ x, t.get (q + 1) = x := ⟨_, rfl⟩
          obtain ⟨W, hW⟩ : ∃ x, hasK t.k (q + 1) = x := ⟨_, rfl⟩
          rw [hN] at x1 hgt hnx2
          rw [hW] at x0 hnx2
          have HNX2 := Lib.hid hnx2
          have HO2 := Lib.hid ho2
          clear hst hnx2 hpr2 hm2 hN hW ho2 HV hp hh ho1 hv hb
          cases W
          · go_wp2_with fail
            go_roundw
            case rel =>
              refine ⟨q + 1, by omega, by go_num, OutB.of (n := m2) ?_, HP.out, HH.out, HO1.out, HBb.out⟩
              rw [HNX2.out]; simpa [optB] using HO2.out
            case measure => simp [intOf]; omega
          · go_wp2_with (at_builtin; refine wpList_app1 tBytes rfl (.tmp 71) (.tmp 77) rfl w1.heap.size _ m2 _ rfl HO2.out (.int .u8 N) rfl _ rfl rfl (by omega) (by unfold maxLen; omega) HBb.out.size ?_; intro v5 w5 o5 hg5 hb5)
            have HP5 := Lib.hid (HP.out.grown HO2.out (by decide) hg5)
            have HH5 := Lib.hid (HH.out.grown HO2.out (by decide) hg5)
            have HO5 := Lib.hid (HO1.out.grown HO2.out (by decide) hg5)
            have O5 := Lib.hid o5
            have B5 := Lib.hid (HBb.out.trans hb5)
            clear o5 hg5 hb5
            go_roundw
            case rel =>
              refine ⟨q + 1, by omega, by go_num, OutB.of (n := m2 + 1) ?_, HP5.out, HH5.out, HO5.out, B5.out⟩
              rw [HNX2.out, octs_append]
              exact O5.out
            case measure => simp [intOf]; omega
        · obtain rfl : q = 3 := by omega
          have hnx3 : pre ++ [t.k] ++ thr t 3 = pre ++ ([t.k] ++ (optB (hasK t.k 1) [t.s] ++ optB (hasK t.k 2) [t.a] ++ optB (hasK t.k 3) [t.b])) := by simp [thr]
          have hnx := HNX.out
          obtain ⟨pr2, hpr2⟩ : ∃ x, pre ++ [t.k] ++ thr t 3 = x := ⟨_, rfl⟩
          rw [hpr2] at ho2 hml2 hnx3
          have hfin : HD ++ (ts.take (k + 1)).flatMap octP = pr2 ++ optB (hasK t.k 4) [(t.c + 2048) / 256, (t.c + 2048) % 256] ++ optB (hasK t.k 5) [t.r] ++ optB (hasK t.k 6) [t.l / 256, t.l % 256] := by rw [hnx, hnx3]; simp
          obtain ⟨m2, hm2⟩ : ∃ x, pr2.length = x := ⟨_, rfl⟩
          rw [hm2] at ho2 hml2
          have hti := HTI.out
          obtain ⟨_, _, _, _, _, tc, tr, tl⟩ := hti
          have e4 : wr.cell? ⟨w2.heap.size, 3, none⟩ = some (.bool (hasK t.k 4)) := hh.cell 3
          have e5 : wr.cell? ⟨w2.heap.size, 4, none⟩ = some (.bool (hasK t.k 5)) := hh.cell 4
          have e6 : wr.cell? ⟨w2.heap.size, 5, none⟩ = some (.bool (hasK t.k 6)) := hh.cell 5
          have f4 : wr.cell? ⟨WR.heap.size, 4, none⟩ = some (.int .i64 t.c) := hp.cell 4
          have f5 : wr.cell? ⟨WR.heap.size, 5, none⟩ = some (.int .i64 t.r) := hp.cell 5
          have f6 : wr.cell? ⟨WR.heap.size, 6, none⟩ = some (.int .i64 t.l) := hp.cell 6
          obtain ⟨b4, hb4⟩ : ∃ x, hasK t.k 4 = x := ⟨_, rfl⟩
          obtain ⟨b5, hb5⟩ : ∃ x, hasK t.k 5 = x := ⟨_, rfl⟩
          obtain ⟨b6, hb6⟩ : ∃ x, hasK t.k 6 = x := ⟨_, rfl⟩
          rw [hb4] at e4 hfin
          rw [hb5] at e5 hfin
          rw [hb6] at e6 hfin
          have HO2 := Lib.hid ho2
          have HFN := Lib.hid hfin
          rw [hb4, hb5, hb6] at HH
          clear hnx hnx3 hpr2 hm2 hfin ho2 HV hp hh ho1 hv hb hb4 hb5 hb6
          cases b4
          · cases b5
            · cases b6
              · go_wp2_with fail
                go_roundw
                case rel =>
                  refine ⟨k + 1, by omega, by go_num, OutB.of (n := m2) ?_, HBb.out⟩
                  rw [HFN.out]
                  have hlast := HO2.out
                  simp only [octs, List.map_append, List.map_cons, List.map_nil] at hlast ⊢
                  simpa [optB] using hlast
                case measure => simp [intOf]; omega
              · go_wp2_with fail
                refine (two58 w1.heap.size m2 pr2 _ t.l wr HO2.out (by omega) HBb.out.size tl.1 tl.2).mono ?_
                rintro e w12 ⟨⟨v12, rfl, ow12⟩, hgw12, hbw12⟩
                have Ow12 := Lib.hid ow12
                have Bw12 := Lib.hid (HBb.out.trans hbw12)
                clear ow12 hgw12 hbw12
                go_wp2_with fail
                go_roundw
                case rel =>
                  refine ⟨k + 1, by omega, by go_num, OutB.of (n := (m2 + 2)) ?_, Bw12.out⟩
                  rw [HFN.out]
                  have hlast := Ow12.out
                  simp only [octs, List.map_append, List.map_cons, List.map_nil] at hlast ⊢
                  simpa [optB] using hlast
                case measure => simp [intOf]; omega
            · cases b6
              · go_wp2_with (at_builtin; refine wpList_app1 tBytes rfl (.tmp 88) (.tmp 92) rfl w1.heap.size _ m2 _ rfl HO2.out (.int .u8 t.r) rfl _ rfl rfl (by omega) (by unfold maxLen; omega) HBb.out.size ?_; intro v11 w11 ow11 hgw11 hbw11; have hpw11 := HP.out.grown HO2.out (by decide) hgw11; have hhw11 := HH.out.grown HO2.out (by decide) hgw11; have e5w11 : w11.cell? ⟨w2.heap.size, 4, none⟩ = some (.bool true) := hhw11.cell 4; have e6w11 : w11.cell? ⟨w2.heap.size, 5, none⟩ = some (.bool false) := hhw11.cell 5; have f5w11 : w11.cell? ⟨WR.heap.size, 5, none⟩ = some (.int .i64 t.r) := hpw11.cell 5; have f6w11 : w11.cell? ⟨WR.heap.size, 6, none⟩ = some (.int .i64 t.l) := hpw11.cell 6; have HPw11 := Lib.hid hpw11; have HHw11 := Lib.hid hhw11; have Ow11 := Lib.hid ow11; have Bw11 := Lib.hid (HBb.out.trans hbw11); clear hpw11 hhw11 ow11 hgw11 hbw11)
                go_roundw
                case rel =>
                  refine ⟨k + 1, by omega, by go_num, OutB.of (n := (m2 + 1)) ?_, Bw11.out⟩
                  rw [HFN.out]
                  have hlast := Ow11.out
                  simp only [octs, List.map_append, List.map_cons, List.map_nil] at hlast ⊢
                  simpa [optB] using hlast
                case measure => simp [intOf]; omega
              · go_wp2_with (at_builtin; refine wpList_app1 tBytes rfl (.tmp 88) (.tmp 92) rfl w1.heap.size _ m2 _ rfl HO2.out (.int .u8 t.r) rfl _ rfl rfl (by omega) (by unfold maxLen; omega) HBb.out.size ?_; intro v11 w11 ow11 hgw11 hbw11; have hpw11 := HP.out.grown HO2.out (by decide) hgw11; have hhw11 := HH.out.grown HO2.out (by decide) hgw11; have e5w11 : w11.cell? ⟨w2.heap.size, 4, none⟩ = some (.bool true) := hhw11.cell 4; have e6w11 : w11.cell? ⟨w2.heap.size, 5, none⟩ = some (.bool true) := hhw11.cell 5; have f5w11 : w11.cell? ⟨WR.heap.size, 5, none⟩ = some (.int .i64 t.r) := hpw11.cell 5; have f6w11 : w11.cell? ⟨WR.heap.size, 6, none⟩ = some (.int .i64 t.l) := hpw11.cell 6; have HPw11 := Lib.hid hpw11; have HHw11 := Lib.hid hhw11; have Ow11 := Lib.hid ow11; have Bw11 := Lib.hid (HBb.out.trans hbw11); clear hpw11 hhw11 ow11 hgw11 hbw11)
                refine (two58 w1.heap.size (m2 + 1) (pr2 ++ [t.r]) _ t.l w11 (by rw [octs_append]; exact Ow11.out) (by omega) Bw11.out.size tl.1 tl.2).mono ?_
                rintro e w12 ⟨⟨v12, rfl, ow12⟩, hgw12, hbw12⟩
                have Ow12 := Lib.hid ow12
                have Bw12 := Lib.hid (Bw11.out.trans hbw12)
                clear ow12 hgw12 hbw12
                go_wp2_with fail
                go_roundw
                case rel =>
                  refine ⟨k + 1, by omega, by go_num, OutB.of (n := ((m2 + 1) + 2)) ?_, Bw12.out⟩
                  rw [HFN.out]
                  have hlast := Ow12.out
                  simp only [octs, List.map_append, List.map_cons, List.map_nil] at hlast ⊢
                  simpa [optB] using hlast
                case measure => simp [intOf]; omega
          · cases b5
            · cases b6
              · go_wp2_with fail
                refine (two58 w1.heap.size m2 pr2 _ (t.c + 2048) wr HO2.out (by omega) HBb.out.size tc.1 tc.2).mono ?_
                rintro e w10 ⟨⟨v10, rfl, ow10⟩, hgw10, hbw10⟩
                have hpw10 := HP.out.grown HO2.out (by decide) hgw10
                have hhw10 := HH.out.grown HO2.out (by decide) hgw10
                have e5w10 : w10.cell? ⟨w2.heap.size, 4, none⟩ = some (.bool false) := hhw10.cell 4
                have e6w10 : w10.cell? ⟨w2.heap.size, 5, none⟩ = some (.bool false) := hhw10.cell 5
                have f5w10 : w10.cell? ⟨WR.heap.size, 5, none⟩ = some (.int .i64 t.r) := hpw10.cell 5
                have f6w10 : w10.cell? ⟨WR.heap.size, 6, none⟩ = some (.int .i64 t.l) := hpw10.cell 6
                have HPw10 := Lib.hid hpw10
                have HHw10 := Lib.hid hhw10
                have Ow10 := Lib.hid ow10
                have Bw10 := Lib.hid (HBb.out.trans hbw10)
                clear hpw10 hhw10 ow10 hgw10 hbw10
                go_wp2_with fail
                go_roundw
                case rel =>
                  refine ⟨k + 1, by omega, by go_num, OutB.of (n := (m2 + 2)) ?_, Bw10.out⟩
                  rw [HFN.out]
                  have hlast := Ow10.out
                  simp only [octs, List.map_append, List.map_cons, List.map_nil] at hlast ⊢
                  simpa [optB] using hlast
                case measure => simp [intOf]; omega
              · go_wp2_with fail
                refine (two58 w1.heap.size m2 pr2 _ (t.c + 2048) wr HO2.out (by omega) HBb.out.size tc.1 tc.2).mono ?_
                rintro e w10 ⟨⟨v10, rfl, ow10⟩, hgw10, hbw10⟩
                have hpw10 := HP.out.grown HO2.out (by decide) hgw10
                have hhw10 := HH.out.grown HO2.out (by decide) hgw10
                have e5w10 : w10.cell? ⟨w2.heap.size, 4, none⟩ = some (.bool false) := hhw10.cell 4
                have e6w10 : w10.cell? ⟨w2.heap.size, 5, none⟩ = some (.bool true) := hhw10.cell 5
                have f5w10 : w10.cell? ⟨WR.heap.size, 5, none⟩ = some (.int .i64 t.r) := hpw10.cell 5
                have f6w10 : w10.cell? ⟨WR.heap.size, 6, none⟩ = some (.int .i64 t.l) := hpw10.cell 6
                have HPw10 := Lib.hid hpw10
                have HHw10 := Lib.hid hhw10
                have Ow10 := Lib.hid ow10
                have Bw10 := Lib.hid (HBb.out.trans hbw10)
                clear hpw10 hhw10 ow10 hgw10 hbw10
                go_wp2_with fail
                refine (two58 w1.heap.size (m2 + 2) (pr2 ++ [(t.c + 2048) / 256, (t.c + 2048) % 256]) _ t.l w10 Ow10.out (by omega) Bw10.out.size tl.1 tl.2).mono ?_
                rintro e w12 ⟨⟨v12, rfl, ow12⟩, hgw12, hbw12⟩
                have Ow12 := Lib.hid ow12
                have Bw12 := Lib.hid (Bw10.out.trans hbw12)
                clear ow12 hgw12 hbw12
                go_wp2_with fail
                go_roundw
                case rel =>
                  refine ⟨k + 1, by omega, by go_num, OutB.of (n := ((m2 + 2) + 2)) ?_, Bw12.out⟩
                  rw [HFN.out]
                  have hlast := Ow12.out
                  simp only [octs, List.map_append, List.map_cons, List.map_nil] at hlast ⊢
                  simpa [optB] using hlast
                case measure => simp [intOf]; omega
            · cases b6
              · go_wp2_with fail
                refine (two58 w1.heap.size m2 pr2 _ (t.c + 2048) wr HO2.out (by omega) HBb.out.size tc.1 tc.2).mono ?_
                rintro e w10 ⟨⟨v10, rfl, ow10⟩, hgw10, hbw10⟩
                have hpw10 := HP.out.grown HO2.out (by decide) hgw10
                have hhw10 := HH.out.grown HO2.out (by decide) hgw10
                have e5w10 : w10.cell? ⟨w2.heap.size, 4, none⟩ = some (.bool true) := hhw10.cell 4
                have e6w10 : w10.cell? ⟨w2.heap.size, 5, none⟩ = some (.bool false) := hhw10.cell 5
                have f5w10 : w10.cell? ⟨WR.heap.size, 5, none⟩ = some (.int .i64 t.r) := hpw10.cell 5
                have f6w10 : w10.cell? ⟨WR.heap.size, 6, none⟩ = some (.int .i64 t.l) := hpw10.cell 6
                have HPw10 := Lib.hid hpw10
                have HHw10 := Lib.hid hhw10
                have Ow10 := Lib.hid ow10
                have Bw10 := Lib.hid (HBb.out.trans hbw10)
                clear hpw10 hhw10 ow10 hgw10 hbw10
                go_wp2_with (at_builtin; refine wpList_app1 tBytes rfl (.tmp 88) (.tmp 92) rfl w1.heap.size _ (m2 + 2) _ rfl Ow10.out (.int .u8 t.r) rfl _ rfl rfl (by omega) (by unfold maxLen; omega) Bw10.out.size ?_; intro v11 w11 ow11 hgw11 hbw11; have hpw11 := HPw10.out.grown Ow10.out (by decide) hgw11; have hhw11 := HHw10.out.grown Ow10.out (by decide) hgw11; have e5w11 : w11.cell? ⟨w2.heap.size, 4, none⟩ = some (.bool true) := hhw11.cell 4; have e6w11 : w11.cell? ⟨w2.heap.size, 5, none⟩ = some (.bool false) := hhw11.cell 5; have f5w11 : w11.cell? ⟨WR.heap.size, 5, none⟩ = some (.int .i64 t.r) := hpw11.cell 5; have f6w11 : w11.cell? ⟨WR.heap.size, 6, none⟩ = some (.int .i64 t.l) := hpw11.cell 6; have HPw11 := Lib.hid hpw11; have HHw11 := Lib.hid hhw11; have Ow11 := Lib.hid ow11; have Bw11 := Lib.hid (Bw10.out.trans hbw11); clear hpw11 hhw11 ow11 hgw11 hbw11)
                go_roundw
                case rel =>
                  refine ⟨k + 1, by omega, by go_num, OutB.of (n := ((m2 + 2) + 1)) ?_, Bw11.out⟩
                  rw [HFN.out]
                  have hlast := Ow11.out
                  simp only [octs, List.map_append, List.map_cons, List.map_nil] at hlast ⊢
                  simpa [optB] using hlast
                case measure => simp [intOf]; omega
              · go_wp2_with fail
                refine (two58 w1.heap.size m2 pr2 _ (t.c + 2048) wr HO2.out (by omega) HBb.out.size tc.1 tc.2).mono ?_
                rintro e w10 ⟨⟨v10, rfl, ow10⟩, hgw10, hbw10⟩
                have hpw10 := HP.out.grown HO2.out (by decide) hgw10
                have hhw10 := HH.out.grown HO2.out (by decide) hgw10
                have e5w10 : w10.cell? ⟨w2.heap.size, 4, none⟩ = some (.bool true) := hhw10.cell 4
                have e6w10 : w10.cell? ⟨w2.heap.size, 5, none⟩ = some (.bool true) := hhw10.cell 5
                have f5w10 : w10.cell? ⟨WR.heap.size, 5, none⟩ = some (.int .i64 t.r) := hpw10.cell 5
                have f6w10 : w10.cell? ⟨WR.heap.size, 6, none⟩ = some (.int .i64 t.l) := hpw10.cell 6
                have HPw10 := Lib.hid hpw10
                have HHw10 := Lib.hid hhw10
                have Ow10 := Lib.hid ow10
                have Bw10 := Lib.hid (HBb.out.trans hbw10)
                clear hpw10 hhw10 ow10 hgw10 hbw10
                go_wp2_with (at_builtin; refine wpList_app1 tBytes rfl (.tmp 88) (.tmp 92) rfl w1.heap.size _ (m2 + 2) _ rfl Ow10.out (.int .u8 t.r) rfl _ rfl rfl (by omega) (by unfold maxLen; omega) Bw10.out.size ?_; intro v11 w11 ow11 hgw11 hbw11; have hpw11 := HPw10.out.grown Ow10.out (by decide) hgw11; have hhw11 := HHw10.out.grown Ow10.out (by decide) hgw11; have e5w11 : w11.cell? ⟨w2.heap.size, 4, none⟩ = some (.bool true) := hhw11.cell 4; have e6w11 : w11.cell? ⟨w2.heap.size, 5, none⟩ = some (.bool true) := hhw11.cell 5; have f5w11 : w11.cell? ⟨WR.heap.size, 5, none⟩ = some (.int .i64 t.r) := hpw11.cell 5; have f6w11 : w11.cell? ⟨WR.heap.size, 6, none⟩ = some (.int .i64 t.l) := hpw11.cell 6; have HPw11 := Lib.hid hpw11; have HHw11 := Lib.hid hhw11; have Ow11 := Lib.hid ow11; have Bw11 := Lib.hid (Bw10.out.trans hbw11); clear hpw11 hhw11 ow11 hgw11 hbw11)
                refine (two58 w1.heap.size ((m2 + 2) + 1) ((pr2 ++ [(t.c + 2048) / 256, (t.c + 2048) % 256]) ++ [t.r]) _ t.l w11 (by rw [octs_append]; exact Ow11.out) (by omega) Bw11.out.size tl.1 tl.2).mono ?_
                rintro e w12 ⟨⟨v12, rfl, ow12⟩, hgw12, hbw12⟩
                have Ow12 := Lib.hid ow12
                have Bw12 := Lib.hid (Bw11.out.trans hbw12)
                clear ow12 hgw12 hbw12
                go_wp2_with fail
                go_roundw
                case rel =>
                  refine ⟨k + 1, by omega, by go_num, OutB.of (n := (((m2 + 2) + 1) + 2)) ?_, Bw12.out⟩
                  rw [HFN.out]
                  have hlast := Ow12.out
                  simp only [octs, List.map_append, List.map_cons, List.map_nil] at hlast ⊢
                  simpa [optB] using hlast
                case measure => simp [intOf]; omega
    · obtain rfl : k = n := by omega
      have hv := HV.out
      rw [List.take_of_length_le (by rw [← HN.out]; omega)] at hv
      have hml : (HD ++ ts.flatMap octP).length ≤ 213 := by
        have := HFL.out
        rw [List.length_append, HHD.out]
        simp only [List.length_cons, List.length_nil]
        omega
      obtain ⟨pre, hpre⟩ : ∃ x, HD ++ ts.flatMap octP = x := ⟨_, rfl⟩
      rw [hpre] at hv hml
      have HPRE := Lib.hid hpre
      have hv2 := hv.own
      obtain ⟨mm, hmm⟩ : ∃ x, pre.length = x := ⟨_, rfl⟩
      rw [hmm] at hv2 hml
      have HV2 := Lib.hid hv2
      have HXa := Lib.hid (HX1.out.below HB.out)
      clear hv hv2 hpre hmm HV c0 c1 c2 c3
      go_wp2_with fail
      refine wp_region_held_drew (S := fun w' => w'.cell? ⟨w.heap.size, 5, none⟩ = some (.slice B nc cc)) (by kernel_rfl) (by show World.cell? _ _ = _; exact HXa.out.drew.cell 5) (fun hHeld => ?_)
      try simp only [List.replicate_toArray]
      refine wpAnyH_takeD (i := 0) (d := 100) (oi := _) (v := ?_) rfl rfl (by kernel_rfl) (by kernel_rfl) (by kernel_rfl) (fun _ _ _ h => h) (Or.inl ⟨by rfl, ?_⟩) (by assumption) ?_
      rotate_left
      · (intro w hSw; (try dsimp only at hSw); go_simp) <;> with_reducible rfl
      simp only [Act.put, List.setIfInBounds_toArray, List.set_cons_zero, List.set_cons_succ]
      refine wpAnyH_takeD (i := 1) (d := 101) (oi := _) (v := ?_) rfl rfl (by kernel_rfl) (by kernel_rfl) (by kernel_rfl) (fun _ _ _ h => h) (Or.inl ⟨by rfl, ?_⟩) (by assumption) ?_
      rotate_left
      · (intro w hSw; (try dsimp only at hSw); go_simp) <;> with_reducible rfl
      simp only [Act.put, List.setIfInBounds_toArray, List.set_cons_zero, List.set_cons_succ]
      refine wpAnyH_takeD (i := 2) (d := 102) (oi := _) (v := ?_) rfl rfl (by kernel_rfl) (by kernel_rfl) (by kernel_rfl) (fun _ _ _ h => h) (Or.inl ⟨by rfl, ?_⟩) (by assumption) ?_
      rotate_left
      · (intro w hSw; (try dsimp only at hSw); go_simp) <;> with_reducible rfl
      simp only [Act.put, List.setIfInBounds_toArray, List.set_cons_zero, List.set_cons_succ]
      refine wpAnyH_takeD (i := 3) (d := 103) (oi := _) (v := ?_) rfl rfl (by kernel_rfl) (by kernel_rfl) (by kernel_rfl) (fun _ _ _ h => h) (Or.inl ⟨by rfl, ?_⟩) (by assumption) ?_
      rotate_left
      · (intro w hSw; (try dsimp only at hSw); go_simp) <;> with_reducible rfl
      simp only [Act.put, List.setIfInBounds_toArray, List.set_cons_zero, List.set_cons_succ]
      refine wpAnyH_takeD (i := 5) (d := 105) (oi := _) (v := ?_) rfl rfl (by kernel_rfl) (by kernel_rfl) (by kernel_rfl) (fun _ _ _ h => h) (Or.inl ⟨by rfl, ?_⟩) (by assumption) ?_
      rotate_left
      · (intro w hSw; (try dsimp only at hSw); go_simp) <;> with_reducible rfl
      simp only [Act.put, List.setIfInBounds_toArray, List.set_cons_zero, List.set_cons_succ]
      refine wpAnyH_takeD (i := 6) (d := 106) (oi := _) (v := ?_) rfl rfl (by kernel_rfl) (by kernel_rfl) (by kernel_rfl) (fun _ _ _ h => h) (Or.inl ⟨by rfl, ?_⟩) (by assumption) ?_
      rotate_left
      · (intro w hSw; (try dsimp only at hSw); go_simp) <;> with_reducible rfl
      simp only [Act.put, List.setIfInBounds_toArray, List.set_cons_zero, List.set_cons_succ]
      refine wpAnyH_ready (rs := [4]) (by kernel_rfl) (by simp) ?_
      refine AllReadyH.cons (o := _) rfl (fun K hK => ?_) AllReadyH.nil
      go_simp
      refine (two58 w1.heap.size mm pre _ nc _ (HV2.out.drew) (by omega) (HB.out.size) (by omega) (by omega)).mono ?_
      rintro e ya ⟨⟨va, rfl, oa⟩, hga, hba⟩
      have hxa := HXa.out.drew.grown (HV2.out.drew) (by decide) hga
      have Oa := Lib.hid oa
      have BBa := Lib.hid ((Below.drew' HB.out).trans hba)
      have XXa := Lib.hid hxa
      have eea : ya.cell? ⟨w.heap.size, 5, none⟩ = some (.slice B nc cc) := hxa.cell 5
      clear oa hga hba hxa
      go_wp2_with fail
      refine hK.out _ _ (by exact eea) (fun hHeld => ?_)
      clear hK K
      try simp only [Act.put, List.setIfInBounds_toArray, List.set_cons_zero, List.set_cons_succ]
      refine wpAnyH_ready (rs := [7]) (by kernel_rfl) (by simp) ?_
      refine AllReadyH.cons (o := _) rfl (fun K hK => ?_) AllReadyH.nil
      refine step_appR tBytes rfl (.tmp 104) (.tmp 106) rfl w1.heap.size _ (mm + 2) _ rfl Oa.out B nc cc (octs code) rfl (by rw [octs_length]; exact HNC.out) ((HRC.out.below HB1.out rfl).below BBa.out rfl) (octs_one _) (by omega) (by unfold maxLen; omega) BBa.out.size ?_
      intro vva za pa hga hba
      have hxa := XXa.out.grown Oa.out (by decide) hga
      have eza : za.cell? ⟨w.heap.size, 5, none⟩ = some (.slice B nc cc) := hxa.cell 5
      have Pa := Lib.hid pa
      have BZa := Lib.hid (BBa.out.trans hba)
      have XZa := Lib.hid hxa
      clear pa hga hba hxa
      refine hK.out _ _ (by exact eza) (fun hHeld => ?_)
      clear hK K
      try simp only [Act.put, List.setIfInBounds_toArray, List.set_cons_zero, List.set_cons_succ]
      refine wpAnyH_ready (rs := [8]) (by kernel_rfl) (by simp) ?_
      refine AllReadyH.cons (o := _) rfl (fun K hK => ?_) AllReadyH.nil
      go_simp
      refine hK.out _ _ (by exact eza) (fun hHeld => ?_)
      clear hK K
      try simp only [Act.put, List.setIfInBounds_toArray, List.set_cons_zero, List.set_cons_succ]
      refine wpAnyH_done (by kernel_rfl) ?_ _
      have HXb := Lib.hid XZa.out
      have HWb : Hid (za.ownsRow w1.heap.size 5 1 vva (mm + 2 + nc) (octs (pre ++ [(nc : Int) / 256, (nc : Int) % 256] ++ code))) := Lib.hid (by rw [octs_append]; exact Pa.out)
      clear XXa XZa Pa
      go_wp2_with fail
      refine wp_region_held_drew (S := fun w' => w'.cell? ⟨w.heap.size, 6, none⟩ = some (.slice D np cp)) (by kernel_rfl) (by show World.cell? _ _ = _; exact HXb.out.drew.cell 6) (fun hHeld => ?_)
      try simp only [List.replicate_toArray]
      refine wpAnyH_takeD (i := 0) (d := 108) (oi := _) (v := ?_) rfl rfl (by kernel_rfl) (by kernel_rfl) (by kernel_rfl) (fun _ _ _ h => h) (Or.inl ⟨by rfl, ?_⟩) (by assumption) ?_
      rotate_left
      · (intro w hSw; (try dsimp only at hSw); go_simp) <;> with_reducible rfl
      simp only [Act.put, List.setIfInBounds_toArray, List.set_cons_zero, List.set_cons_succ]
      refine wpAnyH_takeD (i := 1) (d := 109) (oi := _) (v := ?_) rfl rfl (by kernel_rfl) (by kernel_rfl) (by kernel_rfl) (fun _ _ _ h => h) (Or.inl ⟨by rfl, ?_⟩) (by assumption) ?_
      rotate_left
      · (intro w hSw; (try dsimp only at hSw); go_simp) <;> with_reducible rfl
      simp only [Act.put, List.setIfInBounds_toArray, List.set_cons_zero, List.set_cons_succ]
      refine wpAnyH_takeD (i := 2) (d := 110) (oi := _) (v := ?_) rfl rfl (by kernel_rfl) (by kernel_rfl) (by kernel_rfl) (fun _ _ _ h => h) (Or.inl ⟨by rfl, ?_⟩) (by assumption) ?_
      rotate_left
      · (intro w hSw; (try dsimp only at hSw); go_simp) <;> with_reducible rfl
      simp only [Act.put, List.setIfInBounds_toArray, List.set_cons_zero, List.set_cons_succ]
      refine wpAnyH_takeD (i := 3) (d := 111) (oi := _) (v := ?_) rfl rfl (by kernel_rfl) (by kernel_rfl) (by kernel_rfl) (fun _ _ _ h => h) (Or.inl ⟨by rfl, ?_⟩) (by assumption) ?_
      rotate_left
      · (intro w hSw; (try dsimp only at hSw); go_simp) <;> with_reducible rfl
      simp only [Act.put, List.setIfInBounds_toArray, List.set_cons_zero, List.set_cons_succ]
      refine wpAnyH_takeD (i := 5) (d := 113) (oi := _) (v := ?_) rfl rfl (by kernel_rfl) (by kernel_rfl) (by kernel_rfl) (fun _ _ _ h => h) (Or.inl ⟨by rfl, ?_⟩) (by assumption) ?_
      rotate_left
      · (intro w hSw; (try dsimp only at hSw); go_simp) <;> with_reducible rfl
      simp only [Act.put, List.setIfInBounds_toArray, List.set_cons_zero, List.set_cons_succ]
      refine wpAnyH_takeD (i := 6) (d := 114) (oi := _) (v := ?_) rfl rfl (by kernel_rfl) (by kernel_rfl) (by kernel_rfl) (fun _ _ _ h => h) (Or.inl ⟨by rfl, ?_⟩) (by assumption) ?_
      rotate_left
      · (intro w hSw; (try dsimp only at hSw); go_simp) <;> with_reducible rfl
      simp only [Act.put, List.setIfInBounds_toArray, List.set_cons_zero, List.set_cons_succ]
      refine wpAnyH_ready (rs := [4]) (by kernel_rfl) (by simp) ?_
      refine AllReadyH.cons (o := _) rfl (fun K hK => ?_) AllReadyH.nil
      go_simp
      refine (two58 w1.heap.size (mm + 2 + nc) (pre ++ [(nc : Int) / 256, (nc : Int) % 256] ++ code) _ np _ (HWb.out.drew) (by omega) (BZa.out.size) (by omega) (by omega)).mono ?_
      rintro e yb ⟨⟨vb, rfl, ob⟩, hgb, hbb⟩
      have hxb := HXb.out.drew.grown (HWb.out.drew) (by decide) hgb
      have Ob := Lib.hid ob
      have BBb := Lib.hid ((Below.drew' BZa.out).trans hbb)
      have XXb := Lib.hid hxb
      have eeb : yb.cell? ⟨w.heap.size, 6, none⟩ = some (.slice D np cp) := hxb.cell 6
      clear ob hgb hbb hxb
      go_wp2_with fail
      refine hK.out _ _ (by exact eeb) (fun hHeld => ?_)
      clear hK K
      try simp only [Act.put, List.setIfInBounds_toArray, List.set_cons_zero, List.set_cons_succ]
      refine wpAnyH_ready (rs := [7]) (by kernel_rfl) (by simp) ?_
      refine AllReadyH.cons (o := _) rfl (fun K hK => ?_) AllReadyH.nil
      refine step_appR tBytes rfl (.tmp 112) (.tmp 114) rfl w1.heap.size _ ((mm + 2 + nc) + 2) _ rfl Ob.out D np cp (octs post) rfl (by rw [octs_length]; exact HNP.out) ((HRP.out.below HB1.out rfl).below BBb.out rfl) (octs_one _) (by omega) (by unfold maxLen; omega) BBb.out.size ?_
      intro vvb zb pb hgb hbb
      have hxb := XXb.out.grown Ob.out (by decide) hgb
      have ezb : zb.cell? ⟨w.heap.size, 6, none⟩ = some (.slice D np cp) := hxb.cell 6
      have Pb := Lib.hid pb
      have BZb := Lib.hid (BBb.out.trans hbb)
      have XZb := Lib.hid hxb
      clear pb hgb hbb hxb
      refine hK.out _ _ (by exact ezb) (fun hHeld => ?_)
      clear hK K
      try simp only [Act.put, List.setIfInBounds_toArray, List.set_cons_zero, List.set_cons_succ]
      refine wpAnyH_ready (rs := [8]) (by kernel_rfl) (by simp) ?_
      refine AllReadyH.cons (o := _) rfl (fun K hK => ?_) AllReadyH.nil
      go_simp
      refine hK.out _ _ (by exact ezb) (fun hHeld => ?_)
      clear hK K
      try simp only [Act.put, List.setIfInBounds_toArray, List.set_cons_zero, List.set_cons_succ]
      refine wpAnyH_ready (rs := [9]) (by kernel_rfl) (by simp) ?_
      refine AllReadyH.cons (o := _) rfl (fun K hK => ?_) AllReadyH.nil
      go_simp
      refine hK.out _ _ (by exact ezb) (fun hHeld => ?_)
      clear hK K
      try simp only [Act.put, List.setIfInBounds_toArray, List.set_cons_zero, List.set_cons_succ]
      refine wpAnyH_done (by kernel_rfl) ?_ _
      go_wp2_with fail
      go_ret2
      have hfin := Pb.out
      rw [← octs_append] at hfin
      have hbs : pre ++ [(nc : Int) / 256, (nc : Int) % 256] ++ code ++ [(np : Int) / 256, (np : Int) % 256] ++ post = BS := by
        rw [← HBS.out, HPRE.out, HS2.out, HS1.out, HS0.out]
        simp [two]
      rw [hbs] at hfin
      have hlen : mm + 2 + nc + 2 + np = BS.length := by have := hfin.1; rw [octs_length] at this; omega
      rw [hlen] at hfin
      obtain ⟨A2, c2, rfl, hc2⟩ := own_slice hfin
      exact ⟨⟨A2, c2, rfl, hc2, own_base hfin HB1.out.size⟩, HB1.out.trans (BZb.out.mono HB1.out.size)⟩
end Go.Proofs.Ytaiekpdoljleeaa
