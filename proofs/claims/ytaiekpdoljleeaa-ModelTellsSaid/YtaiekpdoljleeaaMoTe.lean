/- ModelTells' walk: any model, any bytes: true; nothing that was there is written. No condition. -/
import Derived.Test.YtaiekpdoljleeaaMoTf
import Derived.Test.YtaiekpdoljleeaaMoBa
namespace Go.Proofs.Ytaiekpdoljleeaa
open Go.RowKit Go.WideShapes
set_option linter.unusedVariables false
set_option linter.unusedSimpArgs false
structure TB (g2 g5 g11 g14 : Nat) (v2 v5 v11 v14 : Array Value) (w : World) : Prop where
  b2 : Blk w g2 58 v2
  b5 : Blk w g5 58 v5
  b11 : Blk w g11 58 v11
  b14 : Blk w g14 58 v14
theorem TB.below {g2 g5 g11 g14 : Nat} {v2 v5 v11 v14 : Array Value} {w w' : World} (h : TB g2 g5 g11 g14 v2 v5 v11 v14 w) (hb : Below w.heap.size w w') : TB g2 g5 g11 g14 v2 v5 v11 v14 w' := ⟨h.b2.below hb, h.b5.below hb, h.b11.below hb, h.b14.below hb⟩
theorem keep28 {g2 g5 g11 g14 : Nat} {a0 a1 a2 a3 a4 a5 a6 b0 b1 b2 b3 b4 b5 b6 c0 c1 c2 c3 c4 c5 c6 d0 d1 d2 d3 d4 d5 d6 : Value} {w : World} (h : TB g2 g5 g11 g14 #[a0, a1, a2, a3, a4, a5, a6] #[b0, b1, b2, b3, b4, b5, b6] #[c0, c1, c2, c3, c4, c5, c6] #[d0, d1, d2, d3, d4, d5, d6] w) : w.cell? ⟨g2, 0, none⟩ = some a0 ∧ w.cell? ⟨g2, 1, none⟩ = some a1 ∧ w.cell? ⟨g2, 2, none⟩ = some a2 ∧ w.cell? ⟨g2, 3, none⟩ = some a3 ∧ w.cell? ⟨g2, 4, none⟩ = some a4 ∧ w.cell? ⟨g2, 5, none⟩ = some a5 ∧ w.cell? ⟨g2, 6, none⟩ = some a6 ∧ w.cell? ⟨g5, 0, none⟩ = some b0 ∧ w.cell? ⟨g5, 1, none⟩ = some b1 ∧ w.cell? ⟨g5, 2, none⟩ = some b2 ∧ w.cell? ⟨g5, 3, none⟩ = some b3 ∧ w.cell? ⟨g5, 4, none⟩ = some b4 ∧ w.cell? ⟨g5, 5, none⟩ = some b5 ∧ w.cell? ⟨g5, 6, none⟩ = some b6 ∧ w.cell? ⟨g11, 0, none⟩ = some c0 ∧ w.cell? ⟨g11, 1, none⟩ = some c1 ∧ w.cell? ⟨g11, 2, none⟩ = some c2 ∧ w.cell? ⟨g11, 3, none⟩ = some c3 ∧ w.cell? ⟨g11, 4, none⟩ = some c4 ∧ w.cell? ⟨g11, 5, none⟩ = some c5 ∧ w.cell? ⟨g11, 6, none⟩ = some c6 ∧ w.cell? ⟨g14, 0, none⟩ = some d0 ∧ w.cell? ⟨g14, 1, none⟩ = some d1 ∧ w.cell? ⟨g14, 2, none⟩ = some d2 ∧ w.cell? ⟨g14, 3, none⟩ = some d3 ∧ w.cell? ⟨g14, 4, none⟩ = some d4 ∧ w.cell? ⟨g14, 5, none⟩ = some d5 ∧ w.cell? ⟨g14, 6, none⟩ = some d6 :=
  ⟨h.b2.cell 0, h.b2.cell 1, h.b2.cell 2, h.b2.cell 3, h.b2.cell 4, h.b2.cell 5, h.b2.cell 6, h.b5.cell 0, h.b5.cell 1, h.b5.cell 2, h.b5.cell 3, h.b5.cell 4, h.b5.cell 5, h.b5.cell 6, h.b11.cell 0, h.b11.cell 1, h.b11.cell 2, h.b11.cell 3, h.b11.cell 4, h.b11.cell 5, h.b11.cell 6, h.b14.cell 0, h.b14.cell 1, h.b14.cell 2, h.b14.cell 3, h.b14.cell 4, h.b14.cell 5, h.b14.cell 6⟩
theorem code_cells {cur : Array Value} {n : Nat} {l : List Int} (ht : cur.toList.take (n * 1) = octs l) (hn : l.length = n) : ∀ i, i < n → ∃ x, cur[i]? = some (.int .u8 x) := by
  intro i hi
  have h := octs_at (l := l) (k := i) (by omega)
  rw [← ht, List.getElem?_take, if_pos (by omega)] at h
  exact ⟨_, by simpa using h⟩
set_option maxRecDepth 100000 in
set_option maxHeartbeats 16000000 in
theorem tells8 (d : Md) (A B D : Option Addr) (c cc cp : Nat) (bs : List Int) (E : Option Addr) (nb cb : Nat) (w : World) (hok : ∀ t ∈ d.ts, t.ok) (hm : MdR d A B D w) (hnb : nb = bs.length) (hnc : nb ≤ cb) (hcb : cb ≤ 9223372036854775807) (ho : Oct bs) (hr : Rd w E (octs bs)) (hl1 : d.ts.length ≤ 9223372036854775807) (hl2 : d.code.length ≤ 9223372036854775807) (hl3 : d.post.length ≤ 9223372036854775807) :
    Calls Try.prog 8 #[d.val A B D c cc cp, .slice E nb cb] w (Quiet (.bool true) w) := by
  have HOK := Lib.hid hok
  have HMR := Lib.hid hm
  have HNB := Lib.hid hnb
  have HO := Lib.hid ho
  have HR := Lib.hid hr
  clear hok hm hnb ho hr
  unfold Md.val mdV
  obtain ⟨n, hn⟩ : ∃ n, d.ts.length = n := ⟨_, rfl⟩
  obtain ⟨nc, hnc2⟩ : ∃ n, d.code.length = n := ⟨_, rfl⟩
  obtain ⟨np, hnp⟩ : ∃ n, d.post.length = n := ⟨_, rfl⟩
  rw [hn] at hl1 ⊢
  rw [hnc2] at hl2 ⊢
  rw [hnp] at hl3 ⊢
  have HN := Lib.hid hn.symm
  have HNC := Lib.hid hnc2.symm
  have HNP := Lib.hid hnp.symm
  have HX0 := Lib.hid (Blk.new w 58 #[.int .i64 d.h, .int .i64 d.m, .int .i64 d.ph, .int .i64 d.pm, .slice A n c, .slice B nc cc, .slice D np cp])
  clear hn hnc2 hnp
  by_cases g1 : 300 < n
  · have qg1 : decide ((300 : Int) < (n : Int)) = true := by simp; omega
    go_enter Try.func8, Try.ntmps8
    go_wp2_with fail
    refine (awake33 _).mono ?_
    rintro e w1 ⟨rfl, hb1⟩
    have B1 := Lib.hid (((Below.refl w.heap.size w).alloc (Nat.le_refl _) _).trans (hb1.mono (by simp)))
    clear hb1
    go_wp2_with fail
    go_ret
    exact ⟨rfl, B1.out⟩
  · have qg1 : decide ((300 : Int) < (n : Int)) = false := by simp; omega
    by_cases g2 : 10000 < nc
    · have qg2 : decide ((10000 : Int) < (nc : Int)) = true := by simp; omega
      go_enter Try.func8, Try.ntmps8
      go_wp2_with fail
      refine (awake33 _).mono ?_
      rintro e w1 ⟨rfl, hb1⟩
      have B1 := Lib.hid (((Below.refl w.heap.size w).alloc (Nat.le_refl _) _).trans (hb1.mono (by simp)))
      clear hb1
      go_wp2_with fail
      go_ret
      exact ⟨rfl, B1.out⟩
    · have qg2 : decide ((10000 : Int) < (nc : Int)) = false := by simp; omega
      by_cases g3 : 10000 < np
      · have qg3 : decide ((10000 : Int) < (np : Int)) = true := by simp; omega
        go_enter Try.func8, Try.ntmps8
        go_wp2_with fail
        refine (awake33 _).mono ?_
        rintro e w1 ⟨rfl, hb1⟩
        have B1 := Lib.hid (((Below.refl w.heap.size w).alloc (Nat.le_refl _) _).trans (hb1.mono (by simp)))
        clear hb1
        go_wp2_with fail
        go_ret
        exact ⟨rfl, B1.out⟩
      · have qg3 : decide ((10000 : Int) < (np : Int)) = false := by simp; omega
        by_cases g4 : 20000 < nb
        · have qg4 : decide ((20000 : Int) < (nb : Int)) = true := by simp; omega
          go_enter Try.func8, Try.ntmps8
          go_wp2_with fail
          refine (awake33 _).mono ?_
          rintro e w1 ⟨rfl, hb1⟩
          have B1 := Lib.hid (((Below.refl w.heap.size w).alloc (Nat.le_refl _) _).trans (hb1.mono (by simp)))
          clear hb1
          go_wp2_with fail
          go_ret
          exact ⟨rfl, B1.out⟩
        · have qg4 : decide ((20000 : Int) < (nb : Int)) = false := by simp; omega
          have hc34 := copy34 d A B D n c nc cc np cp (w.alloc (.cells #[.int .i64 d.h, .int .i64 d.m, .int .i64 d.ph, .int .i64 d.pm, .slice A n c, .slice B nc cc, .slice D np cp] 58)) HN.out HNC.out HNP.out (HMR.out.alloc _) (by omega) (by omega) (by omega)
          unfold mdV at hc34
          have H34 := Lib.hid hc34
          clear hc34
          go_enter Try.func8, Try.ntmps8
          go_wp2_with fail
          refine H34.out.mono ?_
          rintro e w2 ⟨⟨A2, B2, D2, c2, cc2, cp2, rfl, hm2⟩, hb2⟩
          have M2 := Lib.hid hm2
          have X2 := Lib.hid (HX0.out.below hb2)
          have W2 := Lib.hid (((Below.refl w.heap.size w).alloc (Nat.le_refl _) (.cells #[.int .i64 d.h, .int .i64 d.m, .int .i64 d.ph, .int .i64 d.pm, .slice A n c, .slice B nc cc, .slice D np cp] 58)).trans (hb2.mono (by simp)))
          clear hb2 hm2
          unfold Md.val mdV
          simp only [← HN.out, ← HNC.out, ← HNP.out]
          go_wp2_with fail
          refine (copyB bs E nb cb w2 HNB.out (HR.out.below W2.out rfl) (by omega)).mono ?_
          rintro e w3 ⟨⟨A3, c3, rfl, hc3, o3⟩, hb3⟩
          have R3 := Lib.hid (Rd.of_own o3)
          have hcap3 := own_cap o3
          have M3 := Lib.hid (M2.out.below hb3)
          have X3 := Lib.hid (X2.out.below hb3)
          have W3 := Lib.hid (ch0 W2.out hb3)
          have F3 := Lib.hid (Blk.new w3 58 #[.int .i64 d.h, .int .i64 d.m, .int .i64 d.ph, .int .i64 d.pm, .slice A2 n c2, .slice B2 nc cc2, .slice D2 np cp2])
          have hput35 := put35g d A2 B2 D2 n c2 nc cc2 np cp2 (w3.alloc (.cells #[.int .i64 d.h, .int .i64 d.m, .int .i64 d.ph, .int .i64 d.pm, .slice A2 n c2, .slice B2 nc cc2, .slice D2 np cp2] 58)) HN.out HNC.out HNP.out HOK.out (M3.out.alloc _) (by omega) (by omega) (by omega)
          have hput36 := fun W (hW : Below w.heap.size w W) => put36g d A B D n c nc cc np cp W HN.out HNC.out HNP.out (HMR.out.below hW) (by omega) (by omega) (by omega)
          unfold mdV at hput35 hput36
          obtain ⟨X, hX⟩ : ∃ X, putX d = X := ⟨_, rfl⟩
          obtain ⟨T, hT⟩ : ∃ T, rightM d = T := ⟨_, rfl⟩
          have hpl := putX_len d
          rw [hX] at hpl
          obtain ⟨LX, hLX⟩ : ∃ l, X.length = l := ⟨_, rfl⟩
          have HLX := Lib.hid hLX.symm
          rw [hLX] at hpl
          have HPL := Lib.hid hpl
          unfold IsPut at hput35 hput36
          rw [hX, hT, hLX] at hput35
          simp only [hX, hT, hLX] at hput36
          have HT := Lib.hid hT
          have H35 := Lib.hid hput35
          have H36 := Lib.hid hput36
          clear o3 hb3 hput35 hput36 hX hT hpl hLX
          go_wp2_with fail
          refine H35.out.mono ?_
          rintro e w4 ⟨⟨A4, c4, rfl, hr4⟩, hb4⟩
          have R4 := Lib.hid hr4
          have F4 := Lib.hid (F3.out.below hb4)
          have X4 := Lib.hid ((X3.out.alloc _).below hb4)
          have L4 := Lib.hid (((Below.refl w3.heap.size w3).alloc (Nat.le_refl _) (.cells #[.int .i64 d.h, .int .i64 d.m, .int .i64 d.ph, .int .i64 d.pm, .slice A2 n c2, .slice B2 nc cc2, .slice D2 np cp2] 58)).trans (hb4.mono (by simp)))
          have W4 := Lib.hid (ch0 W3.out L4.out)
          have hx4 := X4.out
          have k0 := hx4.cell 0
          have k1 := hx4.cell 1
          have k2 := hx4.cell 2
          have k3 := hx4.cell 3
          have k4 := hx4.cell 4
          have k5 := hx4.cell 5
          have k6 := hx4.cell 6
          have klt := hx4.lt
          simp at k0 k1 k2 k3 k4 k5 k6
          clear hr4 hb4 hx4
          go_wp2_with fail
          refine (H36.out w4 W4.out).mono ?_
          rintro e w5 ⟨⟨A5, c5, rfl, hr5⟩, hb5⟩
          have R5 := Lib.hid hr5
          have R45 := Lib.hid (R4.out.below hb5 rfl)
          have F5 := Lib.hid (F4.out.below hb5)
          have X5 := Lib.hid (X4.out.below hb5)
          have L5 := Lib.hid (ch0 L4.out hb5)
          have W5 := Lib.hid (ch0 W4.out hb5)
          have hget := get37 bs A3 nb c3 w5 HNB.out hc3 (R3.out.below L5.out rfl) HO.out (by omega) hcap3
          have hget2 := fun W (hW : Below w.heap.size w W) => get38 bs E nb cb W HNB.out hnc (HR.out.below hW rfl) HO.out (by omega) hcb
          have hsm := get_small bs
          obtain ⟨r, hr⟩ : ∃ r, getM bs = r := ⟨_, rfl⟩
          rw [hr] at hget hsm
          simp only [hr] at hget2
          obtain ⟨p, k, x⟩ := r
          simp only at hsm
          have H37 := Lib.hid hget
          have H38 := Lib.hid hget2
          have HSM := Lib.hid hsm
          clear k0 k1 k2 k3 k4 k5 k6 klt hr5 hb5 hget hget2 hsm hr
          go_wp2_with fail
          refine H37.out.mono ?_
          rintro e w6 ⟨⟨A6, B6, D6, c6, cc6, cp6, rfl, hc6, hp6, ho6, hq6⟩, hb6⟩
          simp only at hc6 hp6 ho6 hq6 ⊢
          obtain ⟨nq, hnq⟩ : ∃ n, p.ts.length = n := ⟨_, rfl⟩
          obtain ⟨nqc, hnqc⟩ : ∃ n, p.code.length = n := ⟨_, rfl⟩
          obtain ⟨nqp, hnqp⟩ : ∃ n, p.post.length = n := ⟨_, rfl⟩
          have P6 : Hid (MdR p A6 B6 D6 w6) := Lib.hid ⟨hp6, Rd.of_own ho6, Rd.of_own hq6⟩
          rw [hnqc] at ho6
          have O6 := Lib.hid ho6
          have R456 := Lib.hid (R45.out.below hb6 rfl)
          have R56 := Lib.hid (R5.out.below hb6 rfl)
          have F6 := Lib.hid (F5.out.below hb6)
          have X6 := Lib.hid (X5.out.below hb6)
          have L6 := Lib.hid (ch0 L5.out hb6)
          have W6 := Lib.hid (ch0 W5.out hb6)
          have hs5 : w3.heap.size ≤ w5.heap.size := L5.out.size
          have HS5 := Lib.hid hs5
          have HS6 := Lib.hid hb6.size
          have P11 := Lib.hid (Blk.new w6 58 #[.int .i64 p.h, .int .i64 p.m, .int .i64 p.ph, .int .i64 p.pm, .slice A6 nq c6, .slice B6 nqc cc6, .slice D6 nqp cp6])
          have HNQ := Lib.hid hnq
          have HNQC := Lib.hid hnqc
          have HNQP := Lib.hid hnqp
          unfold mdV
          simp only [hnq, hnqc, hnqp]
          clear hc6 hp6 ho6 hq6 hb6 hnq hnqc hnqp hs5
          go_wp2_with fail
          refine (H38.out _ (W6.out.alloc W6.out.size (.cells #[.int .i64 p.h, .int .i64 p.m, .int .i64 p.ph, .int .i64 p.pm, .slice A6 nq c6, .slice B6 nqc cc6, .slice D6 nqp cp6] 58))).mono ?_
          rintro e w7 ⟨⟨A7, B7, D7, c7, cc7, cp7, rfl, hc7, hp7, ho7, hq7⟩, hb7⟩
          simp only at hc7 hp7 ho7 hq7 ⊢
          have P7 : Hid (MdR p A7 B7 D7 w7) := Lib.hid ⟨hp7, Rd.of_own ho7, Rd.of_own hq7⟩
          have P67 := Lib.hid ((P6.out.alloc (.cells #[.int .i64 p.h, .int .i64 p.m, .int .i64 p.ph, .int .i64 p.pm, .slice A6 nq c6, .slice B6 nqc cc6, .slice D6 nqp cp6] 58)).below hb7)
          have O67 := Lib.hid (own_below O6.out (((Below.refl w6.heap.size w6).alloc (Nat.le_refl _) (.cells #[.int .i64 p.h, .int .i64 p.m, .int .i64 p.ph, .int .i64 p.pm, .slice A6 nq c6, .slice B6 nqc cc6, .slice D6 nqp cp6] 58)).trans (hb7.mono (by simp))))
          have R47 := Lib.hid ((R456.out.alloc (.cells #[.int .i64 p.h, .int .i64 p.m, .int .i64 p.ph, .int .i64 p.pm, .slice A6 nq c6, .slice B6 nqc cc6, .slice D6 nqp cp6] 58)).below hb7 rfl)
          have R57 := Lib.hid ((R56.out.alloc (.cells #[.int .i64 p.h, .int .i64 p.m, .int .i64 p.ph, .int .i64 p.pm, .slice A6 nq c6, .slice B6 nqc cc6, .slice D6 nqp cp6] 58)).below hb7 rfl)
          have L7 := Lib.hid ((L6.out.alloc L6.out.size (.cells #[.int .i64 p.h, .int .i64 p.m, .int .i64 p.ph, .int .i64 p.pm, .slice A6 nq c6, .slice B6 nqc cc6, .slice D6 nqp cp6] 58)).trans (hb7.mono (by have := L6.out.size; simp; omega)))
          have W7 := Lib.hid (ch0 W3.out L7.out)
          have TBa : Hid (TB w.heap.size w3.heap.size w6.heap.size w7.heap.size #[.int .i64 d.h, .int .i64 d.m, .int .i64 d.ph, .int .i64 d.pm, .slice A n c, .slice B nc cc, .slice D np cp] #[.int .i64 d.h, .int .i64 d.m, .int .i64 d.ph, .int .i64 d.pm, .slice A2 n c2, .slice B2 nc cc2, .slice D2 np cp2] #[.int .i64 p.h, .int .i64 p.m, .int .i64 p.ph, .int .i64 p.pm, .slice A6 nq c6, .slice B6 nqc cc6, .slice D6 nqp cp6] #[.int .i64 p.h, .int .i64 p.m, .int .i64 p.ph, .int .i64 p.pm, .slice A7 nq c7, .slice B7 nqc cc7, .slice D7 nqp cp7] (w7.alloc (.cells #[.int .i64 p.h, .int .i64 p.m, .int .i64 p.ph, .int .i64 p.pm, .slice A7 nq c7, .slice B7 nqc cc7, .slice D7 nqp cp7] 58))) := Lib.hid ⟨((X6.out.alloc _).below hb7).alloc _, ((F6.out.alloc _).below hb7).alloc _, (P11.out.below hb7).alloc _, Blk.new w7 58 #[.int .i64 p.h, .int .i64 p.m, .int .i64 p.ph, .int .i64 p.pm, .slice A7 nq c7, .slice B7 nqc cc7, .slice D7 nqp cp7]⟩
          have hs67 : w6.heap.size ≤ w7.heap.size := by have := hb7.size; simp at this; omega
          have HS67 := Lib.hid hs67
          unfold mdV
          simp only [HNQ.out, HNQC.out, HNQP.out]
          obtain ⟨WA, hWA⟩ : ∃ x, w7.alloc (.cells #[.int .i64 p.h, .int .i64 p.m, .int .i64 p.ph, .int .i64 p.pm, .slice A7 nq c7, .slice B7 nqc cc7, .slice D7 nqp cp7] 58) = x := ⟨_, rfl⟩
          have hWb : Below w7.heap.size w7 WA := by rw [← hWA]; exact (Below.refl _ _).alloc (Nat.le_refl _) _
          have h39 := fun W (hW : Below WA.heap.size WA W) => right39 d A2 B2 D2 n c2 nc cc2 np cp2 W HN.out HNC.out HNP.out HOK.out ((M3.out.below (ch0 (ch0 L7.out hWb) hW)).p) (by omega) (by omega) (by omega)
          have h40 := fun W (hW : Below WA.heap.size WA W) => right40 d A B D n c nc cc np cp W HN.out HNC.out HNP.out ((HMR.out.below (ch0 (ch0 W7.out hWb) hW)).p) (by omega) (by omega) (by omega)
          have h24 := fun W (hW : Below WA.heap.size WA W) => sameB1 X A4 A5 LX LX c4 c5 W HLX.out HLX.out (R47.out.below (ch0 hWb hW) rfl) (R57.out.below (ch0 hWb hW) rfl) (by have := HLX.out; have := HPL.out; omega)
          have h41 := fun W (hW : Below WA.heap.size WA W) => same41 p A6 B6 D6 A7 B7 D7 c6 cc6 cp6 c7 cc7 cp7 W (P67.out.below (ch0 hWb hW)) (P7.out.below (ch0 hWb hW)) (by have := HSM.out; omega) (by have := HSM.out; omega) (by have := HSM.out; omega)
          have h42 := fun W (hW : Below WA.heap.size WA W) => same41 d A2 B2 D2 A B D c2 cc2 cp2 c cc cp W (M3.out.below (ch0 (ch0 L7.out hWb) hW)) (HMR.out.below (ch0 (ch0 W7.out hWb) hW)) (by have := HN.out; omega) (by have := HNC.out; omega) (by have := HNP.out; omega)
          rw [HT.out] at h39 h40
          unfold mdV at h39 h40
          unfold Md.val mdV at h41 h42
          simp only [HNQ.out, HNQC.out, HNQP.out] at h41
          simp only [← HN.out, ← HNC.out, ← HNP.out] at h42
          rw [hWA] at TBa
          have HWA := Lib.hid hWA
          have HWb := Lib.hid hWb
          have H39 := Lib.hid h39
          have H40 := Lib.hid h40
          have H24 := Lib.hid h24
          have H41 := Lib.hid h41
          have H42 := Lib.hid h42
          have M0 := Lib.hid (Below.drew' (Below.refl WA.heap.size WA))
          have t1 : (T != T) = false := by simp
          have t2 : (k != k) = false := by simp
          have t3 : (x != x) = false := by simp
          clear hc7 hp7 ho7 hq7 hb7 hs67 hWb h39 h40 h24 h41 h42 hWA
          go_wp2_with fail
          rw [HWA.out]
          go_region_held3 (fun w' => w'.cell? ⟨w.heap.size, 0, none⟩ = some (.int .i64 d.h) ∧ w'.cell? ⟨w.heap.size, 1, none⟩ = some (.int .i64 d.m) ∧ w'.cell? ⟨w.heap.size, 2, none⟩ = some (.int .i64 d.ph) ∧ w'.cell? ⟨w.heap.size, 3, none⟩ = some (.int .i64 d.pm) ∧ w'.cell? ⟨w.heap.size, 4, none⟩ = some (.slice A n c) ∧ w'.cell? ⟨w.heap.size, 5, none⟩ = some (.slice B nc cc) ∧ w'.cell? ⟨w.heap.size, 6, none⟩ = some (.slice D np cp) ∧ w'.cell? ⟨w3.heap.size, 0, none⟩ = some (.int .i64 d.h) ∧ w'.cell? ⟨w3.heap.size, 1, none⟩ = some (.int .i64 d.m) ∧ w'.cell? ⟨w3.heap.size, 2, none⟩ = some (.int .i64 d.ph) ∧ w'.cell? ⟨w3.heap.size, 3, none⟩ = some (.int .i64 d.pm) ∧ w'.cell? ⟨w3.heap.size, 4, none⟩ = some (.slice A2 n c2) ∧ w'.cell? ⟨w3.heap.size, 5, none⟩ = some (.slice B2 nc cc2) ∧ w'.cell? ⟨w3.heap.size, 6, none⟩ = some (.slice D2 np cp2) ∧ w'.cell? ⟨w6.heap.size, 0, none⟩ = some (.int .i64 p.h) ∧ w'.cell? ⟨w6.heap.size, 1, none⟩ = some (.int .i64 p.m) ∧ w'.cell? ⟨w6.heap.size, 2, none⟩ = some (.int .i64 p.ph) ∧ w'.cell? ⟨w6.heap.size, 3, none⟩ = some (.int .i64 p.pm) ∧ w'.cell? ⟨w6.heap.size, 4, none⟩ = some (.slice A6 nq c6) ∧ w'.cell? ⟨w6.heap.size, 5, none⟩ = some (.slice B6 nqc cc6) ∧ w'.cell? ⟨w6.heap.size, 6, none⟩ = some (.slice D6 nqp cp6) ∧ w'.cell? ⟨w7.heap.size, 0, none⟩ = some (.int .i64 p.h) ∧ w'.cell? ⟨w7.heap.size, 1, none⟩ = some (.int .i64 p.m) ∧ w'.cell? ⟨w7.heap.size, 2, none⟩ = some (.int .i64 p.ph) ∧ w'.cell? ⟨w7.heap.size, 3, none⟩ = some (.int .i64 p.pm) ∧ w'.cell? ⟨w7.heap.size, 4, none⟩ = some (.slice A7 nq c7) ∧ w'.cell? ⟨w7.heap.size, 5, none⟩ = some (.slice B7 nqc cc7) ∧ w'.cell? ⟨w7.heap.size, 6, none⟩ = some (.slice D7 nqp cp7)) (first | exact keep28 (TBa.out.below M12.out) | exact keep28 (TBa.out.below M11.out) | exact keep28 (TBa.out.below M10.out) | exact keep28 (TBa.out.below M9.out) | exact keep28 (TBa.out.below M8.out) | exact keep28 (TBa.out.below M0.out)) ((first | (go_at_call 39; refine (H39.out _ M0.out).mono ?_; rintro e w8 ⟨rfl, hb8⟩; have M8 := Lib.hid (ch0 M0.out hb8); clear hb8) | (go_at_call 40; refine (H40.out _ M8.out).mono ?_; rintro e w9 ⟨rfl, hb9⟩; have M9 := Lib.hid (ch0 M8.out hb9); clear hb9) | (go_at_call 24; refine (H24.out _ M9.out).mono ?_; rintro e w10 ⟨rfl, hb10⟩; have M10 := Lib.hid (ch0 M9.out hb10); clear hb10) | (go_at_call 41; refine (H42.out _ M11.out).mono ?_; rintro e w12 ⟨rfl, hb12⟩; have M12 := Lib.hid (ch0 M11.out hb12); clear hb12) | (go_at_call 41; refine (H41.out _ M10.out).mono ?_; rintro e w11 ⟨rfl, hb11⟩; have M11 := Lib.hid (ch0 M10.out hb11); clear hb11)))
          rename_i hHeld
          clear hHeld
          have L12 := Lib.hid (ch0 (ch0 L7.out HWb.out) M12.out)
          have W12 := Lib.hid (ch0 W3.out L12.out)
          have tb := TBa.out.below M12.out
          have e5 := tb.b11.cell 5
          simp at e5
          have O12 := Lib.hid (own_below O67.out (ch0 HWb.out M12.out))
          have hq63 : nqc ≤ 4096 := by have := HSM.out; have := HNQC.out; omega
          have B11 := Lib.hid tb.b11
          clear tb
          have hoo := O12.out.2
          rcases hoo with ⟨hv, _⟩ | ⟨gC, cap, cur, hv, hgC, hcur, hcap, _, _, _⟩
          · injection hv with hv1 hv2 hv3
            subst hv1 hv2 hv3
            obtain ⟨wr, hwr⟩ : ∃ x, w12 = x := ⟨_, rfl⟩
            subst hwr
            have R3w := Lib.hid (R3.out.below L12.out rfl)
            have REw := Lib.hid (HR.out.below W12.out rfl)
            have BW := Lib.hid W12.out
            go_wp2_with fail
            go_loopw [107] (fun i wr => i = .int .i64 0 ∧ wr = w12) (fun _ _ => 0)
            case atStart => exact ⟨rfl, rfl⟩
            case round =>
              obtain ⟨rfl, rfl⟩ := hrel
              go_wp2_with fail
              refine (sameB1 bs A3 E nb nb c3 cb wr HNB.out HNB.out R3w.out REw.out (by have := HNB.out; omega)).mono ?_
              rintro e w13 ⟨rfl, hb13⟩
              have B13 := Lib.hid (ch0 BW.out hb13)
              clear hb13
              go_wp2_with fail
              refine (awake33 _).mono ?_
              rintro e w14 ⟨rfl, hb14⟩
              have B14 := Lib.hid (ch0 B13.out hb14)
              clear hb14
              go_wp2_with fail
              go_ret
              exact ⟨rfl, B14.out⟩
          · injection hv with hv1 hv2 hv3
            subst hv1 hv3
            obtain ⟨cur0, hbC, htC, hgC2⟩ := own_blk O12.out
            have hcc0 := code_cells htC HNQC.out
            have hneC : ¬ w6.heap.size = gC := Blk.ne B11.out hbC (by decide)
            have HB0 := Lib.hid hbC
            have HC0 := Lib.hid hcc0
            clear hcur htC hbC hcc0
            go_wp2_with fail
            go_loopw [107] (fun i wr => ∃ (j : Nat) (cur : Array Value), j ≤ nqc ∧ i = .int .i64 j ∧ Frm (fun k => k = gC) w12 wr ∧ Blk wr gC 5 cur ∧ ∀ i, i < nqc → ∃ x, cur[i]? = some (.int .u8 x)) (fun i _ => nqc - (intOf i).toNat)
            case atStart => exact ⟨0, cur0, by omega, rfl, Frm.refl _ _, HB0.out, HC0.out⟩
            case round =>
              obtain ⟨j, cur, hj, rfl, hf, hb, hcc⟩ := hrel
              have HF := Lib.hid hf
              have HB := Lib.hid hb
              have HCC := Lib.hid hcc
              have e6 : wr.cell? ⟨w6.heap.size, 5, none⟩ = some (.slice (some ⟨gC, 0, none⟩) nqc cc6) := by
                have := (B11.out.frm hf hneC).cell 5
                simpa using this
              by_cases hlt : j < nqc
              · obtain ⟨x9, hx9⟩ := hcc j hlt
                have c9 : wr.cell? ⟨gC, j, none⟩ = some (.int .u8 x9) := by rw [hb.cell j]; exact hx9
                have f9 := hb.frozen j
                have hai : (j : Int) < (nqc : Int) := by omega
                have hjs : j < cur.size := (Array.getElem?_eq_some_iff.1 hx9).1
                have HJS := Lib.hid hjs
                clear hf hb hcc hx9 hjs
                go_wp2_with fail
                go_roundw
                case rel =>
                  refine ⟨j + 1, cur.setIfInBounds j _, by omega, by go_num, HF.out.setCell (p := ⟨gC, j, none⟩) (fun _ => rfl) _, HB.out.set j _, ?_⟩
                  intro i hi
                  by_cases hij : j = i
                  · subst hij
                    exact ⟨_, by rw [Array.getElem?_setIfInBounds_self_of_lt HJS.out]⟩
                  · rw [Array.getElem?_setIfInBounds_ne hij]
                    exact HCC.out i hi
                case measure => simp [intOf]; omega
              · have qlt : decide ((j : Int) < (nqc : Int)) = false := by simp; omega
                have hbw : Below w3.heap.size w3 wr := L12.out.trans (HF.out.to_below L12.out.size (fun k hk => by have := HS5.out; omega))
                have R3w := Lib.hid (R3.out.below hbw rfl)
                have BW := Lib.hid (W12.out.trans (HF.out.to_below W12.out.size (fun k hk => by have := HS5.out; have := W3.out.size; omega)))
                have REw := Lib.hid (HR.out.below BW.out rfl)
                clear hf hb hcc hbw
                go_wp2_with fail
                refine (sameB1 bs A3 E nb nb c3 cb wr HNB.out HNB.out R3w.out REw.out (by have := HNB.out; omega)).mono ?_
                rintro e w13 ⟨rfl, hb13⟩
                have B13 := Lib.hid (ch0 BW.out hb13)
                clear hb13
                go_wp2_with fail
                refine (awake33 _).mono ?_
                rintro e w14 ⟨rfl, hb14⟩
                have B14 := Lib.hid (ch0 B13.out hb14)
                clear hb14
                go_wp2_with fail
                go_ret
                exact ⟨rfl, B14.out⟩
end Go.Proofs.Ytaiekpdoljleeaa
