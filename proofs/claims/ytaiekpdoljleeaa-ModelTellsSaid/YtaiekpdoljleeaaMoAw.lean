/- The chapter's examples of models: the walk. No condition. -/
import Derived.Test.YtaiekpdoljleeaaMoSm
import Derived.Test.YtaiekpdoljleeaaHeld
import Derived.Deep.RegionLaw
namespace Go.Proofs.Ytaiekpdoljleeaa
open Go.RowKit Go.WideShapes
set_option linter.unusedVariables false
set_option linter.unusedSimpArgs false
theorem own_cap {w : World} {base n c : Nat} {e : TypeId} {size : Nat} {A : Option Addr} {xs : List Value} (h : w.ownsRow base e size (.slice A n c) n xs) : c ≤ 9223372036854775807 := by
  rcases h.2 with ⟨h1, _⟩ | ⟨g, cap, cur, h1, _, _, _, hc, _⟩
  · injection h1 with _ _ h3; omega
  · injection h1 with _ _ h3
    unfold maxLen at hc
    omega
def plainB : List Int := [0, 0, 0, 0, 1, 1, 8, 5, 0, 1, 0, 0, 0]
def twiceM : Md := ⟨0, 0, 0, 0, [⟨1, 0, 0, 0, 5, 0, 0⟩, ⟨1, 0, 0, 0, 5, 0, 0⟩], [0], []⟩
theorem plain_bytes : bytesM plainM = plainB := by decide +kernel
theorem plain_right : rightM plainM = 0 := by decide +kernel
theorem twice_right : rightM twiceM = 131 := by decide +kernel
theorem plain_ok : ∀ t ∈ plainM.ts, t.ok := ok_lit _ (by decide +kernel)
theorem twice_ok : ∀ t ∈ twiceM.ts, t.ok := ok_lit _ (by decide +kernel)
theorem plain_get7 : getM (plainB ++ [7]) = (plainM, 13, 0) := by
  have h := get_put plainM [7] plain_right
  rw [plain_bytes] at h
  exact h
theorem plain_cut : getM (plainB.take 12) = (Md.zero, 0, 12) := by
  have h := get_cut plainM 12 plain_right (by rw [plain_bytes]; decide)
  rwa [plain_bytes] at h
theorem plainB_oct : Oct plainB := oct_lit _ (by decide)
theorem own_of_pts {w : World} {g base : Nat} (h : Blk w g 32 (flat_pts plainM.ts).toArray) (hb : base ≤ g) : w.ownsRow base 32 7 (.slice (some ⟨g, 0, none⟩) 1 1) 1 (flat_pts plainM.ts) :=
  ⟨rfl, .inr ⟨g, 1, (flat_pts plainM.ts).toArray, rfl, hb, h, Nat.le_refl _, by simp [maxLen], rfl, rfl⟩⟩
theorem new_cells (w : World) (us : List Value) (t : TypeId) (g : Nat) (hg : g = w.heap.size) : ∀ i u, us[i]? = some u → (w.alloc (.cells us.toArray t)).cell? ⟨g, i, none⟩ = some u := fun i u hu => by
  subst hg
  rw [(Blk.new w t us.toArray).cell i]
  simpa using hu
theorem keep14 {w : World} {g g' : Nat} {a b c a' b' c' : Value} (h : Blk w g 58 #[.int .i64 0, .int .i64 0, .int .i64 0, .int .i64 0, a, b, c]) (h' : Blk w g' 58 #[.int .i64 0, .int .i64 0, .int .i64 0, .int .i64 0, a', b', c']) : w.cell? ⟨g, 0, none⟩ = some (.int .i64 0) ∧ w.cell? ⟨g, 1, none⟩ = some (.int .i64 0) ∧ w.cell? ⟨g, 2, none⟩ = some (.int .i64 0) ∧ w.cell? ⟨g, 3, none⟩ = some (.int .i64 0) ∧ w.cell? ⟨g, 4, none⟩ = some (a) ∧ w.cell? ⟨g, 5, none⟩ = some (b) ∧ w.cell? ⟨g, 6, none⟩ = some (c) ∧ w.cell? ⟨g', 0, none⟩ = some (.int .i64 0) ∧ w.cell? ⟨g', 1, none⟩ = some (.int .i64 0) ∧ w.cell? ⟨g', 2, none⟩ = some (.int .i64 0) ∧ w.cell? ⟨g', 3, none⟩ = some (.int .i64 0) ∧ w.cell? ⟨g', 4, none⟩ = some (a') ∧ w.cell? ⟨g', 5, none⟩ = some (b') ∧ w.cell? ⟨g', 6, none⟩ = some (c') :=
  ⟨h.cell 0, h.cell 1, h.cell 2, h.cell 3, h.cell 4, h.cell 5, h.cell 6, h'.cell 0, h'.cell 1, h'.cell 2, h'.cell 3, h'.cell 4, h'.cell 5, h'.cell 6⟩
/-- 'append(own, x)' as a step of a region that draws, x a struct in a block of its own. -/
theorem step_appS {P : Program} {t e : TypeId} {z : Value} {size bytes : Nat} {ops : Array Oper} {o : Oper} {a : Act} {w : World} {K : Act → World → Prop} {Q : Exit → Act → World → Prop} {E : Prop} (T : SlS P t e z size bytes) (hgd : Region.wanted o (yielded ops a.tmps) = true) (s x : Operand)
    (ho : o.op = .call { callee := .builtin .append, args := #[s, x], argTypes := #[t, t] })
    (base : Nat) (v : Value) (n : Nat) (xs : List Value) (hs : a.eval s = v) (hown : w.ownsRow base e size v n xs) (us : List Value) (hus : us.length = size) (h1 : ∀ u ∈ us, u.oneCell' = true)
    (g0 : Nat) (hx : a.eval x = .slice (some ⟨g0, 0, none⟩) 1 1) (hc : ∀ i u, us[i]? = some u → w.cell? ⟨g0, i, none⟩ = some u)
    (hby : (n + 1) * bytes ≤ 140737488355328) (h63 : n + 1 ≤ maxLen) (hbase : base ≤ w.heap.size)
    (h : ∀ v' w', w'.ownsRow base e size v' (n + 1) (xs ++ us) → w.grownBy w' v.ownBlock → K (a.put o.dst v') w') :
    if Region.wanted o (yielded ops a.tmps) = true then Oper.wp P o a w K Q else E := by
  obtain ⟨i, hi, hz, hsz, hb⟩ := info_parts T.i
  rw [if_pos hgd]
  obtain ⟨v', w', hrun, h2, h3, _, _⟩ := run_append_own_at (P := P) w base t o.type e i z size bytes T.u hi hz hsz hb T.z T.pos v n xs hown ⟨g0, 0, none⟩ 1 1 us (by simp [hus])
    (fun j y hy => by rw [addr_add, Nat.zero_add]; exact hc j y hy) h1 h63 hby hbase
  unfold Oper.wp execOp
  simp only [ho, resolve, invoke, builtin, Sem.run_bind, Sem.run_pure, Result.andThen_ok, List.map_toArray, List.map_cons, List.map_nil, hs, hx, hrun]
  exact h v' w' h2 h3
set_option maxRecDepth 100000 in
set_option maxHeartbeats 16000000 in
theorem awake33 (w : World) : Calls Try.prog 33 #[] w (Quiet (.bool true) w) := by
  go_enter Try.func33, Try.ntmps33
  go_wp2_with fail
  refine (plain55 w).mono ?_
  rintro e w1 ⟨⟨ga, gb, rfl, hm1, _, _⟩, hb1⟩
  have B1 := Lib.hid hb1
  have hput := put35_yes plainM (some ⟨ga, 0, none⟩) (some ⟨gb, 0, none⟩) none 1 1 1 1 0 0 w1 rfl rfl rfl plain_ok hm1.p hm1.c hm1.q plain_right
  rw [plain_bytes] at hput
  have HPUT := Lib.hid hput
  clear hb1 hm1 hput
  rw [show plainM.val (some ⟨ga, 0, none⟩) (some ⟨gb, 0, none⟩) none 1 1 0 = .agg #[.int .i64 0, .int .i64 0, .int .i64 0, .int .i64 0, .slice (some ⟨ga, 0, none⟩) 1 1, .slice (some ⟨gb, 0, none⟩) 1 1, .slice none 0 0] from rfl]
  go_wp2_with fail
  refine HPUT.out.mono ?_
  rintro e w2 ⟨⟨A2, c2, rfl, hc2, o2⟩, hb2⟩
  rw [show plainB.length = 13 from rfl] at *
  have R2 := Lib.hid (Rd.of_own o2)
  have HC2 := Lib.hid (own_cap o2)
  have B2 := Lib.hid (ch0 B1.out hb2)
  clear o2 hb2
  go_wp2_with fail
  refine (copyB plainB A2 13 c2 w2 rfl R2.out (by omega)).mono ?_
  rintro e w3 ⟨⟨A3, c3, rfl, hc3, o3⟩, hb3⟩
  have R3 := Lib.hid (R2.out.below hb3 rfl)
  have B3 := Lib.hid (ch0 B2.out hb3)
  have O3 := Lib.hid o3
  have LB3 := Lib.hid hb3
  clear o3 hb3
  go_wp2_with (at_builtin; refine wpList_app1 tBytes rfl (.tmp 17) (.tmp 18) rfl w2.heap.size _ 13 _ rfl O3.out (.int .u8 7) rfl _ rfl rfl (by omega) (by unfold maxLen; omega) LB3.out.size ?_; intro v4 w4 o4 hg4 hb4; obtain ⟨A4, c4, rfl, hc4⟩ := own_slice o4; have R4 := Lib.hid (Rd.of_own o4); have LB4 := LB3.out.trans hb4; have R24 := Lib.hid (R2.out.below LB4 rfl); have B4 := Lib.hid (ch0 B2.out LB4); have HC4 := Lib.hid (own_cap o4); clear o4 hg4 hb4 LB4)
  have hget := get37 (plainB ++ [7]) A4 14 c4 w4 rfl hc4 (by simpa [octs] using R4.out) (plainB_oct.append (oct_lit [7] (by decide))) (by omega) HC4.out
  rw [plain_get7] at hget
  have HGET := Lib.hid hget
  clear hget
  go_wp2_with fail
  refine HGET.out.mono ?_
  rintro e w5 ⟨⟨A5, B5', D5, c5, cc5, cp5, rfl, hc5, p5, o5, q5⟩, hb5⟩
  have M5 : Hid (MdR plainM A5 B5' D5 w5) := Lib.hid ⟨p5, Rd.of_own o5, Rd.of_own q5⟩
  have R25 := Lib.hid (R24.out.below hb5 rfl)
  have B5 := Lib.hid (ch0 B4.out hb5)
  clear p5 o5 q5 hb5
  simp only
  rw [show mdV plainM.h plainM.m plainM.ph plainM.pm (.slice A5 plainM.ts.length c5) (.slice B5' plainM.code.length cc5) (.slice D5 plainM.post.length cp5) = .agg #[.int .i64 0, .int .i64 0, .int .i64 0, .int .i64 0, .slice A5 1 c5, .slice B5' 1 cc5, .slice D5 0 cp5] from rfl]
  have X5 := Lib.hid (Blk.new w5 58 #[.int .i64 0, .int .i64 0, .int .i64 0, .int .i64 0, .slice A5 1 c5, .slice B5' 1 cc5, .slice D5 0 cp5])
  have hcut := get37 (plainB.take 12) A2 12 c2 (w5.alloc (.cells #[.int .i64 0, .int .i64 0, .int .i64 0, .int .i64 0, .slice A5 1 c5, .slice B5' 1 cc5, .slice D5 0 cp5] 58)) rfl (by omega) (by have h := (R25.out.take 12).alloc (.cells #[.int .i64 0, .int .i64 0, .int .i64 0, .int .i64 0, .slice A5 1 c5, .slice B5' 1 cc5, .slice D5 0 cp5] 58); rwa [show (octs plainB).take 12 = octs (plainB.take 12) from rfl] at h) (plainB_oct.take 12) (by omega) HC2.out
  rw [plain_cut] at hcut
  have HCUT := Lib.hid hcut
  clear hcut
  go_wp2_with fail
  refine HCUT.out.mono ?_
  rintro e w6 ⟨⟨A6, B6', D6, c6, cc6, cp6, rfl, hc6, p6, o6, q6⟩, hb6⟩
  have M6 : Hid (MdR plainM A5 B5' D5 w6) := Lib.hid ((M5.out.alloc _).below hb6)
  have X6 := Lib.hid (X5.out.below hb6)
  have R26 := Lib.hid ((R25.out.alloc _).below hb6 rfl)
  have B6 := Lib.hid (ch1 B5.out hb6)
  clear p6 o6 q6 hb6
  simp only
  rw [show mdV Md.zero.h Md.zero.m Md.zero.ph Md.zero.pm (.slice A6 Md.zero.ts.length c6) (.slice B6' Md.zero.code.length cc6) (.slice D6 Md.zero.post.length cp6) = .agg #[.int .i64 0, .int .i64 0, .int .i64 0, .int .i64 0, .slice A6 0 c6, .slice B6' 0 cc6, .slice D6 0 cp6] from rfl]
  go_wp2_with fail
  refine (plain55 _).mono ?_
  rintro e w7 ⟨⟨ha, hb, rfl, hm7, hx7, hha⟩, hb7⟩
  have LB7 := Lib.hid hb7
  have M7 := Lib.hid ((M6.out.alloc (.cells #[.int .i64 0, .int .i64 0, .int .i64 0, .int .i64 0, .slice A6 0 c6, .slice B6' 0 cc6, .slice D6 0 cp6] 58)).below hb7)
  have X7 := Lib.hid ((X6.out.alloc (.cells #[.int .i64 0, .int .i64 0, .int .i64 0, .int .i64 0, .slice A6 0 c6, .slice B6' 0 cc6, .slice D6 0 cp6] 58)).below hb7)
  have R27 := Lib.hid ((R26.out.alloc (.cells #[.int .i64 0, .int .i64 0, .int .i64 0, .int .i64 0, .slice A6 0 c6, .slice B6' 0 cc6, .slice D6 0 cp6] 58)).below hb7 rfl)
  have B7 := Lib.hid (ch1 B6.out hb7)
  have N7 := Lib.hid hm7
  have G7 := Lib.hid hx7
  have Y7 := Lib.hid (Blk.new w7 58 #[.int .i64 0, .int .i64 0, .int .i64 0, .int .i64 0, .slice (some ⟨ha, 0, none⟩) 1 1, .slice (some ⟨hb, 0, none⟩) 1 1, .slice none 0 0])
  clear hb7 hm7 hx7
  rw [show plainM.val (some ⟨ha, 0, none⟩) (some ⟨hb, 0, none⟩) none 1 1 0 = .agg #[.int .i64 0, .int .i64 0, .int .i64 0, .int .i64 0, .slice (some ⟨ha, 0, none⟩) 1 1, .slice (some ⟨hb, 0, none⟩) 1 1, .slice none 0 0] from rfl]
  have g0 := G7.out.cell 0
  have g1 := G7.out.cell 1
  have g2 := G7.out.cell 2
  have g3 := G7.out.cell 3
  have g4 := G7.out.cell 4
  have g5 := G7.out.cell 5
  have g6 := G7.out.cell 6
  simp [flat_pts, plainM, Pt.cells] at g0 g1 g2 g3 g4 g5 g6
  have glt := G7.out.lt
  have hne : ha ≠ w7.heap.size := by omega
  have y4 := Y7.out.cell 4
  simp at y4
  obtain ⟨W6, hW6⟩ : ∃ x, (w6.alloc (.cells #[.int .i64 0, .int .i64 0, .int .i64 0, .int .i64 0, .slice A6 0 c6, .slice B6' 0 cc6, .slice D6 0 cp6] 58)) = x := ⟨_, rfl⟩
  rw [hW6] at hha LB7
  have HO7 : Hid (w7.ownsRow W6.heap.size 32 7 (.slice (some ⟨ha, 0, none⟩) 1 1) 1 (flat_pts plainM.ts)) := Lib.hid (own_of_pts G7.out hha)
  have HW6 := Lib.hid hW6
  have hs7 := LB7.out.size
  clear hW6
  go_upto_region 5 with fail
  go_cut [36] from 35 to 43 (fun s wx => ∃ A8 c8, Blk wx w7.heap.size 58 #[.int .i64 0, .int .i64 0, .int .i64 0, .int .i64 0, .slice A8 2 c8, .slice (some ⟨hb, 0, none⟩) 1 1, .slice none 0 0] ∧ wx.ownsRow W6.heap.size 32 7 (.slice A8 2 c8) 2 (flat_pts twiceM.ts) ∧ Below W6.heap.size W6 wx)
  case first =>
    go_region_law (
      (refine step_appS tPts rfl (.tmp 36) (.tmp 41) rfl W6.heap.size (.slice (some ⟨ha, 0, none⟩) 1 1) 1 (flat_pts plainM.ts) rfl ((HO7.out.alloc _).drew.alloc _) [.int .u8 1, .int .i64 0, .int .i64 0, .int .i64 0, .int .i64 5, .int .i64 0, .int .i64 0] rfl (by decide) (w7.heap.size + 1) (by rfl) (new_cells _ _ _ _ (by first | (simp; done) | (show _ = (w7.alloc _).heap.size; simp))) (by omega) (by unfold maxLen; omega) (by show _ ≤ ((w7.alloc _).alloc _).heap.size; simp; omega) ?_; intro v8 w8 o8 hg8; have hb8 := (((LB7.out.alloc LB7.out.size _).drew).alloc (by show _ ≤ (w7.alloc _).heap.size; simp; omega) _).grown hg8 (by show _ ≤ ((w7.alloc _).alloc _).heap.size; simp; omega) (own_ge HO7.out); obtain ⟨A8, c8, rfl, hc8⟩ := own_slice o8; have y8 := ((Y7.out.drew.alloc _).grown ((HO7.out.alloc _).drew.alloc _) (by decide) hg8); have k4 := y8.cell 4; have f4 := y8.frozen 4; simp at k4; have O8 := Lib.hid o8; have Y8 := Lib.hid y8; have B8 := Lib.hid hb8; clear hg8 o8 y8 hb8))
    all_goals
      go_wp2_with fail
      go_meet
      refine ⟨A8, c8, by simpa using Y8.out.set 4 (.slice A8 2 c8), ?_, B8.out.setCell (by show _ ≤ w7.heap.size; omega) _⟩
      exact Frm.own (S := fun k => k = w7.heap.size) (Frm.setCell (S := fun k => k = w7.heap.size) (p := ⟨w7.heap.size, 4, none⟩) (Frm.refl _ _) (fun _ => rfl) _) O8.out (fun k hk e => Y8.out.apart O8.out (by decide) _ hk e)
  case rest =>
    obtain ⟨A8, c8, y8, o8, b8⟩ := hcut
    have m6 := M6.out.alloc (.cells #[.int .i64 0, .int .i64 0, .int .i64 0, .int .i64 0, .slice A6 0 c6, .slice B6' 0 cc6, .slice D6 0 cp6] 58)
    have x6 := X6.out.alloc (.cells #[.int .i64 0, .int .i64 0, .int .i64 0, .int .i64 0, .slice A6 0 c6, .slice B6' 0 cc6, .slice D6 0 cp6] 58)
    have r6 := R26.out.alloc (.cells #[.int .i64 0, .int .i64 0, .int .i64 0, .int .i64 0, .slice A6 0 c6, .slice B6' 0 cc6, .slice D6 0 cp6] 58)
    have l6 := B6.out.alloc B6.out.size (.cells #[.int .i64 0, .int .i64 0, .int .i64 0, .int .i64 0, .slice A6 0 c6, .slice B6' 0 cc6, .slice D6 0 cp6] 58)
    rw [HW6.out] at m6 x6 r6 l6
    have MC := Lib.hid (m6.below b8)
    have XC := Lib.hid (x6.below b8)
    have RC := Lib.hid (r6.below b8 rfl)
    have BC := Lib.hid (ch0 l6 b8)
    have YC := Lib.hid y8
    have OC := Lib.hid o8
    clear m6 x6 r6 l6 b8 y8 o8 g0 g1 g2 g3 g4 g5 g6 glt hne y4 hha hs7
    have LIT : Hid (Rd (wc.alloc (.cells #[.int .u8 0, .int .u8 0, .int .u8 0, .int .u8 0, .int .u8 1, .int .u8 1, .int .u8 8, .int .u8 5, .int .u8 0, .int .u8 1, .int .u8 0, .int .u8 0, .int .u8 0] 5)).drew (some ⟨wc.heap.size, 0, none⟩) (octs plainB)) := Lib.hid (rd_new wc _ 5).drew
    go_wp2_with fail
    go_region_held3 (fun w' => w'.cell? ⟨w5.heap.size, 0, none⟩ = some (.int .i64 0) ∧ w'.cell? ⟨w5.heap.size, 1, none⟩ = some (.int .i64 0) ∧ w'.cell? ⟨w5.heap.size, 2, none⟩ = some (.int .i64 0) ∧ w'.cell? ⟨w5.heap.size, 3, none⟩ = some (.int .i64 0) ∧ w'.cell? ⟨w5.heap.size, 4, none⟩ = some (.slice A5 1 c5) ∧ w'.cell? ⟨w5.heap.size, 5, none⟩ = some (.slice B5' 1 cc5) ∧ w'.cell? ⟨w5.heap.size, 6, none⟩ = some (.slice D5 0 cp5) ∧ w'.cell? ⟨w7.heap.size, 0, none⟩ = some (.int .i64 0) ∧ w'.cell? ⟨w7.heap.size, 1, none⟩ = some (.int .i64 0) ∧ w'.cell? ⟨w7.heap.size, 2, none⟩ = some (.int .i64 0) ∧ w'.cell? ⟨w7.heap.size, 3, none⟩ = some (.int .i64 0) ∧ w'.cell? ⟨w7.heap.size, 4, none⟩ = some (.slice A8 2 c8) ∧ w'.cell? ⟨w7.heap.size, 5, none⟩ = some (.slice (some ⟨hb, 0, none⟩) 1 1) ∧ w'.cell? ⟨w7.heap.size, 6, none⟩ = some (.slice none 0 0))
      (first | exact keep14 X13 Y13 | exact keep14 X12 Y12 | exact keep14 X11 Y11 | exact keep14 X10 Y10 | exact keep14 (XC.out.alloc _).drew (YC.out.alloc _).drew | exact keep14 XC.out.drew YC.out.drew | go_keep)
      (first
        | (go_at_call 24; ((refine (sameB1 plainB A2 _ 13 13 c2 13 _ rfl rfl (RC.out.alloc _).drew LIT.out (by decide)).mono ?_)); rintro e w10 ⟨rfl, hb10⟩; have X10 := (XC.out.alloc (.cells #[.int .u8 0, .int .u8 0, .int .u8 0, .int .u8 0, .int .u8 1, .int .u8 1, .int .u8 8, .int .u8 5, .int .u8 0, .int .u8 1, .int .u8 0, .int .u8 0, .int .u8 0] 5)).drew.below hb10; have Y10 := (YC.out.alloc (.cells #[.int .u8 0, .int .u8 0, .int .u8 0, .int .u8 0, .int .u8 1, .int .u8 1, .int .u8 8, .int .u8 5, .int .u8 0, .int .u8 1, .int .u8 0, .int .u8 0, .int .u8 0] 5)).drew.below hb10; have L10 := Lib.hid (((Below.refl wc.heap.size wc).alloc (Nat.le_refl _) (.cells #[.int .u8 0, .int .u8 0, .int .u8 0, .int .u8 0, .int .u8 1, .int .u8 1, .int .u8 8, .int .u8 5, .int .u8 0, .int .u8 1, .int .u8 0, .int .u8 0, .int .u8 0] 5)).trans ((of_drew hb10).mono (by show wc.heap.size ≤ (wc.alloc _).heap.size; simp))); clear hb10)
        | (go_at_call 55; ((refine (plain55 _).mono ?_)); rintro e w11 ⟨⟨ja, jb, rfl, hm11, _, _⟩, hb11⟩; have X11 := X10.below hb11; have Y11 := Y10.below hb11; have L11 := Lib.hid (ch0 L10.out hb11); have M11 := Lib.hid hm11; clear hb11 hm11)
        | (go_at_call 41; ((refine (same41 plainM A5 B5' D5 (some ⟨ja, 0, none⟩) (some ⟨jb, 0, none⟩) none c5 cc5 cp5 1 1 0 _ (MC.out.below L11.out) M11.out (by decide) (by decide) (by decide)).mono ?_)); rintro e w12 ⟨rfl, hb12⟩; have X12 := X11.below hb12; have Y12 := Y11.below hb12; have L12 := Lib.hid (ch0 L11.out hb12); clear hb12)
        | (go_at_call 39; ((refine (right39 twiceM A8 (some ⟨hb, 0, none⟩) none 2 c8 1 1 0 0 _ rfl rfl rfl twice_ok (rd_own (own_below OC.out L12.out)) (by decide) (by decide) (by decide)).mono ?_)); rw [twice_right]; rintro e w13 ⟨rfl, hb13⟩; have X13 := X12.below hb13; have Y13 := Y12.below hb13; have L13 := Lib.hid (ch0 L12.out hb13); clear hb13))
    all_goals
      go_wp2_with fail
      go_ret
      exact ⟨rfl, ch0 BC.out L13.out⟩
end Go.Proofs.Ytaiekpdoljleeaa
