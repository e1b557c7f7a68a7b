/- The reference encoder's Put: walks. -/
import Derived.Test.YtbjbpbblalcpkaaRefTake
import Derived.Maps.AppendAt
namespace Go.Proofs.Ytbjbpbblalcpkaa
open Go.RowKit Go.WideShapes
set_option linter.unusedVariables false
theorem run_appH {P : Program} {t e : TypeId} {z : Value} {bytes : Nat} (T : SlT P t e z bytes) (w : World) (ty : TypeId) (base : Nat) (v : Value) (n : Nat) (xs : List Value) (hown : w.ownsRow base e 1 v n xs)
    (A : Option Addr) (c : Nat) (news : List Value) (hr : Rd w A news) (h1 : ∀ u ∈ news, u.oneCell' = true)
    (hby : (n + news.length) * bytes ≤ 140737488355328) (h63 : n + news.length ≤ maxLen) (hbase : base ≤ w.heap.size) :
    ∃ v' w', (Builtin.append_ #[t, t] ty #[v, .slice A news.length c]).run P w = .ok v' w' ∧ w'.ownsRow base e 1 v' (n + news.length) (xs ++ news) ∧ w.grownBy w' v.ownBlock ∧ Below base w w' ∧ (v'.ownBlock = v.ownBlock ∨ v'.ownBlock = some w.heap.size) := by
  obtain ⟨i, hi, hz, hs, hb⟩ := info_parts T.i
  rcases news with _ | ⟨x, rest⟩
  · have hr0 : (Builtin.append_ #[t, t] ty #[v, .slice A 0 c]).run P w = .ok v w := by
      rcases hown.2 with ⟨rfl, rfl⟩ | ⟨g, cap, cur, rfl, _, _, hnc, _⟩
      · cases A <;> simp [Builtin.append_, run_underlying T.u, sizeOf, typeInfo, hi, Builtin.lenOf, Builtin.firstCells, loadCells, loadCellsFrom]
      · cases A <;> simp [Builtin.append_, run_underlying T.u, sizeOf, typeInfo, hi, Builtin.lenOf, Builtin.firstCells, hnc, storeCells, loadCells, loadCellsFrom]
    exact ⟨v, w, hr0, by simpa using hown, World.grownBy.refl w _, Below.refl _ _, .inl rfl⟩
  · obtain ⟨b, off, rfl, _, hc⟩ := hr (by simp)
    obtain ⟨v', w', hrun, h2, h3, _, h5⟩ := run_append_own_at (P := P) w base t ty e i z 1 bytes T.u hi hz hs hb T.z (by omega) v n xs hown ⟨b, off, none⟩ (x :: rest).length c (x :: rest) (by simp) (fun j u hu => by rw [addr_add]; exact hc j u hu) h1 h63 hby hbase
    exact ⟨v', w', hrun, h2, h3, (Below.refl _ _).grown h3 hbase (own_ge hown), h5⟩

theorem wpList_appH {P : Program} {t e : TypeId} {z : Value} {bytes : Nat} {ops : Array Oper} {rest : List Oper} {o : Oper} {a : Act} {w : World} {Q : Exit → Act → World → Prop} (T : SlT P t e z bytes) (hgd : Region.wanted o (yielded ops a.tmps) = true) (s x : Operand)
    (ho : o.op = .call { callee := .builtin .append, args := #[s, x], argTypes := #[t, t] })
    (base : Nat) (v : Value) (n : Nat) (xs : List Value) (hs : a.eval s = v) (hown : w.ownsRow base e 1 v n xs)
    (A : Option Addr) (m c : Nat) (news : List Value) (hx : a.eval x = .slice A m c) (hm : m = news.length) (hr : Rd w A news) (h1 : ∀ u ∈ news, u.oneCell' = true)
    (hby : (n + m) * bytes ≤ 140737488355328) (h63 : n + m ≤ maxLen) (hbase : base ≤ w.heap.size)
    (h : ∀ v' w', w'.ownsRow base e 1 v' (n + m) (xs ++ news) → w.grownBy w' v.ownBlock → Below base w w' → (v'.ownBlock = v.ownBlock ∨ v'.ownBlock = some w.heap.size) → wpList P ops Q rest (a.put o.dst v') w') : wpList P ops Q (o :: rest) a w := by
  subst hm
  obtain ⟨v', w', hrun, h2, h3, h4, h5⟩ := run_appH T w o.type base v n xs hown A c news hr h1 hby h63 hbase
  refine wpList_want hgd fun K hK => ?_
  unfold Oper.wp execOp
  simp only [ho, resolve, invoke, builtin, Sem.run_bind, Sem.run_pure, Result.andThen_ok, List.map_toArray, List.map_cons, List.map_nil, hs, hx, hrun]
  exact hK _ _ (h v' w' h2 h3 h4 h5)

/-- The reference's encoder in block g. -/
structure EncR (B : Nat) (w : World) (g : Nat) (x y : Int) (out : List Int) (v : Value) : Prop where
  blk : Blk w g 32 #[.int .u64 x, .int .u64 y, v]
  own : w.ownsRow B 5 1 v out.length (octs out)
  ge : B ≤ g
theorem EncR.frm {B : Nat} {w w' : World} {g : Nat} {x y : Int} {out : List Int} {v : Value} {S : Nat → Prop} (h : EncR B w g x y out v) (hf : Frm S w w') (hn : ∀ k, own1 g v k → ¬ S k) : EncR B w' g x y out v :=
  ⟨h.blk.frm hf (hn g (.inl rfl)), hf.own h.own fun k hk => hn k (.inr hk), h.ge⟩
theorem EncR.low {B : Nat} {w : World} {g : Nat} {x y : Int} {out : List Int} {v : Value} (h : EncR B w g x y out v) : ∀ k, own1 g v k → B ≤ k := by
  rintro k (rfl | e)
  · exact h.ge
  · exact own_ge h.own k e
theorem takeR_bit (g : Nat) (t : TypeId) (cs : Array Value) (b x y p z : Int) (w : World) (hb : Blk w g t cs) (h0 : cs[0]? = some (.int .u64 x)) (h1 : cs[1]? = some (.int .u64 y)) (hn : Nrm x y) (p0 : 1 ≤ p) (p1 : p ≤ 65535) (z0 : 0 ≤ z) (z1 : z ≤ 4294967295) (ht : 5 ≠ t) (hbit : b = 0 ∨ b = 1) :
    Calls Try.prog 30 #[.pointer (some ⟨g, 0, none⟩), .int .i64 b, .int .i64 p, .int .u64 z] w (TakeR g t cs b (cutX b p x y) (cutY b p x y) w) := by
  rcases hbit with rfl | rfl
  · exact takeR_zero g t cs x y p z w hb h0 h1 hn p0 p1 z0 z1 ht
  · exact takeR_one g t cs x y p z w hb h0 h1 hn p0 p1 z0 z1 ht
structure PutOkR (B g : Nat) (x y : Int) (out : List Int) (v : Value) (w0 : World) (e : Ending) (w : World) : Prop where
  ret : e = .returned (.int .i64 0)
  ex : ∃ v', EncR B w g x y out v' ∧ (v'.ownBlock = v.ownBlock ∨ ∃ q, v'.ownBlock = some q ∧ w0.heap.size ≤ q)
  frm : Frm (own1 g v) w0 w
theorem putR_close {B g n : Nat} {X Y : Int} {out so : List Int} {v v4 : Value} {w w3 w4 : World} (hB : B ≤ g) (hb : Blk w4 g 32 #[.int .u64 X, .int .u64 Y, v]) (ho : w4.ownsRow B 5 1 v4 n (octs out ++ octs so)) (hat : v4.ownBlock = v.ownBlock ∨ v4.ownBlock = some w3.heap.size) (h3 : Frm (fun k => k = g) w w3) (h4 : w3.grownBy w4 v.ownBlock) :
    PutOkR B g X Y (out ++ so) v w (.returned (.int .i64 0)) (w4.setCell ⟨g, 2, none⟩ v4) := by
  have e : octs out ++ octs so = octs (out ++ so) := by simp [octs]
  rw [e] at ho
  have hn : n = (out ++ so).length := by have := ho.1; rw [octs_length] at this; omega
  subst hn
  have f5 : Frm (fun k => k = g) w4 (w4.setCell ⟨g, 2, none⟩ v4) := (Frm.refl (fun k => k = g) w4).setCell (p := ⟨g, 2, none⟩) (fun _ => rfl) _
  refine ⟨rfl, ⟨v4, ⟨by simpa using hb.set 2 v4, f5.own ho fun k hk e => hb.apart ho (by decide) k hk e, hB⟩, ?_⟩, ?_⟩
  · rcases hat with h | h
    · exact .inl h
    · exact .inr ⟨_, h, h3.size⟩
  · have h4' : Frm (own1 g v) w3 w4 := (Frm.of_grown (S := own1 g v) h4 fun k hk => .inr hk)
    exact ((h3.mono (T := own1 g v) fun k _ e => .inl e).trans h4' fun _ _ h => h).trans f5 fun k _ e => .inl e
set_option maxRecDepth 100000 in
set_option maxHeartbeats 4000000 in
theorem putR_ok (B g : Nat) (b x y p : Int) (out : List Int) (v : Value) (w : World) (he : EncR B w g x y out v) (hn : Nrm x y) (hl : out.length < 65536) (hB : B ≤ w.heap.size) (hb : b = 0 ∨ b = 1) (p0 : 1 ≤ p) (p1 : p ≤ 65535) :
    Calls Try.prog 11 #[.pointer (some ⟨g, 0, none⟩), .int .i64 b, .int .i64 p] w (PutOkR B g (step b p x y).2.1 (step b p x y).2.2 (out ++ (step b p x y).1) v w) := by
  have hT := Lib.hid (takeR_bit g 32 _ b x y p 0 w he.blk rfl rfl hn p0 p1 (by omega) (by omega) (by decide) hb)
  have hst : norm (cutX b p x y) (cutY b p x y) = step b p x y := rfl
  have hsl : (step b p x y).1.length ≤ 4 := by
    rw [← hst, norm_len _ _ _ rfl (cut_ivl hn p0 p1)]
    exact need_le _ _
  obtain ⟨st, hs⟩ : ∃ r, step b p x y = r := ⟨_, rfl⟩
  rw [hs] at hst hsl ⊢
  clear hs
  have HST := Lib.hid hst
  have HL := Lib.hid hl
  obtain ⟨A, c, rfl, hc⟩ := own_slice he.own
  have c2 := he.blk.cell 2
  simp at c2
  have gl : decide ((65536 : Int) ≤ (out.length : Int)) = false := by simp; omega
  have HE := Lib.hid he
  clear he hn hst hl
  rcases hb with rfl | rfl
  all_goals
    go_enter Try.func11, Try.ntmps11
    go_wp2_with fail
    refine hT.out.mono ?_
    rintro e w3 ht3
    obtain ⟨v3, hr3, o3⟩ := ht3.ex
    have b3 := ht3.blk
    have f3 := ht3.frm
    subst hr3
    clear ht3
    rw [HST.out] at o3 b3
    obtain ⟨A3, c3, rfl, hc3⟩ := own_slice o3
    have b3 : Blk w3 g 32 #[.int .u64 st.2.1, .int .u64 st.2.2, .slice A out.length c] := by simpa [set2] using b3
    have k2 := b3.cell 2
    simp at k2
    have O3 := Lib.hid o3
    have E3 := Lib.hid (f3.own HE.out.own fun k hk e => HE.out.blk.apart HE.out.own (by decide) k hk e)
    have BK3 := Lib.hid b3
    have F3 := Lib.hid f3
    have hBs : B ≤ w3.heap.size := Nat.le_trans hB f3.size
    clear o3 b3 f3
    go_wp2_with (at_builtin; (refine wpList_appH (P := Try.prog) (t := 30) (e := 5) (z := .int .u8 0) (bytes := 1) (w := w3) tBytes ?_ (.tmp 42) (.tmp 43) ?_ B (.slice A out.length c) out.length (octs out) ?_ E3.out A3 st.1.length c3 (octs st.1) ?_ (by rw [octs_length]) (rd_own O3.out) (octs_one _) (by have := HL.out; omega) (by have := HL.out; unfold maxLen; omega) hBs ?_; rfl; rfl; rfl; rfl; intro v4 w4 o4 hg4 hb4 hat4; obtain ⟨A4, c4, rfl, hc4⟩ := own_slice o4; have HAT := Lib.hid hat4; clear hat4; have BK4 := Lib.hid (BK3.out.frm (Frm.of_grown (S := fun k => (Value.slice A out.length c).ownBlock = some k) hg4 fun k hk => hk) fun e => BK3.out.apart E3.out (by decide) g e rfl); have f2 := Blk.frozen BK4.out 2; have k2' := Blk.cell BK4.out 2; simp at k2'; have O4 := Lib.hid o4; have G4 := Lib.hid hg4; clear o4 hg4 hb4))
    go_ret
    exact putR_close HE.out.ge BK4.out O4.out HAT.out F3.out G4.out
end Go.Proofs.Ytbjbpbblalcpkaa
