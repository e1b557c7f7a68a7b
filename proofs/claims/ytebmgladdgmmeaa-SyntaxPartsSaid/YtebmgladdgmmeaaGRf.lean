/- The reference of chapter 19: Depth, count: walks. Condition: at most a million statements. -/
import Derived.Test.YtebmgladdgmmeaaGRg
namespace Go.Proofs.Ytebmgladdgmmeaa
open Go.RowKit Go.WideShapes
set_option linter.unusedVariables false
set_option linter.unusedSimpArgs false
def dpF : Fo → Nat → Nat
  | .nil, _ => 0
  | .cons _ _ _ _, 0 => 1
  | .cons _ b e r, L + 1 => max (max (dpF b L) (dpF e L) + 1) (dpF r (L + 1))
def egF (post : Bool) : Fo → Bool
  | .nil => true
  | .cons h b e r => rtH post h b.len e.len && egF post b && egF post e && egF post r
theorem dp_ok : ∀ (f : Fo) (L : Nat), (dpF f (L + 1) ≤ L ↔ okF f L = true)
  | .nil, L => by simp [dpF, okF]
  | .cons h b e r, 0 => by simp [dpF, okF]
  | .cons h b e r, L + 1 => by
    have h1 := dp_ok b L
    have h2 := dp_ok e L
    have h3 := dp_ok r (L + 1)
    simp only [dpF, okF, Bool.and_eq_true]
    rw [← h1, ← h2, ← h3]
    omega
theorem gd_eg (post : Bool) : ∀ (f : Fo) (L : Nat), okF f L = true → gdF post f L = egF post f
  | .nil, _, _ => rfl
  | .cons h b e r, 0, hk => by simp [okF] at hk
  | .cons h b e r, L + 1, hk => by
    simp only [okF, Bool.and_eq_true] at hk
    simp only [gdF, egF]
    rw [gd_eg post b L hk.1.1, gd_eg post e L hk.1.2, gd_eg post r (L + 1) hk.2]
theorem dpF_le : ∀ (f : Fo) (L : Nat), dpF f L ≤ L + 1
  | .nil, _ => Nat.zero_le _
  | .cons _ _ _ _, 0 => Nat.le_refl _
  | .cons _ b e r, L + 1 => by
    have := dpF_le b L
    have := dpF_le e L
    have := dpF_le r (L + 1)
    simp only [dpF]; omega
def Drn (w w' : World) : Prop := ∃ n, w' = w.drewN n
theorem Drn.refl (w : World) : Drn w w := ⟨0, rfl⟩
theorem Drn.step {w w' : World} (h : Drn w w') (n : Nat) : Drn w (w'.drewN n) := by obtain ⟨m, rfl⟩ := h; exact ⟨m + n, World.drewN_drewN ..⟩
theorem Drn.below {B : Nat} {w w' : World} (h : Drn w w') : Below B w w' := by obtain ⟨m, rfl⟩ := h; exact below_drewN (Below.refl _ _) m
/-- It only reads. -/
structure Reads (v : Value) (w0 : World) (e : Ending) (w : World) : Prop where
  ret : e = .returned v
  drn : ∃ n, w = w0.drewN n
theorem Reads.quiet {P : Program} {f : FuncId} {args : Array Value} {w : World} {n : Nat} {v : Value} (h : Calls P f args (w.drewN n) (Reads v (w.drewN n))) : Calls P f args (w.drewN n) fun e w'' => e = .returned v ∧ ∃ m, w'' = w.drewN m :=
  Calls.quiet_of (h.mono fun _ _ ⟨h1, h2⟩ => ⟨h1, h2⟩)
/-- Where the loop stands. -/
structure AtR (B g o : Nat) (f : Fo) (L : Nat) (w0 : World) (s i : Value) (w : World) : Prop where
  ex : ∃ (k : Nat) (r : Fo) (m : Nat), k + r.len = f.len ∧ i = .int .i64 k ∧ s = .int .i64 m ∧ RdF B w r g (o + k * 13) ∧ r.tot ≤ f.tot ∧ cnF f L + r.len = m + cnF r L
  drn : Drn w0 w
def CtR (N : Nat) : Prop := ∀ (f : Fo), f.tot ≤ N → ∀ (B c L : Nat) (A : Option Addr) (w : World), RdS B w A f → f.tot ≤ 1000000 → f.len ≤ c → f.len ≤ lenMost → L ≤ 1000 →
  Calls Try.prog 49 #[.slice A f.len c, .int .i64 L] w (Reads (.int .i64 (cnF f L)) w)
set_option maxRecDepth 100000 in
set_option maxHeartbeats 8000000 in
theorem countR : ∀ N, CtR N := by
  intro N
  induction N with
  | zero =>
    intro f hf B c L A w hr ht hc hl hL
    have hfl := f.len_tot
    obtain rfl : f = .nil := Fo.nil_of (by omega)
    clear hr
    have e0 : cnF .nil L = 0 := by cases L <;> rfl
    rw [e0]
    rcases Nat.eq_zero_or_pos L with h0 | h0
    · subst h0
      go_enter Try.func49, Try.ntmps49
      go_wp2_with fail
      go_ret
      exact ⟨rfl, 0, rfl⟩
    · have g2 : decide ((L : Int) < 1) = false := by simp; omega
      go_enter Try.func49, Try.ntmps49
      go_wp2_with fail
      go_loopw [5, 6] (fun s i wr => wr = w ∧ i = .int .i64 0 ∧ s = .int .i64 0) (fun _ _ _ => 0)
      case atStart => exact ⟨rfl, rfl, rfl⟩
      case round =>
        obtain ⟨rfl, rfl, rfl⟩ := hrel
        go_wp2_with fail
        go_ret
        exact ⟨rfl, 0, rfl⟩
  | succ N ih =>
    have IH := Lib.hid ih
    clear ih
    intro f hf B c L A w hr ht hc hl hL
    rcases L with _ | L
    · have e0 : cnF f 0 = 0 := by rcases f with _ | ⟨h, b, e, r⟩ <;> rfl
      rw [e0]
      clear hr e0
      go_enter Try.func49, Try.ntmps49
      go_wp2_with fail
      go_ret
      exact ⟨rfl, 0, rfl⟩
    · have hcf := cnF_le f (L + 1)
      obtain ⟨LL, hLL⟩ : ∃ x, L + 1 = x := ⟨_, rfl⟩
      rw [hLL] at hL hcf ⊢
      have hL1 : (1 : Int) ≤ (LL : Int) := by omega
      have hL3 : L ≤ 1000 := by omega
      have hL2 : (LL : Int) ≤ 1000 := by omega
      have hLI : (LL : Int) - 1 = (L : Int) := by omega
      have HLI := Lib.hid hLI
      have HLL := Lib.hid hLL
      clear hLL
      have g2 : decide ((LL : Int) < 1) = false := by simp; omega
      have hg : ∃ g o, (0 < f.len → A = some ⟨g, o, none⟩) ∧ RdF B w f g o := by
        rcases Nat.eq_zero_or_pos f.len with h0 | h0
        · obtain rfl := Fo.nil_of h0
          exact ⟨0, 0, fun h => absurd h (by simp [Fo.len]), trivial⟩
        · obtain ⟨g, o, e, h⟩ := hr h0
          exact ⟨g, o, fun _ => e, h⟩
      obtain ⟨g, o, hA, hrd⟩ := hg
      have hst : AtR B g o f LL w (.int .i64 f.len) (.int .i64 0) w := ⟨⟨0, f, f.len, by omega, rfl, rfl, by simpa using hrd, Nat.le_refl _, by omega⟩, Drn.refl _⟩
      have HST := Lib.hid hst
      have HA := Lib.hid hA
      have hflt := f.len_tot
      clear hst hrd hr hA
      obtain ⟨len, hlen⟩ : ∃ len, f.len = len := ⟨_, rfl⟩
      rw [hlen] at hc hl hflt HST ⊢
      have HLN := Lib.hid hlen
      clear hlen
      unfold lenMost at hl
      go_enter Try.func49, Try.ntmps49
      go_wp2_with fail
      go_loopw [5, 6] (fun s i wr => AtR B g o f LL w s i wr) (fun _ i _ => len - (intOf i).toNat)
      case atStart => exact HST.out
      case round =>
        obtain ⟨⟨k, r, m, hk, rfl, rfl, hrd, htot, hcn⟩, hdrn⟩ := hrel
        rcases r with _ | ⟨h, b, e, r⟩
        · have hkl : k = len := by simp only [Fo.len] at hk; have := HLN.out; omega
          subst hkl
          have hfin : Reads (.int .i64 (cnF f LL)) w (.returned (.int .i64 m)) wr := ⟨by rw [show cnF f LL = m by simpa [cnF, Fo.len] using hcn], hdrn⟩
          have HFN := Lib.hid hfin
          have g3 : decide (k < k) = false := by simp
          clear hcn hrd hfin hk htot hdrn HST
          go_wp2_with fail
          go_ret
          exact HFN.out
        · obtain ⟨hdok, hg, ⟨Ab, cb, Ae, ce, hcl, hbl, hel, hb, he⟩, hrest⟩ := hrd
          simp only [Fo.len] at hk hcn
          rw [show cnF (.cons h b e r) LL = cnF (.cons h b e r) (L + 1) by rw [HLL.out]] at hcn
          simp only [cnF] at hcn
          simp only [Fo.tot] at htot
          have hkl : k < len := by have := HLN.out; omega
          have hkI : (k : Int) < (len : Int) := by omega
          have hk0 : (0 : Int) ≤ (k : Int) := by omega
          have g3 : decide (k < len) = true := by simpa using hkl
          have hcells := Cells.of hcl
          have d10 := hcells.c10
          have d11 := hcells.c11
          have hA := HA.out (by rw [HLN.out]; omega)
          subst hA
          obtain ⟨nb, hnb⟩ : ∃ x, cnF b L = x := ⟨_, rfl⟩
          obtain ⟨ne, hne⟩ : ∃ x, cnF e L = x := ⟨_, rfl⟩
          have hnb2 := cnF_le b L
          have hne2 := cnF_le e L
          rw [hnb] at hnb2
          rw [hne] at hne2
          rw [hnb, hne, HLL.out] at hcn
          have hrl := r.len_tot
          have hmm : m ≤ 2000000 := by omega
          have hbr : ∀ j, Calls Try.prog 49 #[.slice Ab b.len cb, .int .i64 L] (wr.drewN j) (Reads (.int .i64 nb) (wr.drewN j)) := fun j => by
            have := IH.out b (by omega) B cb L Ab (wr.drewN j) ((show RdS B wr Ab b from hb).below (below_drewN (Below.refl _ _) j)) (by omega) hbl.1 hbl.2.2 hL3
            rwa [hnb] at this
          have her : ∀ j, Calls Try.prog 49 #[.slice Ae e.len ce, .int .i64 L] (wr.drewN j) (Reads (.int .i64 ne) (wr.drewN j)) := fun j => by
            have := IH.out e (by omega) B ce L Ae (wr.drewN j) ((show RdS B wr Ae e from he).below (below_drewN (Below.refl _ _) j)) (by omega) hel.1 hel.2.2 hL3
            rwa [hne] at this
          have hBR := Lib.hid hbr
          have hER := Lib.hid her
          have HRS := Lib.hid hrest
          have HCN := Lib.hid hcn
          have HDR := Lib.hid hdrn
          generalize hbn : b.len = bn at *
          generalize hen : e.len = en at *
          clear hbr her hrest hb he hcn hdrn hcl hcells hnb hne hbn hen HST
          have hend : ∀ (j : Nat), AtR B g o f LL w (.int .i64 ((m : Int) + nb + ne)) (.int .i64 ((k : Int) + 1)) (wr.drewN j) := fun j =>
            ⟨⟨k + 1, r, m + nb + ne, by have := HLN.out; omega, by go_num, by go_num, by have := HRS.out.below (below_drewN (Below.refl B wr) j); rwa [show o + k * 13 + 13 = o + (k + 1) * 13 by omega] at this, by omega, by have := HCN.out; omega⟩, HDR.out.step j⟩
          have HEND := Lib.hid hend
          clear hend
          go_wp2_with fail
          go_quiet ((first | (go_at_call 49; with_reducible exact Reads.quiet (hBR.out _)) | (go_at_call 49; with_reducible exact Reads.quiet (hER.out _))))
          go_wp2_with fail
          exact ⟨HEND.out _, by simp [intOf]; omega⟩
end Go.Proofs.Ytebmgladdgmmeaa
