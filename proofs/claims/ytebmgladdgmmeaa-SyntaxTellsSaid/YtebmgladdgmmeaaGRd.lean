/- The reference of chapter 19: Depth: the walk. Condition: at most a million statements. -/
import Derived.Test.YtebmgladdgmmeaaGRf
namespace Go.Proofs.Ytebmgladdgmmeaa
open Go.RowKit Go.WideShapes
set_option linter.unusedVariables false
set_option linter.unusedSimpArgs false
/-- Where the loop stands. -/
structure AtD (B g o : Nat) (f : Fo) (L : Nat) (w0 : World) (s i : Value) (w : World) : Prop where
  ex : ∃ (k : Nat) (r : Fo) (m : Nat), k + r.len = f.len ∧ i = .int .i64 k ∧ s = .int .i64 m ∧ RdF B w r g (o + k * 13) ∧ r.tot ≤ f.tot ∧ dpF f L = max (m + 1) (dpF r L) ∧ m ≤ L
  drn : Drn w0 w
def DtR (N : Nat) : Prop := ∀ (f : Fo), f.tot ≤ N → ∀ (B c L : Nat) (A : Option Addr) (w : World), RdS B w A f → f.tot ≤ 1000000 → f.len ≤ c → f.len ≤ lenMost → L ≤ 1000 →
  Calls Try.prog 47 #[.slice A f.len c, .int .i64 L] w (Reads (.int .i64 (dpF f L)) w)
set_option maxRecDepth 100000 in
set_option maxHeartbeats 8000000 in
theorem depthR : ∀ N, DtR N := by
  intro N
  induction N with
  | zero =>
    intro f hf B c L A w hr ht hc hl hL
    have hfl := f.len_tot
    obtain rfl : f = .nil := Fo.nil_of (by omega)
    clear hr
    have e0 : dpF .nil L = 0 := by cases L <;> rfl
    rw [e0]
    go_enter Try.func47, Try.ntmps47
    go_wp2_with fail
    go_ret
    exact ⟨rfl, 0, rfl⟩
  | succ N ih =>
    have IH := Lib.hid ih
    clear ih
    intro f hf B c L A w hr ht hc hl hL
    rcases Nat.eq_zero_or_pos f.len with hz | hz
    · obtain rfl : f = .nil := Fo.nil_of hz
      clear hr
      have e0 : dpF .nil L = 0 := by cases L <;> rfl
      rw [e0]
      go_enter Try.func47, Try.ntmps47
      go_wp2_with fail
      go_ret
      exact ⟨rfl, 0, rfl⟩
    have hzb : ((f.len : Int) == 0) = false := by simp; omega
    rcases L with _ | L
    · have e0 : dpF f 0 = 1 := by rcases f with _ | ⟨h, b, e, r⟩; (simp [Fo.len] at hz); rfl
      rw [e0]
      clear hr e0
      go_enter Try.func47, Try.ntmps47
      go_wp2_with fail
      go_ret
      exact ⟨rfl, 0, rfl⟩
    · have hd1 : 1 ≤ dpF f (L + 1) := by rcases f with _ | ⟨h, b, e, r⟩; (simp [Fo.len] at hz); (simp only [dpF]; omega)
      obtain ⟨LL, hLL⟩ : ∃ x, L + 1 = x := ⟨_, rfl⟩
      rw [hLL] at hL hd1 ⊢
      have hL1 : (1 : Int) ≤ (LL : Int) := by omega
      have hL3 : L ≤ 1000 := by omega
      have hL2 : (LL : Int) ≤ 1000 := by omega
      have hLI : (LL : Int) - 1 = (L : Int) := by omega
      have HLI := Lib.hid hLI
      have HLL := Lib.hid hLL
      clear hLL
      have g2 : decide ((LL : Int) < 1) = false := by simp; omega
      have hg : ∃ g o, (0 < f.len → A = some ⟨g, o, none⟩) ∧ RdF B w f g o := by
        rcases Nat.eq_zero_or_pos f.len with h0 | h0
        · obtain rfl := Fo.nil_of h0
          exact ⟨0, 0, fun h => absurd h (by simp [Fo.len]), trivial⟩
        · obtain ⟨g, o, e, h⟩ := hr h0
          exact ⟨g, o, fun _ => e, h⟩
      obtain ⟨g, o, hA, hrd⟩ := hg
      have hst : AtD B g o f LL w (.int .i64 0) (.int .i64 0) w := ⟨⟨0, f, 0, by omega, rfl, rfl, by simpa using hrd, Nat.le_refl _, by omega, by omega⟩, Drn.refl _⟩
      have HST := Lib.hid hst
      have HA := Lib.hid hA
      have hflt := f.len_tot
      clear hst hrd hr hA
      obtain ⟨len, hlen⟩ : ∃ len, f.len = len := ⟨_, rfl⟩
      rw [hlen] at hc hl hflt hzb hz ⊢
      have HLN := Lib.hid hlen
      clear hlen
      unfold lenMost at hl
      go_enter Try.func47, Try.ntmps47
      go_wp2_with fail
      go_loopw [5, 6] (fun s i wr => AtD B g o f LL w s i wr) (fun _ i _ => len - (intOf i).toNat)
      case atStart => exact HST.out
      case round =>
        obtain ⟨⟨k, r, m, hk, rfl, rfl, hrd, htot, hcn, hml⟩, hdrn⟩ := hrel
        rcases r with _ | ⟨h, b, e, r⟩
        · have hkl : k = len := by simp only [Fo.len] at hk; have := HLN.out; omega
          subst hkl
          have hfin : Reads (.int .i64 (dpF f LL)) w (.returned (.int .i64 ((m : Int) + 1))) wr := ⟨by rw [show dpF f LL = m + 1 by rw [hcn]; simp [dpF]]; rfl, hdrn⟩
          have HFN := Lib.hid hfin
          have g3 : decide (k < k) = false := by simp
          clear hcn hrd hfin hk htot hdrn HST
          go_wp2_with fail
          go_ret
          exact HFN.out
        · obtain ⟨hdok, hg, ⟨Ab, cb, Ae, ce, hcl, hbl, hel, hb, he⟩, hrest⟩ := hrd
          simp only [Fo.len] at hk
          rw [show dpF (.cons h b e r) LL = dpF (.cons h b e r) (L + 1) by rw [HLL.out]] at hcn
          simp only [dpF] at hcn
          simp only [Fo.tot] at htot
          have hkl : k < len := by have := HLN.out; omega
          have hkI : (k : Int) < (len : Int) := by omega
          have hk0 : (0 : Int) ≤ (k : Int) := by omega
          have g3 : decide (k < len) = true := by simpa using hkl
          have hcells := Cells.of hcl
          have d10 := hcells.c10
          have d11 := hcells.c11
          have hA := HA.out (by rw [HLN.out]; omega)
          subst hA
          obtain ⟨nb, hnb⟩ : ∃ x, dpF b L = x := ⟨_, rfl⟩
          obtain ⟨ne, hne⟩ : ∃ x, dpF e L = x := ⟨_, rfl⟩
          have hnb2 := dpF_le b L
          have hne2 := dpF_le e L
          rw [hnb] at hnb2
          rw [hne] at hne2
          rw [hnb, hne, HLL.out] at hcn
          have hrl := r.len_tot
          have hmm : m ≤ 2000000 := by omega
          have hx : max (max (m : Int) nb) ne = ((max (max m nb) ne : Nat) : Int) := by omega
          have hbr : ∀ j, Calls Try.prog 47 #[.slice Ab b.len cb, .int .i64 L] (wr.drewN j) (Reads (.int .i64 nb) (wr.drewN j)) := fun j => by
            have := IH.out b (by omega) B cb L Ab (wr.drewN j) ((show RdS B wr Ab b from hb).below (below_drewN (Below.refl _ _) j)) (by omega) hbl.1 hbl.2.2 hL3
            rwa [hnb] at this
          have her : ∀ j, Calls Try.prog 47 #[.slice Ae e.len ce, .int .i64 L] (wr.drewN j) (Reads (.int .i64 ne) (wr.drewN j)) := fun j => by
            have := IH.out e (by omega) B ce L Ae (wr.drewN j) ((show RdS B wr Ae e from he).below (below_drewN (Below.refl _ _) j)) (by omega) hel.1 hel.2.2 hL3
            rwa [hne] at this
          have hBR := Lib.hid hbr
          have hER := Lib.hid her
          have HRS := Lib.hid hrest
          have HCN := Lib.hid hcn
          have HDR := Lib.hid hdrn
          generalize hbn : b.len = bn at *
          generalize hen : e.len = en at *
          clear hbr her hrest hb he hcn hdrn hcl hcells hnb hne hbn hen HST
          have hlt1 : nb ≤ LL := by omega
          have hlt2 : ne ≤ LL := by omega
          have hend : ∀ (j x : Nat), x = max (max m nb) ne → AtD B g o f LL w (.int .i64 x) (.int .i64 ((k : Int) + 1)) (wr.drewN j) := fun j x hx =>
            ⟨⟨k + 1, r, x, by have := HLN.out; omega, by go_num, rfl, by have := HRS.out.below (below_drewN (Below.refl B wr) j); rwa [show o + k * 13 + 13 = o + (k + 1) * 13 by omega] at this, by omega, by have := HCN.out; omega, by omega⟩, HDR.out.step j⟩
          have HEND := Lib.hid hend
          clear hend
          go_wp2_with fail
          go_quiet ((first | (go_at_call 47; with_reducible exact Reads.quiet (hBR.out _)) | (go_at_call 47; with_reducible exact Reads.quiet (hER.out _))))
          go_wp2_with fail
          have hmx : (if (if m < nb then (nb : Int) else (m : Int)) < (ne : Int) then (ne : Int) else if m < nb then (nb : Int) else (m : Int)) = ((max (max m nb) ne : Nat) : Int) := by split <;> split at * <;> omega
          rw [hmx]
          exact ⟨HEND.out _ _ rfl, by simp [intOf]; omega⟩
end Go.Proofs.Ytebmgladdgmmeaa
