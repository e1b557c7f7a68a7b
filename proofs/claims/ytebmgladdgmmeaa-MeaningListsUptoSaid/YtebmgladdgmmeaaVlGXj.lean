/- What statements do, reckoned; the chapter's examples: plain. · One list, then another: plain. · Is there a SHalt among statements: the walk. Condition: none. · A list of statements appended to a row of the call's own: plain theorems. -/
import Derived.Test.YtebmgladdgmmeaaVlGXi
namespace Go.Proofs.Ytebmgladdgmmeaa
open Go.RowKit Go.WideShapes
set_option linter.unusedVariables false
set_option linter.unusedSimpArgs false
def ev (most : Int) : Nat → Tk → Rs → Option (Int × Rs)
  | 0, _, _ => none
  | n + 1, .list .nil, σ => some (0, σ)
  | n + 1, .list (.cons h b e r), σ => match ev most n (.one h b e) σ with
    | none => none
    | some (c, σ1) => if c ≠ 0 ∨ σ1.hal = true then some (c, σ1) else ev most n (.list r) σ1
  | n + 1, .one h b e, σ => if h.k = 4 then some (0, { σ with hal := true }) else if h.k = 2 then (if condV h σ = true then ev most n (.list b) (condS h σ) else ev most n (.list e) (condS h σ)) else if h.k = 3 then ev most n (.loop h b true) σ
    else if h.i.o = 26 then (if most ≤ (σ.out.length : Int) then some (112, σ) else some (0, { σ with out := σ.out ++ [σ.s.m.a % 256] })) else some (0, { σ with s := doI h.i σ.s })
  | n + 1, .loop h b first, σ => if first = false ∧ σ.fuel < 1 then some (111, σ) else match ev most n (.list b) (spend first σ) with
    | none => none
    | some (c, σ1) => if c ≠ 0 ∨ σ1.hal = true then some (c, σ1) else if condV h σ1 = true then ev most n (.loop h b false) (condS h σ1) else some (0, condS h σ1)
theorem ev_sound {most : Int} : ∀ (n : Nat) (t : Tk) (σ : Rs) (c : Int) (σ' : Rs), ev most n t σ = some (c, σ') → Ev most t σ c σ' := by
  intro n
  induction n with
  | zero =>
    intro t σ c σ' h
    cases h
  | succ n ih =>
    intro t σ c σ' h
    match t with
    | .list .nil =>
      injection h with h
      injection h with h1 h2
      subst h1 h2
      exact .nil
    | .list (.cons hd b e r) =>
      unfold ev at h
      cases h1 : ev most n (.one hd b e) σ with
      | none => rw [h1] at h; cases h
      | some x =>
        obtain ⟨c1, σ1⟩ := x
        rw [h1] at h
        simp only at h
        by_cases hc : c1 ≠ 0 ∨ σ1.hal = true
        · rw [if_pos hc] at h
          injection h with h
          injection h with h2 h3
          subst h2 h3
          exact .stop (ih _ _ _ _ h1) hc
        · rw [if_neg hc] at h
          have hc0 : c1 = 0 := Decidable.byContradiction fun e => hc (.inl e)
          subst hc0
          exact .next (ih _ _ _ _ h1) (by cases hh : σ1.hal with | false => rfl | true => exact absurd (.inr hh) hc) (ih _ _ _ _ h)
    | .one hd b e =>
      unfold ev at h
      by_cases k4 : hd.k = 4
      · rw [if_pos k4] at h
        injection h with h
        injection h with h2 h3
        subst h2 h3
        exact .halt k4
      rw [if_neg k4] at h
      by_cases k2 : hd.k = 2
      · rw [if_pos k2] at h
        by_cases hv : condV hd σ = true
        · rw [if_pos hv] at h
          exact .yes k2 hv (ih _ _ _ _ h)
        · rw [if_neg hv] at h
          exact .no k2 (by simpa using hv) (ih _ _ _ _ h)
      rw [if_neg k2] at h
      by_cases k3 : hd.k = 3
      · rw [if_pos k3] at h
        exact .loop k3 (ih _ _ _ _ h)
      rw [if_neg k3] at h
      by_cases ho : hd.i.o = 26
      · rw [if_pos ho] at h
        by_cases hl : most ≤ (σ.out.length : Int)
        · rw [if_pos hl] at h
          injection h with h
          injection h with h2 h3
          subst h2 h3
          exact .full ⟨k4, k2, k3⟩ ho hl
        · rw [if_neg hl] at h
          injection h with h
          injection h with h2 h3
          subst h2 h3
          exact .put ⟨k4, k2, k3⟩ ho (by omega)
      · rw [if_neg ho] at h
        injection h with h
        injection h with h2 h3
        subst h2 h3
        exact .plain ⟨k4, k2, k3⟩ ho
    | .loop hd b first =>
      unfold ev at h
      by_cases hd0 : first = false ∧ σ.fuel < 1
      · rw [if_pos hd0] at h
        injection h with h
        injection h with h2 h3
        subst h2 h3
        obtain ⟨rfl, hf⟩ := hd0
        exact .dry hf
      rw [if_neg hd0] at h
      have hpre : first = true ∨ 1 ≤ σ.fuel := by
        cases first
        · exact .inr (by have : ¬ σ.fuel < 1 := fun e => hd0 ⟨rfl, e⟩; omega)
        · exact .inl rfl
      cases h1 : ev most n (.list b) (spend first σ) with
      | none => rw [h1] at h; cases h
      | some x =>
        obtain ⟨c1, σ1⟩ := x
        rw [h1] at h
        simp only at h
        by_cases hc : c1 ≠ 0 ∨ σ1.hal = true
        · rw [if_pos hc] at h
          injection h with h
          injection h with h2 h3
          subst h2 h3
          exact .lstop hpre (ih _ _ _ _ h1) hc
        · rw [if_neg hc] at h
          have hc0 : c1 = 0 := Decidable.byContradiction fun e => hc (.inl e)
          subst hc0
          have hh : σ1.hal = false := by cases hh : σ1.hal with | false => rfl | true => exact absurd (.inr hh) hc
          by_cases hv : condV hd σ1 = true
          · rw [if_pos hv] at h
            exact .lmore hpre (ih _ _ _ _ h1) hh hv (ih _ _ _ _ h)
          · rw [if_neg hv] at h
            injection h with h
            injection h with h2 h3
            subst h2 h3
            exact .lend hpre (ih _ _ _ _ h1) hh (by simpa using hv)
/-- A small machine. -/
def st (a b : Int) (f : Bool) : St := ⟨{ zM with a := a, b := b, f := f }, [0], [0]⟩
theorem st_ok {a b : Int} (f : Bool) (ha : U32 a) (hb : U32 b) : (st a b f).ok := ⟨⟨ha, hb, zM_ok.c, zM_ok.d, zM_ok.len, zM_ok.r⟩, fun x hx => by simp [st] at hx; subst hx; exact u32_0, fun x hx => by simp [st] at hx; subst hx; exact ⟨by omega, by omega⟩, by show rightM 1 1 = true; decide +kernel⟩
def hInc : Hd := ⟨1, ⟨3, 0, 0, 0⟩, false, ⟨0, 0, 0, 0⟩, 0⟩
def hLoop : Hd := ⟨3, ⟨0, 0, 0, 0⟩, false, ⟨20, 0, 7, 5⟩, 0⟩
def hHalt : Hd := ⟨4, ⟨0, 0, 0, 0⟩, false, ⟨0, 0, 0, 0⟩, 0⟩
def hIf : Hd := ⟨2, ⟨0, 0, 0, 0⟩, false, ⟨19, 0, 7, 0⟩, 0⟩
def fInc : Fo := .cons hInc .nil .nil .nil
def fLoop : Fo := .cons hLoop fInc .nil .nil
def fStop : Fo := .cons hIf (.cons hHalt .nil .nil .nil) .nil fInc
theorem runM_of {f : Fo} {post : Bool} {s : St} {fuel most : Int} {r : St × List Int × Int} {c : Int} {σ' : Rs} (hf : rightF post f = true) (hm : rightM s.hs.length s.ms.length = true) (he : Ev most (.list f) ⟨s, fuel, [], false⟩ c σ') (h : RunM f post s fuel most r) : r = (if c = 0 then (σ'.s, σ'.out, 0) else (zS, [], c)) := by
  unfold RunM at h
  rw [if_pos hf, if_pos hm] at h
  obtain ⟨c2, σ2, h2, h3⟩ := h
  obtain ⟨rfl, rfl⟩ := he.same h2
  exact h3
theorem aw1 {r : St × List Int × Int} (h : RunM fInc false (st 0 0 false) 0 0 r) : r = (st 1 0 false, [], 0) :=
  runM_of (c := 0) (σ' := ⟨st 1 0 false, 0, [], false⟩) (by decide +kernel) (by decide +kernel) (ev_sound 20 _ _ _ _ (by kernel_rfl)) h
theorem aw2 {r : St × List Int × Int} (h : RunM fLoop false (st 0 0 false) 4 0 r) : r = (st 5 0 false, [], 0) :=
  runM_of (c := 0) (σ' := ⟨st 5 0 false, 0, [], false⟩) (by decide +kernel) (by decide +kernel) (ev_sound 30 _ _ _ _ (by kernel_rfl)) h
theorem aw3 {r : St × List Int × Int} (h : RunM fLoop false (st 0 0 false) 3 0 r) : r = (zS, [], 111) :=
  runM_of (c := 111) (σ' := ⟨st 4 0 true, 0, [], false⟩) (by decide +kernel) (by decide +kernel) (ev_sound 30 _ _ _ _ (by kernel_rfl)) h
theorem aw4 {r : St × List Int × Int} (h : RunM fStop false (st 0 0 false) 0 0 r) : r = (st 0 0 true, [], 0) :=
  runM_of (c := 0) (σ' := ⟨st 0 0 true, 0, [], true⟩) (by decide +kernel) (by decide +kernel) (ev_sound 30 _ _ _ _ (by kernel_rfl)) h
end Go.Proofs.Ytebmgladdgmmeaa
namespace Go.Proofs.Ytebmgladdgmmeaa
open Go.RowKit Go.WideShapes
set_option linter.unusedVariables false
set_option linter.unusedSimpArgs false
def Fo.app : Fo → Fo → Fo
  | .nil, g => g
  | .cons h b e r, g => .cons h b e (r.app g)
/-- Is there no SHalt? -/
def noHalt : Fo → Bool
  | .nil => true
  | .cons h b e r => h.k != 4 && noHalt b && noHalt e && noHalt r
def noHaltT : Tk → Bool
  | .list f => noHalt f
  | .one h b e => h.k != 4 && noHalt b && noHalt e
  | .loop _ b _ => noHalt b
theorem noHalt_app : ∀ (f g : Fo), noHalt (f.app g) = (noHalt f && noHalt g)
  | .nil, g => by simp [Fo.app, noHalt]
  | .cons h b e r, g => by simp only [Fo.app, noHalt, noHalt_app r g, Bool.and_assoc]
theorem Fo.app_len : ∀ (f g : Fo), (f.app g).len = f.len + g.len
  | .nil, g => by simp [Fo.app, Fo.len]
  | .cons h b e r, g => by simp only [Fo.app, Fo.len, Fo.app_len r g]; omega
theorem Fo.app_tot : ∀ (f g : Fo), (f.app g).tot = f.tot + g.tot
  | .nil, g => by simp [Fo.app, Fo.tot]
  | .cons h b e r, g => by simp only [Fo.app, Fo.tot, Fo.app_tot r g]; omega
theorem spend_hal (first : Bool) (σ : Rs) : (spend first σ).hal = σ.hal := by cases first <;> rfl
theorem spend_out (first : Bool) (σ : Rs) : (spend first σ).out = σ.out := by cases first <;> rfl
theorem Ev.awake {most : Int} {t : Tk} {σ σ' : Rs} {c : Int} (h : Ev most t σ c σ') : noHaltT t = true → σ.hal = false → σ'.hal = false := by
  induction h with
  | nil => intro _ h; exact h
  | @stop hd b e r σ σ' c _ _ ih =>
    intro hn hh
    simp only [noHaltT, noHalt, Bool.and_eq_true] at hn
    exact ih (by simp only [noHaltT, Bool.and_eq_true]; exact hn.1) hh
  | @next hd b e r σ σ1 σ2 c _ hh1 _ _ ih2 =>
    intro hn hh
    simp only [noHaltT, noHalt, Bool.and_eq_true] at hn
    exact ih2 hn.2 hh1
  | @halt hd b e σ hk =>
    intro hn hh
    simp only [noHaltT, Bool.and_eq_true] at hn
    rw [hk] at hn
    exact absurd hn.1.1 (by decide)
  | @yes hd b e σ σ' c _ _ _ ih =>
    intro hn hh
    simp only [noHaltT, Bool.and_eq_true] at hn
    exact ih hn.1.2 hh
  | @no hd b e σ σ' c _ _ _ ih =>
    intro hn hh
    simp only [noHaltT, Bool.and_eq_true] at hn
    exact ih hn.2 hh
  | @loop hd b e σ σ' c _ _ ih =>
    intro hn hh
    simp only [noHaltT, Bool.and_eq_true] at hn
    exact ih hn.1.2 hh
  | full _ _ _ => intro _ h; exact h
  | put _ _ _ => intro _ h; exact h
  | plain _ _ => intro _ h; exact h
  | dry _ => intro _ h; exact h
  | lstop _ _ _ ih => intro hn hh; exact ih hn (by rw [spend_hal]; exact hh)
  | lend _ _ _ _ ih => intro hn hh; exact ih hn (by rw [spend_hal]; exact hh)
  | lmore _ _ hh1 _ _ _ ih2 => intro hn hh; exact ih2 hn hh1
theorem Ev.code {most : Int} {t : Tk} {σ σ' : Rs} {c : Int} (h : Ev most t σ c σ') : c = 0 ∨ c = 111 ∨ c = 112 := by
  induction h with
  | nil => exact .inl rfl
  | stop _ _ ih => exact ih
  | next _ _ _ _ ih => exact ih
  | halt _ => exact .inl rfl
  | yes _ _ _ ih => exact ih
  | no _ _ _ ih => exact ih
  | loop _ _ ih => exact ih
  | full _ _ _ => exact .inr (.inr rfl)
  | put _ _ _ => exact .inl rfl
  | plain _ _ => exact .inl rfl
  | dry _ => exact .inr (.inl rfl)
  | lstop _ _ _ ih => exact ih
  | lend _ _ _ _ _ => exact .inl rfl
  | lmore _ _ _ _ _ _ ih => exact ih
/-- Rounds never fall below nought; no more is put out than there is room. -/
theorem Ev.bounds {most : Int} {t : Tk} {σ σ' : Rs} {c : Int} (h : Ev most t σ c σ') : 0 ≤ σ.fuel → (σ.out.length : Int) ≤ most → 0 ≤ σ'.fuel ∧ (σ'.out.length : Int) ≤ most := by
  have hs : ∀ (first : Bool) (σ : Rs), (first = true ∨ 1 ≤ σ.fuel) → 0 ≤ σ.fuel → 0 ≤ (spend first σ).fuel := fun first σ h1 h2 => by
    cases first
    · rcases h1 with h1 | h1
      · cases h1
      · show 0 ≤ σ.fuel - 1
        omega
    · exact h2
  induction h with
  | nil => intro h1 h2; exact ⟨h1, h2⟩
  | stop _ _ ih => exact ih
  | next _ _ _ ih1 ih2 => intro h1 h2; obtain ⟨k1, k2⟩ := ih1 h1 h2; exact ih2 k1 k2
  | halt _ => intro h1 h2; exact ⟨h1, h2⟩
  | yes _ _ _ ih => exact ih
  | no _ _ _ ih => exact ih
  | loop _ _ ih => exact ih
  | full _ _ _ => intro h1 h2; exact ⟨h1, h2⟩
  | put _ _ _ => intro h1 h2; refine ⟨h1, ?_⟩; simp; omega
  | plain _ _ => intro h1 h2; exact ⟨h1, h2⟩
  | dry _ => intro h1 h2; exact ⟨h1, h2⟩
  | lstop hf _ _ ih => intro h1 h2; exact ih (hs _ _ hf h1) (by rw [spend_out]; exact h2)
  | lend hf _ _ _ ih => intro h1 h2; exact ih (hs _ _ hf h1) (by rw [spend_out]; exact h2)
  | lmore hf _ _ _ _ ih1 ih2 => intro h1 h2; obtain ⟨k1, k2⟩ := ih1 (hs _ _ hf h1) (by rw [spend_out]; exact h2); exact ih2 k1 k2
/-- More rounds, bytes ahead. -/
def sh (k : Int) (pre : List Int) (σ : Rs) : Rs := { σ with fuel := σ.fuel + k, out := pre ++ σ.out }
theorem sh_spend (k : Int) (pre : List Int) (first : Bool) (σ : Rs) : spend first (sh k pre σ) = sh k pre (spend first σ) := by
  cases first
  · unfold spend sh
    simp only [Bool.false_eq_true, if_false]
    congr 1
    omega
  · rfl
theorem Ev.shift {most most' k : Int} {pre : List Int} (hk : 0 ≤ k) (hm : most + pre.length ≤ most') {t : Tk} {σ σ' : Rs} {c : Int} (h : Ev most t σ c σ') : c = 0 → Ev most' t (sh k pre σ) 0 (sh k pre σ') := by
  have hf : ∀ (first : Bool) (σ : Rs), (first = true ∨ 1 ≤ σ.fuel) → (first = true ∨ 1 ≤ (sh k pre σ).fuel) := fun first σ h1 => by
    rcases h1 with h1 | h1
    · exact .inl h1
    · exact .inr (by show 1 ≤ σ.fuel + k; omega)
  induction h with
  | nil => intro _; exact .nil
  | @stop hd b e r σ σ' c _ hc ih =>
    intro h0
    exact .stop (ih h0) (hc.elim (fun e => absurd h0 e) .inr)
  | next _ hh _ ih1 ih2 => intro h0; exact .next (ih1 rfl) hh (ih2 h0)
  | halt hk4 => intro _; exact .halt hk4
  | yes k2 hv _ ih => intro h0; exact .yes k2 hv (ih h0)
  | no k2 hv _ ih => intro h0; exact .no k2 hv (ih h0)
  | loop k3 _ ih => intro h0; exact .loop k3 (ih h0)
  | full _ _ _ => intro h0; cases h0
  | @put hd b e σ kk ho hl =>
    intro _
    have h1 := Ev.put (most := most') (h := hd) (b := b) (e := e) (σ := sh k pre σ) kk ho (by show ((pre ++ σ.out).length : Int) < most'; simp; omega)
    have e1 : ({ sh k pre σ with out := (sh k pre σ).out ++ [(sh k pre σ).s.m.a % 256] } : Rs) = sh k pre { σ with out := σ.out ++ [σ.s.m.a % 256] } := by
      unfold sh
      simp only [List.append_assoc]
    rw [e1] at h1
    exact h1
  | plain kk ho => intro _; exact .plain kk ho
  | dry _ => intro h0; cases h0
  | @lstop hd b first σ σ' c hp _ hc ih =>
    intro h0
    exact .lstop (hf _ _ hp) (by rw [sh_spend]; exact ih h0) (hc.elim (fun e => absurd h0 e) .inr)
  | @lend hd b first σ σ' hp _ hh hv ih => intro _; exact Ev.lend (σ := sh k pre σ) (σ' := sh k pre σ') (hf _ _ hp) (by rw [sh_spend]; exact ih rfl) hh hv
  | @lmore hd b first σ σ1 σ2 c hp _ hh hv _ ih1 ih2 => intro h0; exact Ev.lmore (σ := sh k pre σ) (σ1 := sh k pre σ1) (hf _ _ hp) (by rw [sh_spend]; exact ih1 rfl) hh hv (ih2 h0)
theorem Ev.app {most : Int} : ∀ {f g : Fo} {σ σ1 σ2 : Rs} {c : Int}, Ev most (.list f) σ 0 σ1 → σ1.hal = false → Ev most (.list g) σ1 c σ2 → Ev most (.list (f.app g)) σ c σ2
  | .nil, g, σ, σ1, σ2, c, h1, hh, h2 => by
    cases h1
    exact h2
  | .cons h b e r, g, σ, σ1, σ2, c, h1, hh, h2 => by
    cases h1 with
    | stop a hc =>
      rcases hc with hc | hc
      · exact absurd rfl hc
      · rw [hh] at hc; cases hc
    | next a ha h3 => exact .next a ha (Ev.app h3 hh h2)
/-- The stage's theorem. -/
theorem lists_both {a b : Fo} {s : St} {σ1 σ2 : Rs} (hn : noHalt a = true) (h1 : Ev 300 (.list a) ⟨s, 100, [], false⟩ 0 σ1) (h2 : Ev 300 (.list b) ⟨σ1.s, 100, [], false⟩ 0 σ2) : ∃ F, Ev 600 (.list (a.app b)) ⟨s, 200, [], false⟩ 0 ⟨σ2.s, F, σ1.out ++ σ2.out, σ2.hal⟩ := by
  have hb := h1.bounds (by show (0 : Int) ≤ 100; omega) (by show ((0 : Nat) : Int) ≤ 300; omega)
  have hh := h1.awake hn rfl
  have e1 := h1.shift (most' := 600) (k := 100) (pre := []) (by omega) (by simp) rfl
  have e2 := h2.shift (most' := 600) (k := σ1.fuel) (pre := σ1.out) hb.1 (by omega) rfl
  have e3 : sh σ1.fuel σ1.out ⟨σ1.s, 100, [], false⟩ = sh 100 [] σ1 := by
    unfold sh
    simp only [List.append_nil, List.nil_append]
    rw [Int.add_comm]
    obtain ⟨a1, a2, a3, a4⟩ := σ1
    simp at hh
    subst hh
    rfl
  rw [e3] at e2
  exact ⟨_, Ev.app (σ1 := sh 100 [] σ1) e1 hh e2⟩
end Go.Proofs.Ytebmgladdgmmeaa
namespace Go.Proofs.Ytebmgladdgmmeaa
open Go.RowKit Go.WideShapes
set_option linter.unusedVariables false
set_option linter.unusedSimpArgs false
def HtN (N : Nat) : Prop := ∀ (f : Fo), f.tot ≤ N → ∀ (w : World) (A : Option Addr) (c : Nat), RdS w.heap.size w A f → f.len ≤ c → f.len ≤ lenMost → Calls Try.prog 34 #[.slice A f.len c] w (Quiet (.bool (!noHalt f)) w)
set_option maxRecDepth 100000 in
set_option maxHeartbeats 8000000 in
theorem haltsN : ∀ N, HtN N := by
  intro N
  induction N with
  | zero =>
    intro f hf w A c hr hc hl
    have hfl := f.len_tot
    obtain rfl : f = .nil := Fo.nil_of (by omega)
    clear hr hfl hf
    go_enter Try.func34, Try.ntmps34
    go_wp2_with fail
    go_loopw [7] (fun i wr => wr = w ∧ i = .int .i64 0) (fun _ _ => 0)
    case atStart => exact ⟨rfl, rfl⟩
    case round =>
      obtain ⟨rfl, rfl⟩ := hrel
      go_wp2_with fail
      go_ret
      exact ⟨rfl, Below.refl _ _⟩
  | succ N ih =>
    have IH := Lib.hid ih
    clear ih
    intro f hf w A c hr hc hl
    have hg : ∃ g o, (0 < f.len → A = some ⟨g, o, none⟩) ∧ RdF w.heap.size w f g o := by
      rcases Nat.eq_zero_or_pos f.len with h0 | h0
      · obtain rfl := Fo.nil_of h0
        exact ⟨0, 0, fun h => absurd h (by simp [Fo.len]), trivial⟩
      · obtain ⟨g, o, e, h⟩ := hr h0
        exact ⟨g, o, fun _ => e, h⟩
    obtain ⟨g, o, hA, hrd⟩ := hg
    have hst : ∃ (k : Nat) (r : Fo), k + r.len = f.len ∧ (Value.int .i64 0) = .int .i64 k ∧ RdF w.heap.size w r g (o + k * 13) ∧ r.tot ≤ f.tot ∧ noHalt f = noHalt r ∧ Below w.heap.size w w :=
      ⟨0, f, by omega, rfl, by simpa using hrd, Nat.le_refl _, rfl, Below.refl _ _⟩
    have HST := Lib.hid hst
    have HA := Lib.hid hA
    have HF := Lib.hid hf
    clear hst hrd hr hA hf
    obtain ⟨len, hlen⟩ : ∃ len, f.len = len := ⟨_, rfl⟩
    rw [hlen] at hc hl HST ⊢
    have HLN := Lib.hid hlen
    clear hlen
    unfold lenMost at hl
    obtain ⟨nf, hnf⟩ : ∃ z, noHalt f = z := ⟨_, rfl⟩
    rw [hnf] at HST ⊢
    have HNF := Lib.hid hnf
    clear hnf
    go_enter Try.func34, Try.ntmps34
    go_wp2_with fail
    go_loopw [7] (fun i wr => ∃ (k : Nat) (r : Fo), k + r.len = len ∧ i = .int .i64 k ∧ RdF w.heap.size w r g (o + k * 13) ∧ r.tot ≤ f.tot ∧ nf = noHalt r ∧ Below w.heap.size w wr) (fun i _ => len - (intOf i).toNat)
    case atStart => exact HST.out
    case round =>
      obtain ⟨k, r, hk, rfl, hrd, htot, hnr, hlow⟩ := hrel
      have LW := Lib.hid hlow
      have HNR := Lib.hid hnr
      clear HST
      rcases r with _ | ⟨h, b, e, r⟩
      · have hkl : k = len := by simpa [Fo.len] using hk
        subst hkl
        have g3 : decide (k < k) = false := by simp
        clear hrd htot hnr hlow
        go_wp2_with fail
        go_ret
        exact ⟨by rw [HNR.out]; rfl, LW.out⟩
      · obtain ⟨hdok, hgB, ⟨Ab, cb, Ae, ce, hcl, hbl, hel, hbr, her⟩, hrest⟩ := hrd
        simp only [Fo.len] at hk
        simp only [Fo.tot] at htot
        simp only [noHalt] at hnr
        have hkl : k < len := by omega
        have hkI : (k : Int) < (len : Int) := by omega
        have hk0 : (0 : Int) ≤ (k : Int) := by omega
        have g3 : decide (k < len) = true := by simpa using hkl
        have hA := HA.out (by rw [HLN.out]; omega)
        subst hA
        have hcw := (Cells.of hcl).below hlow hgB
        obtain ⟨d0, d1, d2, d3, d4, d5, d6, d7, d8, d9, d10, d11, d12⟩ := hcw
        have ib := fun W (hW : Below w.heap.size w W) => IH.out b (by have := HF.out; omega) W Ab cb (((show RdS w.heap.size w Ab b from hbr).below hW).mono hW.size) hbl.1 hbl.2.2
        have ie := fun W (hW : Below w.heap.size w W) => IH.out e (by have := HF.out; omega) W Ae ce (((show RdS w.heap.size w Ae e from her).below hW).mono hW.size) hel.1 hel.2.2
        obtain ⟨bn, hbn⟩ : ∃ z, b.len = z := ⟨_, rfl⟩
        obtain ⟨en, hen⟩ : ∃ z, e.len = z := ⟨_, rfl⟩
        obtain ⟨nb, hnb⟩ : ∃ z, noHalt b = z := ⟨_, rfl⟩
        obtain ⟨ne, hne⟩ : ∃ z, noHalt e = z := ⟨_, rfl⟩
        rw [hnb, hne] at hnr
        simp only [hbn, hen, hnb, hne] at ib ie d10 d11
        have hblk := Blk.new wr 35 #[.int .u8 h.k, .int .u8 h.i.o, .int .i64 h.i.d, .int .i64 h.i.s, .int .i64 h.i.n, .bool h.nt, .int .u8 h.ci.o, .int .i64 h.ci.d, .int .i64 h.ci.s, .int .i64 h.ci.n, .slice Ab bn cb, .slice Ae en ce, .int .i64 h.ln]
        have hla := hlow.alloc hlow.size (.cells #[.int .u8 h.k, .int .u8 h.i.o, .int .i64 h.i.d, .int .i64 h.i.s, .int .i64 h.i.n, .bool h.nt, .int .u8 h.ci.o, .int .i64 h.ci.d, .int .i64 h.ci.s, .int .i64 h.ci.n, .slice Ab bn cb, .slice Ae en ce, .int .i64 h.ln] 35)
        obtain ⟨W1, hW1⟩ : ∃ z, wr.alloc (.cells #[.int .u8 h.k, .int .u8 h.i.o, .int .i64 h.i.d, .int .i64 h.i.s, .int .i64 h.i.n, .bool h.nt, .int .u8 h.ci.o, .int .i64 h.ci.d, .int .i64 h.ci.s, .int .i64 h.ci.n, .slice Ab bn cb, .slice Ae en ce, .int .i64 h.ln] 35) = z := ⟨_, rfl⟩
        rw [hW1] at hblk hla
        have HBA := Lib.hid hblk
        have LA := Lib.hid hla
        have IB := Lib.hid ib
        have IE := Lib.hid ie
        have HRS := Lib.hid hrest
        have HK := Lib.hid hk
        have HTT := Lib.hid htot
        have HNN := Lib.hid hnr
        have e0 := hblk.cell 0
        have e10 := hblk.cell 10
        simp at e0 e10
        clear hdok hcl hbl hel hbr her hrest ib ie hblk hla hk htot hbn hen hnb hne hnr hlow hkl
        by_cases k4 : h.k = 4
        · have y4 : (h.k == 4) = true := by simpa using k4
          have K4 := Lib.hid k4
          clear k4
          go_wp2_with fail
          go_ret
          exact ⟨by rw [HNN.out, K4.out]; rfl, LA.out⟩
        · have y4 : (h.k == 4) = false := by simpa using k4
          have y5 : (h.k != 4) = true := by simpa using k4
          have Y5 := Lib.hid y5
          clear k4 y5
          go_wp2_with fail
          refine (IB.out W1 LA.out).mono ?_
          rintro e' w2 ⟨rfl, hb2⟩
          have L2 := Lib.hid (ch0 LA.out hb2)
          have e11 := (HBA.out.below hb2).cell 11
          simp at e11
          clear hb2
          cases nb
          · go_wp2_with fail
            go_ret
            exact ⟨by rw [HNN.out, Y5.out]; rfl, L2.out⟩
          · go_wp2_with fail
            refine (IE.out w2 L2.out).mono ?_
            rintro e' w3 ⟨rfl, hb3⟩
            have L3 := Lib.hid (ch0 L2.out hb3)
            clear hb3
            cases ne
            · go_wp2_with fail
              go_ret
              exact ⟨by rw [HNN.out, Y5.out]; rfl, L3.out⟩
            · go_wp2_with fail
              go_roundw
              case rel => exact ⟨k + 1, r, by have := HK.out; omega, by go_num, by have := HRS.out; rwa [show o + k * 13 + 13 = o + (k + 1) * 13 by omega] at this, by have := HTT.out; omega, by rw [HNN.out, Y5.out]; simp, L3.out⟩
              case measure => simp [intOf]; omega
end Go.Proofs.Ytebmgladdgmmeaa
namespace Go.Proofs.Ytebmgladdgmmeaa
open Go.RowKit Go.WideShapes
set_option linter.unusedVariables false
set_option linter.unusedSimpArgs false
section
variable {P : Program} {t e : TypeId} {z : Value} {size bytes : Nat}
theorem run_appR (T : SlS P t e z size bytes) (w : World) (ty : TypeId) (base : Nat) (v : Value) (n : Nat) (xs : List Value) (hown : w.ownsRow base e size v n xs)
    (A : Option Addr) (m c : Nat) (news : List Value) (hl : news.length = m * size) (hr : Rd w A news) (h1 : ∀ u ∈ news, u.oneCell' = true)
    (hby : (n + m) * bytes ≤ 140737488355328) (h63 : n + m ≤ maxLen) (hbase : base ≤ w.heap.size) :
    ∃ v' w', (Builtin.append_ #[t, t] ty #[v, .slice A m c]).run P w = .ok v' w' ∧ w'.ownsRow base e size v' (n + m) (xs ++ news) ∧ w.grownBy w' v.ownBlock ∧ Below base w w' := by
  obtain ⟨i, hi, hz, hs, hb⟩ := info_parts T.i
  rcases Nat.eq_zero_or_pos m with rfl | hm
  · have hn : news = [] := List.eq_nil_of_length_eq_zero (by rw [hl]; simp)
    subst hn
    have hr0 : (Builtin.append_ #[t, t] ty #[v, .slice A 0 c]).run P w = .ok v w := by
      rcases hown.2 with ⟨rfl, rfl⟩ | ⟨g, cap, cur, rfl, _, _, hnc, _⟩
      · cases A <;> simp [Builtin.append_, run_underlying T.u, sizeOf, typeInfo, hi, Builtin.lenOf, Builtin.firstCells, loadCells, loadCellsFrom]
      · cases A <;> simp [Builtin.append_, run_underlying T.u, sizeOf, typeInfo, hi, Builtin.lenOf, Builtin.firstCells, hnc, storeCells, loadCells, loadCellsFrom]
    exact ⟨v, w, hr0, by simpa using hown, World.grownBy.refl w _, Below.refl _ _⟩
  · have hpos : 0 < news.length := by rw [hl]; exact Nat.mul_pos hm T.pos
    obtain ⟨b, off, rfl, _, hc⟩ := hr hpos
    obtain ⟨v', w', hrun, h2, h3, _, h5⟩ := run_append_own_at (P := P) w base t ty e i z size bytes T.u hi hz hs hb T.z T.pos v n xs hown ⟨b, off, none⟩ m c news hl (fun j u hu => by rw [addr_add]; exact hc j u hu) h1 h63 hby hbase
    exact ⟨v', w', hrun, h2, h3, (Below.refl _ _).grown h3 hbase (own_ge hown)⟩
theorem wpList_appR {ops : Array Oper} {rest : List Oper} {o : Oper} {a : Act} {w : World} {Q : Exit → Act → World → Prop} (T : SlS P t e z size bytes) (hgd : Region.wanted o (yielded ops a.tmps) = true) (s x : Operand)
    (ho : o.op = .call { callee := .builtin .append, args := #[s, x], argTypes := #[t, t] })
    (base : Nat) (v : Value) (n : Nat) (xs : List Value) (hs : a.eval s = v) (hown : w.ownsRow base e size v n xs)
    (A : Option Addr) (m c : Nat) (news : List Value) (hx : a.eval x = .slice A m c) (hl : news.length = m * size) (hr : Rd w A news) (h1 : ∀ u ∈ news, u.oneCell' = true)
    (hby : (n + m) * bytes ≤ 140737488355328) (h63 : n + m ≤ maxLen) (hbase : base ≤ w.heap.size)
    (h : ∀ v' w', w'.ownsRow base e size v' (n + m) (xs ++ news) → w.grownBy w' v.ownBlock → Below base w w' → wpList P ops Q rest (a.put o.dst v') w') : wpList P ops Q (o :: rest) a w := by
  obtain ⟨v', w', hrun, h2, h3, h4⟩ := run_appR (P := P) T w o.type base v n xs hown A m c news hl hr h1 hby h63 hbase
  refine wpList_want hgd fun K hK => ?_
  unfold Oper.wp execOp
  simp only [ho, resolve, invoke, builtin, Sem.run_bind, Sem.run_pure, Result.andThen_ok, List.map_toArray, List.map_cons, List.map_nil, hs, hx, hrun]
  exact hK _ _ (h v' w' h2 h3 h4)
end
theorem tSt : SlS Try.prog 22 35 (.agg #[.int .u8 0, .int .u8 0, .int .i64 0, .int .i64 0, .int .i64 0, .bool false, .int .u8 0, .int .i64 0, .int .i64 0, .int .i64 0, .slice none 0 0, .slice none 0 0, .int .i64 0]) 13 136 := ⟨Try.underlying22, by kernel_rfl, rfl, by decide⟩
/-- A list's cells, its statements' lists read at w. -/
def FlatF (B : Nat) (w : World) : Fo → List Value → Prop
  | .nil, xs => xs = []
  | .cons h b e r, xs => h.ok ∧ ∃ Ab cb Ae ce rest, xs = h.cells (.slice Ab b.len cb) (.slice Ae e.len ce) ++ rest ∧ (b.len ≤ cb ∧ cb ≤ maxLen ∧ b.len ≤ lenMost) ∧ (e.len ≤ ce ∧ ce ≤ maxLen ∧ e.len ≤ lenMost) ∧ RdS B w Ab b ∧ RdS B w Ae e ∧ FlatF B w r rest
theorem hd_len (h : Hd) (vb ve : Value) : (h.cells vb ve).length = 13 := rfl
theorem FlatF.length {B : Nat} {w : World} : ∀ {f : Fo} {xs : List Value}, FlatF B w f xs → xs.length = f.len * 13
  | .nil, xs, h => by
    have h : xs = [] := h
    subst h
    simp [Fo.len]
  | .cons hd b e r, xs, h => by
    obtain ⟨_, Ab, cb, Ae, ce, rest, rfl, _, _, _, _, hr⟩ := h
    have := FlatF.length hr
    rw [List.length_append, hd_len, this]
    simp only [Fo.len]
    omega
theorem FlatF.one {B : Nat} {w : World} : ∀ {f : Fo} {xs : List Value}, FlatF B w f xs → ∀ u ∈ xs, u.oneCell' = true
  | .nil, xs, h, u, hu => by
    have h : xs = [] := h
    subst h
    cases hu
  | .cons hd b e r, xs, h, u, hu => by
    obtain ⟨_, Ab, cb, Ae, ce, rest, rfl, _, _, _, _, hr⟩ := h
    rcases List.mem_append.1 hu with hu | hu
    · simp [Hd.cells] at hu
      rcases hu with rfl | rfl | rfl | rfl | rfl | rfl | rfl | rfl | rfl | rfl | rfl | rfl | rfl <;> rfl
    · exact FlatF.one hr u hu
theorem FlatF.of {B : Nat} {w : World} : ∀ (f : Fo) (g o : Nat), RdF B w f g o → ∃ xs, FlatF B w f xs ∧ ∀ j u, xs[j]? = some u → w.cell? ⟨g, o + j, none⟩ = some u
  | .nil, g, o, _ => ⟨[], rfl, fun j u hu => by simp at hu⟩
  | .cons hd b e r, g, o, ⟨h1, h2, ⟨Ab, cb, Ae, ce, h3, h4, h5, h6, h7⟩, h8⟩ => by
    obtain ⟨xs, k1, k2⟩ := FlatF.of r g (o + 13) h8
    refine ⟨hd.cells (.slice Ab b.len cb) (.slice Ae e.len ce) ++ xs, ⟨h1, Ab, cb, Ae, ce, xs, rfl, h4, h5, h6, h7, k1⟩, fun j u hu => ?_⟩
    rcases Nat.lt_or_ge j 13 with hj | hj
    · rw [List.getElem?_append_left (by rw [hd_len]; exact hj)] at hu
      exact h3 j u hu
    · rw [List.getElem?_append_right (by rw [hd_len]; exact hj), hd_len] at hu
      have := k2 (j - 13) u hu
      rwa [show o + 13 + (j - 13) = o + j by omega] at this
theorem FlatF.rd {B B' : Nat} {w w' : World} (hb : Below B w w') (hB : B ≤ B') : ∀ (f : Fo) (xs : List Value) (g o : Nat), FlatF B w f xs → g < B' → (∀ j u, xs[j]? = some u → w'.cell? ⟨g, o + j, none⟩ = some u) → RdF B' w' f g o
  | .nil, xs, g, o, _, _, _ => trivial
  | .cons hd b e r, xs, g, o, h, hg, hc => by
    obtain ⟨h1, Ab, cb, Ae, ce, rest, rfl, h4, h5, h6, h7, h8⟩ := h
    refine ⟨h1, hg, ⟨Ab, cb, Ae, ce, fun j u hu => ?_, h4, h5, (show RdS B' w' Ab b from (h6.below hb).mono hB), (show RdS B' w' Ae e from (h7.below hb).mono hB)⟩, FlatF.rd hb hB r rest g (o + 13) h8 hg (fun j u hu => ?_)⟩
    · exact hc j u (by rw [List.getElem?_append_left (List.getElem?_eq_some_iff.1 hu).1]; exact hu)
    · have := hc (13 + j) u (by rw [List.getElem?_append_right (by rw [hd_len]; omega), hd_len, Nat.add_sub_cancel_left]; exact hu)
      rwa [show o + (13 + j) = o + 13 + j by omega] at this
theorem FlatF.app {B : Nat} {w : World} : ∀ {f g : Fo} {xs ys : List Value}, FlatF B w f xs → FlatF B w g ys → FlatF B w (f.app g) (xs ++ ys)
  | .nil, g, xs, ys, h, k => by
    have h : xs = [] := h
    subst h
    exact k
  | .cons hd b e r, g, xs, ys, h, k => by
    obtain ⟨h1, Ab, cb, Ae, ce, rest, rfl, h4, h5, h6, h7, h8⟩ := h
    exact ⟨h1, Ab, cb, Ae, ce, rest ++ ys, by rw [List.append_assoc], h4, h5, h6, h7, FlatF.app h8 k⟩
/-- What a list's slice reads as. -/
theorem FlatF.ofS {B : Nat} {w : World} {A : Option Addr} {f : Fo} (h : RdS B w A f) (hB : B ≤ w.heap.size) : ∃ xs, FlatF B w f xs ∧ Rd w A xs := by
  rcases Nat.eq_zero_or_pos f.len with h0 | h0
  · obtain rfl := Fo.nil_of h0
    exact ⟨[], rfl, Rd.nil _ _⟩
  · obtain ⟨g, o, rfl, hr⟩ := h h0
    obtain ⟨xs, k1, k2⟩ := FlatF.of f g o hr
    refine ⟨xs, k1, fun _ => ⟨g, o, rfl, ?_, k2⟩⟩
    cases f with
    | nil => simp [Fo.len] at h0
    | cons hd b e r => exact Nat.lt_of_lt_of_le hr.2.1 hB
end Go.Proofs.Ytebmgladdgmmeaa
