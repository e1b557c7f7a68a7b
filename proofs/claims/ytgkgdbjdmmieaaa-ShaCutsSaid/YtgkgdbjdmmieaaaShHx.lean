/- The law's hex; the chapter's examples reckoned; awake. -/
import Derived.Test.YtgkgdbjdmmieaaaShOf
namespace Go.Proofs.Ytgkgdbjdmmieaaa
open Go.RowKit Go.WideShapes
set_option linter.unusedVariables false
set_option linter.unusedSimpArgs false
def digB (h : Int) : ByteArray := (⟨#[48, 49, 50, 51, 52, 53, 54, 55, 56, 57, 97, 98, 99, 100, 101, 102]⟩ : ByteArray).extract h.toNat (h + 1).toNat
def hexB (bs : List Int) : Nat → ByteArray
  | 0 => ⟨#[]⟩
  | k + 1 => hexB bs k ++ digB (bs.getD k 0 / 16) ++ digB (bs.getD k 0 % 16)
theorem digB_size (h : Int) : (digB h).size ≤ 16 := by
  unfold digB
  rw [ByteArray.size_extract]
  have : (⟨#[48, 49, 50, 51, 52, 53, 54, 55, 56, 57, 97, 98, 99, 100, 101, 102]⟩ : ByteArray).size = 16 := rfl
  omega
theorem hexB_size (bs : List Int) : ∀ k, (hexB bs k).size ≤ 32 * k
  | 0 => Nat.le_refl _
  | k + 1 => by
    have := hexB_size bs k
    have := digB_size (bs.getD k 0 / 16)
    have := digB_size (bs.getD k 0 % 16)
    simp only [hexB, ByteArray.size_append]
    omega
set_option maxHeartbeats 1000000 in
theorem hex_any (bs : List Int) (w : World) (hl : bs.length = 20) (ho : Oct bs) : Calls Try.prog 7 #[.agg (octs bs).toArray] w (Quiet (.string (hexB bs 20)) w) := by
  have k0 := Blk.new w 23 (octs bs).toArray
  have K0 := Lib.hid k0
  have hb0 := (Below.refl w.heap.size w).alloc (Nat.le_refl _) (.cells (octs bs).toArray 23)
  have HB0 := Lib.hid hb0
  have hcell : ∀ k, k < 20 → (octs bs).toArray[k]? = some (.int .u8 (bs.getD k 0)) := fun k hk => by rw [List.getElem?_toArray]; exact octs_at (by omega)
  have HC := Lib.hid hcell
  clear k0 hb0 hcell
  generalize (octs bs).toArray = cs at *
  go_enter Try.func7, Try.ntmps7
  go_wp2_with fail
  go_loopw [3, 4] (fun v i wr => ∃ k : Nat, k ≤ 20 ∧ i = .int .i64 k ∧ v = .string (hexB bs k) ∧ Blk wr w.heap.size 23 cs ∧ Below w.heap.size w wr) (fun _ i _ => 20 - (intOf i).toNat)
  case atStart => exact ⟨0, by omega, rfl, rfl, K0.out, HB0.out⟩
  case round =>
    obtain ⟨k, hk, rfl, rfl, hbk, hb⟩ := hrel
    have HBK := Lib.hid hbk
    have HB := Lib.hid hb
    by_cases hlt : k < 20
    · have c0 := (hbk.cell k).trans (HC.out k hlt)
      have b0 := ho.getD k
      have hst : hexB bs (k + 1) = hexB bs k ++ digB (bs.getD k 0 / 16) ++ digB (bs.getD k 0 % 16) := rfl
      generalize bs.getD k 0 = x at *
      have hand : bits .and .u8 x 15 = x % 16 := by
        rw [u8_and x 15 b0.1 (by omega) (by decide) (by decide)]
        show ((x.toNat &&& (2 ^ 4 - 1) : Nat) : Int) = _
        rw [Nat.and_two_pow_sub_one_eq_mod]
        omega
      have h1 : x / 16 ≤ 15 := by omega
      have h2 : x % 16 ≤ 15 := by omega
      have h3 : (0 : Int) ≤ x / 16 := by omega
      have h4 : (0 : Int) ≤ x % 16 := by omega
      have hw1 : IntKind.u8.wrap (x / 16 + 1) = x / 16 + 1 := by rw [IntKind.wrap_u8']; omega
      have hw2 : IntKind.u8.wrap (x % 16 + 1) = x % 16 + 1 := by rw [IntKind.wrap_u8']; omega
      have hsz := hexB_size bs k
      generalize hexB bs k = s at *
      have z1 := digB_size (x / 16)
      have z2 := digB_size (x % 16)
      have hc1 : ∀ W, (Op.stringOp .add s (digB (x / 16))).run Try.prog W = .ok (.string (s ++ digB (x / 16))) W := fun W => run_string_add_sum _ _ _ (by omega)
      have hc2 : ∀ W, (Op.stringOp .add (s ++ digB (x / 16)) (digB (x % 16))).run Try.prog W = .ok (.string (s ++ digB (x / 16) ++ digB (x % 16))) W := fun W => run_string_add_sum _ _ _ (by rw [ByteArray.size_append]; omega)
      unfold digB at hc1 hc2 hst
      clear z1 z2
      have HST := Lib.hid hst
      clear hst hbk hb
      go_wp2_with fail
      go_quiet (fail)
      go_wp2_with fail
      go_roundw
      case rel => exact ⟨k + 1, by omega, by go_num, by rw [HST.out], HBK.out.drewN _, below_drewN HB.out _⟩
      case measure => simp [intOf]; omega
    · obtain rfl : k = 20 := by omega
      clear hbk hb
      generalize hexB bs 20 = s at *
      go_wp2_with fail
      go_ret
      exact ⟨rfl, HB.out⟩
/-! Reckoned in the kernel: each number is brought to its value ahead of the next step. -/
def fz {α : Type} (x : Int) (k : Int → α) : α := match x with
  | .ofNat 0 => k 0
  | .ofNat (n + 1) => k (.ofNat (n + 1))
  | .negSucc n => k (.negSucc n)
theorem fz_eq {α : Type} (x : Int) (k : Int → α) : fz x k = k x := by
  cases x with
  | ofNat n => cases n <;> rfl
  | negSucc n => rfl
def nextF (bs acc : List Int) (t : Nat) : Int :=
  if t < 16 then wordI bs t else rotA (xorI (xorI (xorI (acc.getD 2 0) (acc.getD 7 0)) (acc.getD 13 0)) (acc.getD 15 0))
def schedF {α : Type} (bs : List Int) (k : List Int → α) : Nat → Nat → List Int → α
  | 0, _, acc => k acc.reverse
  | n + 1, t, acc => fz (nextF bs acc t) fun x => schedF bs k n (t + 1) (x :: acc)
theorem getD_reverse (L : List Int) (i : Nat) (h : i < L.length) : L.reverse.getD i 0 = L.getD (L.length - (i + 1)) 0 := by
  rw [List.getD_eq_getElem?_getD, List.getD_eq_getElem?_getD, List.getElem?_reverse h, Nat.sub_sub, Nat.add_comm 1 i]
theorem nextF_eq (bs : List Int) (t : Nat) : nextF bs (sched bs t).reverse t = nextW bs (sched bs t) t := by
  unfold nextF nextW
  by_cases h : t < 16
  · rw [if_pos h, if_pos h]
  · rw [if_neg h, if_neg h, getD_reverse _ 2 (by rw [sched_length]; omega), getD_reverse _ 7 (by rw [sched_length]; omega), getD_reverse _ 13 (by rw [sched_length]; omega), getD_reverse _ 15 (by rw [sched_length]; omega), sched_length]
theorem schedF_eq {α : Type} (bs : List Int) (k : List Int → α) : ∀ (n t : Nat), schedF bs k n t (sched bs t).reverse = k (sched bs (t + n))
  | 0, t => by simp [schedF]
  | n + 1, t => by
    simp only [schedF]
    rw [fz_eq, nextF_eq]
    have e : nextW bs (sched bs t) t :: (sched bs t).reverse = (sched bs (t + 1)).reverse := by simp [sched]
    rw [e, schedF_eq bs k n (t + 1)]
    congr 2
    omega
def stepsF {α : Type} (k : S5 → α) : List Int → Nat → Int → Int → Int → Int → Int → α
  | [], _, a, b, c, d, e => k ⟨a, b, c, d, e⟩
  | x :: r, t, a, b, c, d, e => fz ((rotB a + fI t b c d + e + kI t + x) % 4294967296) fun a' => fz (rotC b) fun c' => stepsF k r (t + 1) a' a c' c d
theorem stepsF_eq {α : Type} (k : S5 → α) (L : List Int) (s : S5) : ∀ (r : List Int) (t : Nat), L.drop t = r → t ≤ L.length → stepsF k r t (stepsI L s t).a (stepsI L s t).b (stepsI L s t).c (stepsI L s t).d (stepsI L s t).e = k (stepsI L s L.length)
  | [], t, hr, ht => by
    have : t = L.length := by have := congrArg List.length hr; simp at this; omega
    subst this
    rfl
  | x :: r, t, hr, ht => by
    have hlt : t < L.length := by have := congrArg List.length hr; simp at this; omega
    have hx : L.getD t 0 = x := by
      have := congrArg (fun l => l[0]?) hr
      simp [List.getElem?_drop] at this
      rw [List.getD_eq_getElem?_getD, this]; rfl
    have hd : L.drop (t + 1) = r := by rw [← List.drop_drop, hr]; rfl
    have ih := stepsF_eq k L s r (t + 1) hd (by omega)
    simp only [stepsF]
    rw [fz_eq, fz_eq, ← ih]
    simp only [stepsI, stepI, hx]
def blockF {α : Type} (h : S5) (bs : List Int) (k : S5 → α) : α :=
  schedF bs (fun L => stepsF (fun s => fz (addI h.a s.a) fun a => fz (addI h.b s.b) fun b => fz (addI h.c s.c) fun c => fz (addI h.d s.d) fun d => fz (addI h.e s.e) fun e => k ⟨a, b, c, d, e⟩) L 0 h.a h.b h.c h.d h.e) 80 0 []
theorem blockF_eq {α : Type} (h : S5) (bs : List Int) (k : S5 → α) : blockF h bs k = k (blockI h bs) := by
  unfold blockF
  have e : ([] : List Int) = (sched bs 0).reverse := rfl
  rw [e, schedF_eq, Nat.zero_add]
  have := stepsF_eq (fun s => fz (addI h.a s.a) fun a => fz (addI h.b s.b) fun b => fz (addI h.c s.c) fun c => fz (addI h.d s.d) fun d => fz (addI h.e s.e) fun e => k ⟨a, b, c, d, e⟩) (sched bs 80) h (sched bs 80) 0 rfl (Nat.zero_le _)
  rw [sched_length] at this
  refine Eq.trans this ?_
  simp only [fz_eq]
  rfl
def runsF {α : Type} (k : S5 → α) : Nat → S5 → List Int → α
  | 0, h, _ => k h
  | n + 1, h, p => blockF h (p.take 64) fun h' => runsF k n h' (p.drop 64)
theorem runsF_eq {α : Type} (k : S5 → α) : ∀ (n : Nat) (h : S5) (p : List Int), runsF k n h p = k (runs n h p)
  | 0, _, _ => rfl
  | n + 1, h, p => by simp only [runsF, runs]; rw [blockF_eq, runsF_eq k n]
theorem shaF (bs : List Int) : shaI bs = runsF (fun s => outL s 20) ((bs.length + (padI bs.length).length) / 64) h0I (bs ++ padI bs.length) := by rw [runsF_eq]; rfl
theorem sha_nil : shaI [] = [218, 57, 163, 238, 94, 107, 75, 13, 50, 85, 191, 239, 149, 96, 24, 144, 175, 216, 7, 9] := by rw [shaF]; decide +kernel
theorem sha_abc : shaI [97, 98, 99] = [169, 153, 62, 54, 71, 6, 129, 106, 186, 62, 37, 113, 120, 80, 194, 108, 156, 208, 216, 157] := by rw [shaF]; decide +kernel
theorem hex_nil : hexB (shaI []) 20 = ⟨#[100, 97, 51, 57, 97, 51, 101, 101, 53, 101, 54, 98, 52, 98, 48, 100, 51, 50, 53, 53, 98, 102, 101, 102, 57, 53, 54, 48, 49, 56, 57, 48, 97, 102, 100, 56, 48, 55, 48, 57]⟩ := by rw [sha_nil]; kernel_rfl
theorem hex_abc : hexB (shaI [97, 98, 99]) 20 = ⟨#[97, 57, 57, 57, 51, 101, 51, 54, 52, 55, 48, 54, 56, 49, 54, 97, 98, 97, 51, 101, 50, 53, 55, 49, 55, 56, 53, 48, 99, 50, 54, 99, 57, 99, 100, 48, 100, 56, 57, 100]⟩ := by rw [sha_abc]; kernel_rfl
end Go.Proofs.Ytgkgdbjdmmieaaa
