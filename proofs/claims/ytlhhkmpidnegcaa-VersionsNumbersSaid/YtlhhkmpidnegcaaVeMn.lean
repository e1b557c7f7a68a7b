/- many: so many files: the walk. Condition: at most 1000. -/
import Derived.Test.YtlhhkmpidnegcaaVeOn
namespace Go.Proofs.Ytlhhkmpidnegcaa
open Go.RowKit Go.WideShapes
set_option linter.unusedVariables false
set_option linter.unusedSimpArgs false
def nameM (k : Nat) : ByteArray := ⟨#[102]⟩ ++ strOfNums [97 + (k : Int) / 26, 97 + (k : Int) % 26]
/-- The files of many. -/
structure MnF (n B : Nat) (w0 : World) (v : Value) (w : World) (fs : List Fl) : Prop where
  own : OwnF B w v fs
  len : fs.length = n
  dat : fs.map Fl.dat = (List.range n).map fun k => (nameM k, [])
  low : Below w0.heap.size w0 w
structure IsMany (n : Nat) (w0 : World) (e : Ending) (w : World) : Prop where
  ex : ∃ A c fs, e = .returned (.slice A n c) ∧ MnF n w0.heap.size w0 (.slice A n c) w fs
theorem own_blk {w : World} {base n : Nat} {e : TypeId} {size : Nat} {v : Value} {xs : List Value} (h : w.ownsRow base e size v n xs) {k : Nat} (hk : v.ownBlock = some k) : ∃ cs, Blk w k e cs := by
  rcases h.2 with ⟨rfl, _⟩ | ⟨g, cap, cur, rfl, _, hg, _⟩
  · cases hk
  · cases hk
    exact ⟨cur, hg⟩
theorem MnF.step {n B : Nat} {w0 w w1 w4 : World} {A : Option Addr} {c : Nat} {v4 : Value} {s : ByteArray} {fs : List Fl} (hB : B = w0.heap.size) (h : MnF n B w0 (.slice A n c) w fs) (hs : s = nameM n) (hb : Below w.heap.size w w1)
    (hgr : (w1.alloc (.cells #[.string s, .slice none 0 0] 41)).grownBy w4 (Value.slice A n c).ownBlock) (h4 : w4.ownsRow B 41 2 v4 (n + 1) (flatF fs ++ [.string s, .slice none 0 0])) : MnF (n + 1) B w0 v4 w4 (fs ++ [⟨s, [], none, 0, 0⟩]) := by
  subst hB
  obtain ⟨hof, hl, hd, hlow⟩ := h
  have hsz := hlow.size
  have hal : Below w.heap.size w (w1.alloc (.cells #[.string s, .slice none 0 0] 41)) := hb.alloc hb.size _
  have h2 := hof.below hal
  have hf : Frm (fun k => (Value.slice A n c).ownBlock = some k) (w1.alloc (.cells #[.string s, .slice none 0 0] 41)) w4 := Frm.of_grown hgr (fun k hk => hk)
  refine ⟨⟨?_, fun f hf' => ?_⟩, by rw [List.length_append, hl]; rfl, ?_, ?_⟩
  · rw [List.length_append, hl, flatF_app]
    exact h4
  · rcases List.mem_append.1 hf' with hf' | hf'
    · refine hf.own (h2.each f hf') (fun k hk e => ?_)
      obtain ⟨cs, hcs⟩ := own_blk h2.own e
      exact hcs.apart (h2.each f hf') (by decide) k hk rfl
    · rw [List.mem_singleton] at hf'
      subst hf'
      exact World.ownsRow_nil w4 _ 3 1
  · rw [List.map_append, hd, List.range_succ, List.map_append, hs]
    rfl
  · exact (hlow.trans (hal.mono hsz)).trans (hf.to_below (by have := hal.size; omega) (fun k hk => by have := own_ge h2.own k hk; omega))
set_option maxRecDepth 100000 in
set_option maxHeartbeats 4000000 in
theorem many_any (n : Nat) (w : World) (h1 : n ≤ 400) : Calls Try.prog 24 #[.int .i64 (n : Int)] w (IsMany n w) := by
  go_enter Try.func24, Try.ntmps24
  go_wp2_with fail
  go_loopw [3, 4] (fun v i wr => ∃ (k : Nat), k ≤ n ∧ i = .int .i64 k ∧ ∃ fs, MnF k w.heap.size w v wr fs) (fun _ i _ => n - (intOf i).toNat)
  case atStart => exact ⟨0, by omega, rfl, [], ⟨⟨World.ownsRow_nil w _ 41 2, fun f hf => by cases hf⟩, rfl, rfl, Below.refl _ _⟩⟩
  case round =>
    obtain ⟨k, hk, rfl, fs, hmn⟩ := hrel
    have hlo := hmn.low.size
    have hof := hmn.own
    have hfl := hmn.len
    obtain ⟨A, c, rfl, hkc⟩ := own_slice hof.own
    rw [hfl] at hkc hof hmn ⊢
    have HMN := Lib.hid hmn
    have HOW := Lib.hid (show wr.ownsRow w.heap.size 41 2 (.slice A k c) k (flatF fs) by have := hof.own; rwa [hfl] at this)
    clear hof hfl hmn
    by_cases hlt : k < n
    · have hki : (k : Int) < n := by omega
      have hs := run_str (P := Try.prog) (bs := [97 + (k : Int) / 26, 97 + (k : Int) % 26]) Try.underlying58 Try.underlying5 Try.underlying9 (wr.alloc (.cells #[.int .u8 (97 + (k : Int) / 26), .int .u8 (97 + (k : Int) % 26)] 5)) (some ⟨wr.heap.size, 0, none⟩) 2 2 rfl (rd_blk (Blk.new wr 5 #[.int .u8 (97 + (k : Int) / 26), .int .u8 (97 + (k : Int) % 26)]))
      have hnm : nameM k = ⟨#[102]⟩ ++ strOfNums [97 + (k : Int) / 26, 97 + (k : Int) % 26] := rfl
      have hsz : (strOfNums [97 + (k : Int) / 26, 97 + (k : Int) % 26]).size = 2 := rfl
      obtain ⟨S, hS⟩ : ∃ S, strOfNums [97 + (k : Int) / 26, 97 + (k : Int) % 26] = S := ⟨_, rfl⟩
      rw [hS] at hs hsz hnm
      have HNM := Lib.hid hnm
      clear hS hnm
      have HF := Lib.hid (fun (s : ByteArray) => file_any s none 0 0 (wr.alloc (.cells #[.int .u8 (97 + (k : Int) / 26), .int .u8 (97 + (k : Int) % 26)] 5)))
      go_wp2_with fail
      refine (HF.out _).mono ?_
      rintro e w1 ⟨rfl, hb1⟩
      obtain ⟨s, hs2⟩ : ∃ s : ByteArray, ({ data := #[102] } : ByteArray) ++ S = s := ⟨_, rfl⟩
      rw [hs2] at HNM ⊢
      have HB1 := Lib.hid (((Below.refl wr.heap.size wr).alloc (Nat.le_refl _) (.cells #[.int .u8 (97 + (k : Int) / 26), .int .u8 (97 + (k : Int) % 26)] 5)).trans (hb1.mono (by simp)))
      have HN := Lib.hid (Blk.new w1 41 #[.string s, .slice none 0 0])
      have HOW1 := Lib.hid (own_below HOW.out HB1.out)
      have HOW2 := Lib.hid (own_below HOW1.out ((Below.refl w1.heap.size w1).alloc (Nat.le_refl _) (.cells #[.string s, .slice none 0 0] 41)))
      have HZ := Lib.hid (show w.heap.size ≤ (w1.alloc (.cells #[.string s, .slice none 0 0] 41)).heap.size by have := HB1.out.size; simp; omega)
      have hk4 : k ≤ 400 := by omega
      clear hb1 hs hs2 hsz
      go_wp2_with (refine wpList_appN tFls rfl (.tmp 10) (.tmp 23) rfl w.heap.size (.slice A k c) k (flatF fs) rfl HOW2.out (some ⟨w1.heap.size, 0, none⟩) 1 1 [.string s, .slice none 0 0] rfl rfl (.inr ⟨_, rfl, fun jj u hu => by rw [addr_add, Nat.zero_add, HN.out.cell]; simpa using hu⟩) (by simp [Value.oneCell']) (by omega) (by unfold maxLen; omega) HZ.out ?_; intro v5 w9 h5 hg5 _; have HNX := Lib.hid (HMN.out.step rfl HNM.out.symm HB1.out hg5 h5); clear h5 hg5)
      go_roundw
      case rel => exact ⟨k + 1, by omega, by go_num, _, HNX.out⟩
      case measure => simp [intOf]; omega
    · obtain rfl : k = n := by omega
      go_wp2
      go_ret
      exact ⟨⟨A, c, fs, rfl, HMN.out⟩⟩
end Go.Proofs.Ytlhhkmpidnegcaa
