/- cut.Cuts and the reference's Cuts: where fragments end, for every row of at most 1000000 bytes. -/
import Derived.Test.YtjcaahilgobfhaaCutNext
namespace Go.Proofs.Ytjcaahilgobfhaa
open Go.RowKit Go.WideShapes
theorem tInts : SlT Try.prog 25 3 (.int .i64 0) 8 := ⟨Try.underlying25, by kernel_rfl, rfl⟩
theorem tBytes : SlT Try.prog 22 5 (.int .u8 0) 1 := ⟨Try.underlying22, by kernel_rfl, rfl⟩
theorem next_at (bs : List Int) (A : Option Addr) (n c : Nat) (w : World) (hn : n = bs.length) (ho : Oct bs) (hr : Rd w A (bs.map (.int .u8))) (hm : n ≤ maxLen) :
    Calls Try.prog 14 #[.slice A n c] w fun e w' => (∃ n : Nat, e = .returned (.int .i64 n) ∧ IsNext bs n) ∧ Below w.heap.size w w' := by
  subst hn; exact next_any bs A c w ho hr hm
def ints (l : List Nat) : List Value := l.map fun (n : Nat) => .int .i64 (n : Int)
theorem ints_snoc (l : List Nat) (n : Nat) : ints (l ++ [n]) = ints l ++ [.int .i64 (n : Int)] := by simp [ints]
theorem ints_length (l : List Nat) : (ints l).length = l.length := by simp [ints]
structure CutsRel (bs : List Int) (w0 : World) (v i : Value) (w : World) : Prop where
  ex : ∃ (k : Nat) (l : List Nat), i = .int .i64 k ∧ k ≤ bs.length ∧ l.length ≤ k ∧ CutTo bs k l ∧ w.ownsRow w0.heap.size 3 1 v l.length (ints l)
  low : Below w0.heap.size w0 w
structure IsCuts (bs : List Int) (w : World) (e : Ending) (w' : World) : Prop where
  ex : ∃ (v : Value) (l : List Nat), e = .returned v ∧ Cut bs 0 l ∧ l.length ≤ bs.length ∧ w'.ownsRow w.heap.size 3 1 v l.length (ints l)
  low : Below w.heap.size w w'
set_option maxRecDepth 100000 in
set_option maxHeartbeats 2000000 in
theorem cuts_any (bs : List Int) (A : Option Addr) (c : Nat) (w : World) (ho : Oct bs) (hr : Rd w A (bs.map (.int .u8))) (hm : bs.length ≤ 1000000) (hc : bs.length ≤ c) (hcm : c ≤ maxLen) :
    Calls Try.prog 12 #[.slice A bs.length c] w (IsCuts bs w) := by
  unfold maxLen at hcm
  have HR := Lib.hid hr
  have HO := Lib.hid ho
  clear hr ho
  go_enter Try.func12, Try.ntmps12
  go_wp2_with fail
  go_loopw [3, 4] (fun v i wr => CutsRel bs w v i wr) (fun _ i _ => bs.length - (intOf i).toNat)
  case atStart => exact ⟨⟨0, [], rfl, by omega, by simp, CutTo.start bs, World.ownsRow_nil w w.heap.size 3 1⟩, Below.refl _ _⟩
  case round =>
    obtain ⟨⟨k, l, rfl, hk, hlk, hcut, hown⟩, hb⟩ := hrel
    have HC := Lib.hid hcut
    clear hcut
    by_cases hlt : k < bs.length
    · have hrd : Rd wr (A.map fun x => x.add k) ((bs.drop k).map (.int .u8)) := by
        rw [List.map_drop]; exact ((HR.out).below hb rfl).drop k
      go_wp2_with fail
      refine (next_at (bs.drop k) _ _ _ _ (by simp) (HO.out.drop k) hrd (by unfold maxLen; omega)).mono ?_
      rintro e w1 ⟨⟨n, rfl, hn⟩, hb1⟩
      have hnl := hn.le
      have hnp := hn.pos (by simp; omega)
      rw [List.length_drop] at hnl
      have HN := Lib.hid hn
      have hb2 := hb.trans (hb1.mono hb.size)
      have hown1 := own_below hown hb1
      clear hn hrd hown
      go_wp2_with (at_builtin; refine wpList_app1 tInts rfl (.tmp 15) (.tmp 17) rfl w.heap.size _ l.length (ints l) rfl hown1 (.int .i64 ((k : Int) + n)) rfl _ rfl rfl (by omega) (by unfold maxLen; omega) hb2.size ?_; intro v2 w2 hown2 _ hb3)
      go_roundw
      case rel => exact ⟨⟨k + n, l ++ [k + n], by simp, by omega, by simp; omega, HC.out.next hlt HN.out, by rw [ints_snoc, List.length_append]; simpa using hown2⟩, hb2.trans hb3⟩
      case measure => simp [intOf]; omega
    · go_wp2
      go_ret
      exact ⟨⟨_, l, rfl, HC.out.all (by omega), by omega, hown⟩, hb⟩
end Go.Proofs.Ytjcaahilgobfhaa
