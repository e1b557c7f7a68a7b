/- A number of twice as many bytes is two numbers: plain laws on bytes. No condition. -/
import Derived.Test.YtbmhfefbfocelaaText
import Derived.Laws.BitsAllLaws
namespace Go.Proofs.Ytbmhfefbfocelaa
open Go.RowKit Go.WideShapes
theorem pow_succ' (n : Nat) : (256 : Int) ^ (n + 1) = 256 * 256 ^ n := by rw [Int.pow_succ, Int.mul_comm]
theorem pow_pos' (n : Nat) : (0 : Int) < 256 ^ n := Int.pow_pos (by omega)
theorem beI_add (m : Nat) : ∀ (n : Nat) (v : Int), beI v (m + n) = beI (v / 256 ^ n) m ++ beI v n
  | 0, v => by simp [beI]
  | n + 1, v => by
    show beI (v / 256) (m + n) ++ [v % 256] = _
    rw [beI_add m n (v / 256), pow_succ', ← Int.ediv_ediv_of_nonneg (by omega), List.append_assoc]
    rfl
theorem beI_mod : ∀ (n : Nat) (v : Int), beI (v % 256 ^ n) n = beI v n
  | 0, _ => rfl
  | n + 1, v => by
    show beI (v % 256 ^ (n + 1) / 256) n ++ [v % 256 ^ (n + 1) % 256] = beI (v / 256) n ++ [v % 256]
    have e1 : v % 256 ^ (n + 1) % 256 = v % 256 := by rw [pow_succ']; exact Int.emod_emod_of_dvd _ ⟨_, rfl⟩
    have e2 : v % 256 ^ (n + 1) / 256 = (v / 256) % 256 ^ n := by
      rw [pow_succ']
      have h := Int.mul_ediv_add_emod v (256 * 256 ^ n)
      have h2 := Int.mul_ediv_add_emod (v / 256) (256 ^ n)
      have h3 : v / 256 / 256 ^ n = v / (256 * 256 ^ n) := Int.ediv_ediv_of_nonneg (by omega)
      rw [h3] at h2
      rw [Int.mul_assoc] at h
      omega
    rw [e1, e2, beI_mod n (v / 256)]
theorem valI_append (l r : List Int) : valI (l ++ r) = valI l * 256 ^ r.length + valI r := by
  have go : ∀ (r : List Int) (v : Int), r.foldl (fun v x => v * 256 + x) v = v * 256 ^ r.length + valI r := by
    intro r
    induction r with
    | nil => intro v; simp [valI]
    | cons x r ih =>
      intro v
      show r.foldl _ (v * 256 + x) = _
      have : valI (x :: r) = x * 256 ^ r.length + valI r := by
        show r.foldl _ (0 * 256 + x) = _
        rw [ih]; simp
      rw [ih, this, List.length_cons, pow_succ', Int.add_mul, Int.mul_assoc, Int.add_assoc]
  unfold valI
  rw [List.foldl_append, go]
  rfl
theorem numI_add (bs : List Int) (k m n : Nat) (h : k + m + n ≤ bs.length) : numI bs k (m + n) = numI bs k m * 256 ^ n + numI bs (k + m) n := by
  unfold numI
  have e : (bs.drop k).take (m + n) = (bs.drop k).take m ++ (bs.drop (k + m)).take n := by
    rw [List.take_add, List.drop_drop]
  rw [e, valI_append]
  congr 2
  rw [List.length_take, List.length_drop]
  congr 1
  omega
theorem fold_bd : ∀ (l : List Int) (v : Int), Oct l → v * 256 ^ l.length ≤ l.foldl (fun v x => v * 256 + x) v ∧ l.foldl (fun v x => v * 256 + x) v < (v + 1) * 256 ^ l.length
  | [], v, _ => by simp; omega
  | x :: l, v, h => by
    have hx := h x (by simp)
    obtain ⟨h1, h2⟩ := fold_bd l (v * 256 + x) (fun u hu => h u (by simp [hu]))
    have hp := pow_pos' l.length
    rw [List.foldl_cons, List.length_cons, pow_succ']
    have e1 : v * (256 * 256 ^ l.length) = v * 256 * 256 ^ l.length := by rw [Int.mul_assoc]
    have e2 : (v + 1) * (256 * 256 ^ l.length) = (v * 256 + 256) * 256 ^ l.length := by rw [← Int.mul_assoc, Int.add_mul]; simp
    rw [e1, e2]
    have g1 : v * 256 * 256 ^ l.length ≤ (v * 256 + x) * 256 ^ l.length := Int.mul_le_mul_of_nonneg_right (by omega) (by omega)
    have g2 : (v * 256 + x + 1) * 256 ^ l.length ≤ (v * 256 + 256) * 256 ^ l.length := Int.mul_le_mul_of_nonneg_right (by omega) (by omega)
    omega
theorem valI_bd (l : List Int) (h : Oct l) : 0 ≤ valI l ∧ valI l < 256 ^ l.length := by
  have := fold_bd l 0 h
  simpa [valI] using this
theorem numI_bd {bs : List Int} (ho : Oct bs) (k n : Nat) (h : k + n ≤ bs.length) : 0 ≤ numI bs k n ∧ numI bs k n < 256 ^ n := by
  have := valI_bd _ ((ho.drop k).take n)
  rwa [show ((bs.drop k).take n).length = n by rw [List.length_take, List.length_drop]; omega] at this
theorem or64 (x y : Int) (h0 : 0 ≤ x) (h1 : x ≤ 4294967295) (h2 : 0 ≤ y) (h3 : y ≤ 4294967295) : bits .or .u64 (x * 4294967296) y = x * 4294967296 + y := by
  rw [u64_or _ _ (by omega) (by omega) (by omega) (by omega), nat_join 32 _ _ (by omega) (by omega)]
  omega
theorem or32 (x y : Int) (h0 : 0 ≤ x) (h1 : x ≤ 65535) (h2 : 0 ≤ y) (h3 : y ≤ 65535) : bits .or .u32 (x * 65536) y = x * 65536 + y := by
  rw [u32_or _ _ (by omega) (by omega) (by omega) (by omega), nat_join 16 _ _ (by omega) (by omega)]
  omega
theorem or16 (x y : Int) (h0 : 0 ≤ x) (h1 : x ≤ 255) (h2 : 0 ≤ y) (h3 : y ≤ 255) : bits .or .u16 (x * 256) y = x * 256 + y := by
  rw [u16_or _ _ (by omega) (by omega) (by omega) (by omega), nat_join 8 _ _ (by omega) (by omega)]
  omega
/-- Put in halves, in quarters. -/
theorem be_halves (v : Int) : beI v 8 = beI (v / 4294967296) 4 ++ beI (v % 4294967296) 4 := by
  rw [show (8 : Nat) = 4 + 4 from rfl, beI_add, show ((256 : Int) ^ 4) = 4294967296 from rfl, ← beI_mod 4 v, show ((256 : Int) ^ 4) = 4294967296 from rfl]
theorem be_two (v : Int) : beI v 4 = beI (v / 65536) 2 ++ beI (v % 65536) 2 := by
  rw [show (4 : Nat) = 2 + 2 from rfl, beI_add, show ((256 : Int) ^ 2) = 65536 from rfl, ← beI_mod 2 v, show ((256 : Int) ^ 2) = 65536 from rfl]
theorem be_quarters (v : Int) : beI v 8 = beI (v / 281474976710656) 2 ++ (beI (v / 4294967296 % 65536) 2 ++ (beI (v / 65536 % 65536) 2 ++ beI (v % 65536) 2)) := by
  rw [be_halves, be_two, be_two (v % 4294967296), show v / 4294967296 / 65536 = v / 281474976710656 by omega, show v % 4294967296 / 65536 = v / 65536 % 65536 by omega, show v % 4294967296 % 65536 = v % 65536 by omega, List.append_assoc]
end Go.Proofs.Ytbmhfefbfocelaa
