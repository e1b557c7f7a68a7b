/- Numbers and texts in the order of their bytes: plain laws on lists; no condition but lengths. -/
import Derived.Test.YtbmhfefbfocelaaText
import Derived.Lib.Strings
namespace Go.Proofs.Ytbmhfefbfocelaa
open Go.RowKit Go.WideShapes
def u8s (l : List Int) : List UInt8 := l.map fun n => UInt8.ofNat n.toNat
theorem strOfNums_list (l : List Int) : (strOfNums l).toList = u8s l := by rw [Lib.toList_data]; rfl
theorem bytesLess_cons (a b : UInt8) (x y : List UInt8) : Op.bytesLess (a :: x) (b :: y) = (decide (a < b) || (a == b && Op.bytesLess x y)) := rfl
theorem u8s_append (l r : List Int) : u8s (l ++ r) = u8s l ++ u8s r := List.map_append
theorem u8s_str (s : ByteArray) : u8s (strI s) = s.toList := by
  rw [Lib.toList_data]
  unfold u8s strI
  rw [List.map_map]
  refine (List.map_congr_left (g := id) fun b _ => ?_).trans (List.map_id _)
  simp
theorem ofNat_lt {x y : Int} (hx : 0 ≤ x ∧ x ≤ 255) (hy : 0 ≤ y ∧ y ≤ 255) : (UInt8.ofNat x.toNat < UInt8.ofNat y.toNat) ↔ x < y := by
  rw [UInt8.lt_iff_toNat_lt, UInt8.toNat_ofNat', UInt8.toNat_ofNat']
  omega
theorem ofNat_eq {x y : Int} (hx : 0 ≤ x ∧ x ≤ 255) (hy : 0 ≤ y ∧ y ≤ 255) : (UInt8.ofNat x.toNat = UInt8.ofNat y.toNat) ↔ x = y := by
  rw [← UInt8.toNat_inj, UInt8.toNat_ofNat', UInt8.toNat_ofNat']
  omega
/-- The number that a list of digits says, behind one. -/
def valF (v : Int) (l : List Int) : Int := l.foldl (fun v x => v * 256 + x) v
theorem valF_cons (v x : Int) (l : List Int) : valF v (x :: l) = valF (v * 256 + x) l := rfl
theorem less_val : ∀ (x y : List Int) (v w : Int), x.length = y.length → Oct x → Oct y → v < w → valF v x < valF w y
  | [], [], _, _, _, _, _, h => h
  | a :: x, b :: y, v, w, hl, hx, hy, h => by
    rw [valF_cons, valF_cons]
    have ha := hx a (by simp)
    have hb := hy b (by simp)
    exact less_val x y _ _ (by simpa using hl) (fun u hu => hx u (by simp [hu])) (fun u hu => hy u (by simp [hu])) (by omega)
  | [], _ :: _, _, _, hl, _, _, _ => by simp at hl
  | _ :: _, [], _, _, hl, _, _, _ => by simp at hl
theorem less_val_eq : ∀ (x y : List Int) (v : Int), x.length = y.length → Oct x → Oct y → (Op.bytesLess (u8s x) (u8s y) = decide (valF v x < valF v y)) ∧ ((u8s x == u8s y) = decide (valF v x = valF v y))
  | [], [], v, _, _, _ => by simp [u8s, Op.bytesLess, valF]
  | a :: x, b :: y, v, hl, hx, hy => by
    have ha := hx a (by simp)
    have hb := hy b (by simp)
    have hl' : x.length = y.length := by simpa using hl
    have hx' : Oct x := fun u hu => hx u (by simp [hu])
    have hy' : Oct y := fun u hu => hy u (by simp [hu])
    rw [valF_cons, valF_cons]
    have e1 : u8s (a :: x) = UInt8.ofNat a.toNat :: u8s x := rfl
    have e2 : u8s (b :: y) = UInt8.ofNat b.toNat :: u8s y := rfl
    rw [e1, e2, bytesLess_cons]
    have hlt := ofNat_lt ha hb
    have heq := ofNat_eq ha hb
    rcases Int.lt_trichotomy a b with h | h | h
    · have := less_val x y (v * 256 + a) (v * 256 + b) hl' hx' hy' (by omega)
      have n1 : ¬ (UInt8.ofNat a.toNat = UInt8.ofNat b.toNat) := fun e => by have := heq.1 e; omega
      have n2 : UInt8.ofNat a.toNat < UInt8.ofNat b.toNat := hlt.2 h
      constructor
      · simp only [n2, decide_true, Bool.true_or]; exact (decide_eq_true this).symm
      · rw [List.cons_beq_cons, beq_eq_false_iff_ne.2 n1, Bool.false_and, decide_eq_false (by omega)]
    · subst h
      obtain ⟨i1, i2⟩ := less_val_eq x y (v * 256 + a) hl' hx' hy'
      rw [← i1, ← i2]
      constructor
      · have : ¬ (UInt8.ofNat a.toNat < UInt8.ofNat a.toNat) := fun e => by have := hlt.1 e; omega
        simp [this]
      · rw [List.cons_beq_cons]; simp
    · have := less_val y x (v * 256 + b) (v * 256 + a) hl'.symm hy' hx' (by omega)
      have n1 : ¬ (UInt8.ofNat a.toNat = UInt8.ofNat b.toNat) := fun e => by have := heq.1 e; omega
      have n2 : ¬ (UInt8.ofNat a.toNat < UInt8.ofNat b.toNat) := fun e => by have := hlt.1 e; omega
      constructor
      · rw [decide_eq_false n2, beq_eq_false_iff_ne.2 n1, decide_eq_false (by omega)]; rfl
      · rw [List.cons_beq_cons, beq_eq_false_iff_ne.2 n1, Bool.false_and, decide_eq_false (by omega)]
  | [], _ :: _, _, hl, _, _ => by simp at hl
  | _ :: _, [], _, hl, _, _ => by simp at hl
theorem valF_append (v : Int) (l r : List Int) : valF v (l ++ r) = valF (valF v l) r := List.foldl_append
theorem val_be : ∀ (n : Nat) (v : Int), 0 ≤ v → v < 256 ^ n → valF 0 (beI v n) = v
  | 0, v, h0, h1 => by simp at h1; simp [beI, valF]; omega
  | n + 1, v, h0, h1 => by
    rw [Int.pow_succ] at h1
    rw [beI, valF_append, val_be n (v / 256) (by omega) (Int.ediv_lt_of_lt_mul (by omega) h1)]
    simp only [valF, List.foldl_cons, List.foldl_nil]
    omega
/-- Numbers of as many bytes. -/
theorem be_order (n : Nat) (a b : Int) (a0 : 0 ≤ a) (a1 : a < 256 ^ n) (b0 : 0 ≤ b) (b1 : b < 256 ^ n) :
    Op.bytesLess (u8s (beI a n)) (u8s (beI b n)) = decide (a < b) ∧ (u8s (beI a n) == u8s (beI b n)) = decide (a = b) := by
  have h := less_val_eq (beI a n) (beI b n) 0 (by rw [beI_length, beI_length]) (beI_oct _ _) (beI_oct _ _)
  rwa [val_be n a a0 a1, val_be n b b0 b1] at h
theorem bytesLess_append : ∀ (x y p q : List UInt8), x.length = y.length → Op.bytesLess (x ++ p) (y ++ q) = (Op.bytesLess x y || (x == y && Op.bytesLess p q))
  | [], [], p, q, _ => by simp [Op.bytesLess]
  | a :: x, b :: y, p, q, hl => by
    rw [List.cons_append, List.cons_append, bytesLess_cons, bytesLess_cons, bytesLess_append x y p q (by simpa using hl), List.cons_beq_cons]
    cases decide (a < b) <;> cases (a == b) <;> simp
  | [], _ :: _, _, _, hl => by simp at hl
  | _ :: _, [], _, _, hl => by simp at hl
/-- Texts behind their lengths. -/
theorem text_order (s t : ByteArray) (hs : s.size ≤ 65535) (ht : t.size ≤ 65535) :
    Op.bytesLess (u8s (beI s.size 2 ++ strI s)) (u8s (beI t.size 2 ++ strI t)) = (decide (s.size < t.size) || (decide (s.size = t.size) && Op.bytesLess s.toList t.toList)) ∧
    (u8s (beI s.size 2 ++ strI s) == u8s (beI t.size 2 ++ strI t)) = (s.toList == t.toList) := by
  obtain ⟨h1, h2⟩ := be_order 2 s.size t.size (by omega) (by omega) (by omega) (by omega)
  have hl : (u8s (beI s.size 2)).length = (u8s (beI t.size 2)).length := by unfold u8s; rw [List.length_map, List.length_map, beI_length, beI_length]
  rw [u8s_append, u8s_append, u8s_str, u8s_str]
  constructor
  · rw [bytesLess_append _ _ _ _ hl, h1, h2]
    congr 1
    · simp
    · congr 1; simp; omega
  · rw [Bool.eq_iff_iff, beq_iff_eq, beq_iff_eq]
    constructor
    · intro h; exact (List.append_inj h hl).2
    · intro h
      have hsz : s.size = t.size := by rw [Lib.size_eq, Lib.size_eq, ← Lib.toList_data, ← Lib.toList_data, h]
      rw [h, hsz]
end Go.Proofs.Ytbmhfefbfocelaa
