/- Things that are put behind bytes, and how they stand there: plain laws. Texts of at most 65535 bytes. -/
import Derived.Test.YtbmhfefbfocelaaLent
namespace Go.Proofs.Ytbmhfefbfocelaa
open Go.RowKit Go.WideShapes
set_option linter.unusedVariables false
theorem be_cut' (n : Nat) (v : Int) (m : Int) (hm : m = 256 ^ n) : beI (v % m) n = beI v n := by subst hm; exact beI_mod n v
structure Th where
  W : Int
  N : Int
  S : ByteArray
structure Th.ok (t : Th) : Prop where
  w0 : 0 ≤ t.W
  w1 : t.W ≤ 255
  n0 : 0 ≤ t.N
  n1 : t.N ≤ 18446744073709551615
  s : t.S.size ≤ maxLen
def Th.cells (t : Th) : List Value := [.int .u8 t.W, .int .u64 t.N, .string t.S]
def Th.agg (t : Th) : Value := .agg #[.int .u8 t.W, .int .u64 t.N, .string t.S]
/-- How many bytes a number has; 0: a text. -/
def Th.wide (t : Th) : Nat := if t.W = 1 then 1 else if t.W = 2 then 2 else if t.W = 4 then 4 else if t.W = 8 then 8 else 0
def Th.enc (t : Th) : List Int := if t.wide = 0 then beI t.S.size 2 ++ strI t.S else beI t.N t.wide
def okT (t : Th) (bs : List Int) (p : Int) : Bool := if t.wide = 0 then textThere bs p else there bs p t.wide
def sameT (t : Th) (bs : List Int) (p : Int) : Bool := if t.wide = 0 then ((textAt bs p).toList == t.S.toList) else (numAt bs p t.wide == t.N % 256 ^ t.wide)
def toT (t : Th) (bs : List Int) (p : Int) : Int := if t.wide = 0 then textEnd bs p else p + t.wide
theorem Th.enc_oct (t : Th) : Oct t.enc := by
  unfold Th.enc
  split
  · exact (beI_oct _ _).append (strI_oct _)
  · exact beI_oct _ _
theorem Th.wide_le (t : Th) : t.wide ≤ 8 := by unfold Th.wide; split <;> (try split) <;> (try split) <;> (try split) <;> omega
theorem Th.enc_len (t : Th) : t.enc.length = if t.wide = 0 then 2 + t.S.size else t.wide := by
  unfold Th.enc
  split
  · rw [List.length_append, beI_length, strI_length]
  · rw [beI_length]
theorem valI_be (v : Int) (n : Nat) : valI (beI v n) = v % 256 ^ n := by
  have h := pow_pos' n
  rw [← beI_mod n v]
  exact val_be n _ (Int.emod_nonneg _ (by omega)) (Int.emod_lt_of_pos _ h)
/-- What is read where it was put. -/
theorem drop_take_mid (pre e post : List Int) (m : Nat) (h : pre.length + e.length ≤ m) : (((pre ++ (e ++ post)).take m).drop pre.length).take e.length = e := by
  rw [List.drop_take, List.drop_left, List.take_take, Nat.min_eq_left (by omega), List.take_left]
theorem take_len (l : List Int) (m : Nat) (h : m ≤ l.length) : (l.take m).length = m := by rw [List.length_take]; omega
section
variable (t : Th) (pre post : List Int) (m : Nat) (hs : t.S.size ≤ 65535) (hm : m ≤ (pre ++ (t.enc ++ post)).length)
include hs hm
theorem stands_in (h : pre.length + t.enc.length ≤ m) :
    okT t ((pre ++ (t.enc ++ post)).take m) pre.length = true ∧ sameT t ((pre ++ (t.enc ++ post)).take m) pre.length = true ∧ toT t ((pre ++ (t.enc ++ post)).take m) pre.length = pre.length + t.enc.length := by
  have hl := take_len _ m hm
  have hmid := drop_take_mid pre t.enc post m h
  have hel := t.enc_len
  generalize hL : (pre ++ (t.enc ++ post)).take m = left at *
  unfold okT sameT toT
  by_cases h0 : t.wide = 0
  · rw [if_pos h0, if_pos h0, if_pos h0]
    rw [if_pos h0] at hel
    have henc : t.enc = beI t.S.size 2 ++ strI t.S := if_pos h0
    have h2 : numI left pre.length 2 = t.S.size := by
      have e2 : (left.drop pre.length).take 2 = beI t.S.size 2 := by
        have : ((left.drop pre.length).take t.enc.length).take 2 = beI t.S.size 2 := by
          rw [hmid, henc, List.take_left' (beI_length _ _)]
        rwa [List.take_take, Nat.min_eq_left (by omega)] at this
      unfold numI
      rw [e2, valI_be]
      omega
    have hn : textLen left pre.length = t.S.size := by unfold textLen; rw [Int.toNat_natCast, h2]; omega
    have hth : textThere left pre.length = true := decide_eq_true ⟨⟨by omega, by omega⟩, by rw [hn]; omega⟩
    refine ⟨hth, ?_, ?_⟩
    · unfold textAt
      rw [hth, if_pos rfl, hn, Int.toNat_natCast, strOfNums_list]
      have e3 : (left.drop (pre.length + 2)).take t.S.size = strI t.S := by
        have : (((left.drop pre.length).take t.enc.length).drop 2) = strI t.S := by
          rw [hmid, henc, List.drop_left' (beI_length _ _)]
        rw [List.drop_take, List.drop_drop] at this
        rw [← this]
        congr 1
        omega
      rw [e3, u8s_str]
      exact beq_self_eq_true _
    · unfold textEnd
      rw [hth, if_pos rfl, hn]
      omega
  · rw [if_neg h0, if_neg h0, if_neg h0]
    rw [if_neg h0] at hel
    have henc : t.enc = beI t.N t.wide := if_neg h0
    obtain ⟨h1, h2⟩ := there_yes (bs := left) (a := pre.length) (n := t.wide) ⟨by omega, by omega⟩
    refine ⟨h1, ?_, by omega⟩
    rw [h2, beq_iff_eq, Int.toNat_natCast]
    unfold numI
    rw [hel] at hmid
    rw [hmid, henc, valI_be]
theorem stands_out (h : m < pre.length + t.enc.length) : okT t ((pre ++ (t.enc ++ post)).take m) pre.length = false := by
  have hl := take_len _ m hm
  have hel := t.enc_len
  unfold okT
  by_cases h0 : t.wide = 0
  · rw [if_pos h0]
    rw [if_pos h0] at hel
    have henc : t.enc = beI t.S.size 2 ++ strI t.S := if_pos h0
    by_cases h2 : pre.length + 2 ≤ m
    · have e2 : ((((pre ++ (t.enc ++ post)).take m)).drop pre.length).take 2 = beI t.S.size 2 := by
        rw [henc, List.append_assoc]
        have := drop_take_mid pre (beI t.S.size 2) (strI t.S ++ post) m (by rw [beI_length]; omega)
        rwa [beI_length] at this
      generalize hL : (pre ++ (t.enc ++ post)).take m = left at *
      have h3 : numI left pre.length 2 = t.S.size := by
        unfold numI
        rw [e2, valI_be]
        omega
      have hn : textLen left pre.length = t.S.size := by unfold textLen; rw [Int.toNat_natCast, h3]; omega
      exact decide_eq_false fun hh => by have := hh.2; rw [hn] at this; omega
    · exact decide_eq_false fun hh => by have := hh.1; omega
  · rw [if_neg h0]
    rw [if_neg h0] at hel
    exact (there_no (by omega)).1
end
/-- All of a list's things, one behind the other. -/
def encs (l : List Th) : List Int := l.flatMap Th.enc
theorem encs_snoc (l : List Th) (t : Th) : encs (l ++ [t]) = encs l ++ t.enc := by unfold encs; rw [List.flatMap_append]; simp
theorem encs_oct : ∀ l : List Th, Oct (encs l)
  | [] => fun x hx => by cases hx
  | t :: l => by
    have : encs (t :: l) = t.enc ++ encs l := rfl
    rw [this]
    exact t.enc_oct.append (encs_oct l)
def flat (l : List Th) : List Value := l.flatMap Th.cells
theorem flat_snoc (l : List Th) (t : Th) : flat (l ++ [t]) = flat l ++ t.cells := by unfold flat; rw [List.flatMap_append]; simp
theorem flat_length : ∀ l : List Th, (flat l).length = l.length * 3
  | [] => rfl
  | t :: l => by
    have : flat (t :: l) = t.cells ++ flat l := rfl
    rw [this, List.length_append, flat_length l, List.length_cons]
    show 3 + _ = _
    omega
theorem flat_at : ∀ (l : List Th) (k j : Nat) (t : Th), l[k]? = some t → j < 3 → (flat l)[k * 3 + j]? = t.cells[j]?
  | [], k, j, t, h, _ => by simp at h
  | u :: l, 0, j, t, h, hj => by
    have : flat (u :: l) = u.cells ++ flat l := rfl
    simp at h
    subst h
    rw [this, Nat.zero_mul, Nat.zero_add, List.getElem?_append_left (by show j < 3; omega)]
  | u :: l, k + 1, j, t, h, hj => by
    have : flat (u :: l) = u.cells ++ flat l := rfl
    rw [this, List.getElem?_append_right (by show 3 ≤ _; omega)]
    have e : (k + 1) * 3 + j - u.cells.length = k * 3 + j := by show (k + 1) * 3 + j - 3 = _; omega
    rw [e]
    exact flat_at l k j t (by simpa using h) hj
theorem flat_one (l : List Th) : ∀ u ∈ flat l, u.oneCell' = true := fun u hu => by
  obtain ⟨t, _, h⟩ := List.mem_flatMap.1 hu
  simp [Th.cells] at h
  rcases h with rfl | rfl | rfl <;> rfl
/-- Where each was put, and where the last one ends. -/
def placeAt (L0 : Nat) (l : List Th) (j : Nat) : Nat := L0 + (encs (l.take j)).length
def placesV (L0 : Nat) (l : List Th) : List Value := (List.range (l.length + 1)).map fun j => .int .i64 (placeAt L0 l j : Nat)
theorem placesV_length (L0 : Nat) (l : List Th) : (placesV L0 l).length = l.length + 1 := by simp [placesV]
theorem placesV_at {L0 : Nat} {l : List Th} {k : Nat} (h : k ≤ l.length) : (placesV L0 l)[k]? = some (.int .i64 (placeAt L0 l k : Nat)) := by
  unfold placesV
  rw [List.getElem?_map, List.getElem?_range (by omega)]
  rfl
theorem placesV_snoc (L0 : Nat) (l : List Th) (t : Th) : placesV L0 (l ++ [t]) = placesV L0 l ++ [.int .i64 ((L0 + (encs (l ++ [t])).length : Nat) : Int)] := by
  unfold placesV
  rw [List.length_append, List.length_singleton, List.range_succ, List.map_append]
  congr 1
  · refine List.map_congr_left fun j hj => ?_
    have hj' : j ≤ l.length := by have := List.mem_range.1 hj; omega
    unfold placeAt
    rw [List.take_append_of_le_length hj']
  · unfold placeAt
    rw [List.map_singleton, List.take_of_length_le (by simp)]
theorem placeAt_succ {L0 : Nat} {l : List Th} {k : Nat} {t : Th} (h : l[k]? = some t) : placeAt L0 l (k + 1) = placeAt L0 l k + t.enc.length := by
  unfold placeAt
  rw [List.take_add_one, h]
  show L0 + (encs (l.take k ++ [t])).length = _
  rw [encs_snoc, List.length_append]
  omega
theorem placeAt_all (L0 : Nat) (l : List Th) : placeAt L0 l l.length = L0 + (encs l).length := by unfold placeAt; rw [List.take_length]
theorem encs_split {l : List Th} {k : Nat} {t : Th} (h : l[k]? = some t) : encs l = encs (l.take k) ++ (t.enc ++ encs (l.drop (k + 1))) := by
  have hk : k < l.length := (List.getElem?_eq_some_iff.1 h).1
  have e : l = l.take k ++ (t :: l.drop (k + 1)) := by
    rw [← (List.getElem?_eq_some_iff.1 h).2, ← List.drop_eq_getElem_cons hk, List.take_append_drop]
  have : encs l = encs (l.take k ++ (t :: l.drop (k + 1))) := congrArg encs e
  rw [this]
  unfold encs
  rw [List.flatMap_append, List.flatMap_cons]
end Go.Proofs.Ytbmhfefbfocelaa
