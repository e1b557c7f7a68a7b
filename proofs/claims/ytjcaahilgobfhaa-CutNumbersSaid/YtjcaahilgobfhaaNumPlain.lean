/- The plain law of CutNumbers' two rows: of one the first fragment is the longest, of the other the shortest. By reckoning; no condition. -/
import Derived.Test.YtjcaahilgobfhaaStaysPlain
namespace Go.Proofs.Ytjcaahilgobfhaa
set_option linter.unusedVariables false
def pat (a b : Int) : Nat → List Int
  | 0 => []
  | n + 1 => pat a b n ++ [a, b]
theorem pat_length (a b : Int) : ∀ n, (pat a b n).length = 2 * n
  | 0 => rfl
  | n + 1 => by simp [pat, pat_length a b n]; omega
theorem pat_even (a b : Int) : ∀ n i, i < n → (pat a b n).getD (2 * i) 0 = a
  | 0, i, h => by omega
  | n + 1, i, h => by
    unfold pat
    rw [List.getD_eq_getElem?_getD]
    by_cases e : i = n
    · subst e
      rw [List.getElem?_append_right (by rw [pat_length]; omega), pat_length]; simp
    · rw [List.getElem?_append_left (by rw [pat_length]; omega), ← List.getD_eq_getElem?_getD]
      exact pat_even a b n i (by omega)
theorem pat_odd (a b : Int) : ∀ n i, i < n → (pat a b n).getD (2 * i + 1) 0 = b
  | 0, i, h => by omega
  | n + 1, i, h => by
    unfold pat
    rw [List.getD_eq_getElem?_getD]
    by_cases e : i = n
    · subst e
      rw [List.getElem?_append_right (by rw [pat_length]; omega), pat_length]; simp
    · rw [List.getElem?_append_left (by rw [pat_length]; omega), ← List.getD_eq_getElem?_getD]
      exact pat_odd a b n i (by omega)
theorem pat_oct (a b : Int) (ha : 0 ≤ a ∧ a ≤ 255) (hb : 0 ≤ b ∧ b ≤ 255) : ∀ n, Oct (pat a b n)
  | 0 => fun x hx => by cases hx
  | n + 1 => (pat_oct a b ha hb n).append (fun x hx => by simp at hx; rcases hx with rfl | rfl <;> assumption)
theorem pat_same (a b : Int) (n m i : Nat) (h1 : i < 2 * n) (h2 : i < 2 * m) : (pat a b n).getD i 0 = (pat a b m).getD i 0 := by
  rcases Nat.mod_two_eq_zero_or_one i with e | e
  · rw [show i = 2 * (i / 2) by omega, pat_even _ _ _ _ (by omega), pat_even _ _ _ _ (by omega)]
  · rw [show i = 2 * (i / 2) + 1 by omega, pat_odd _ _ _ _ (by omega), pat_odd _ _ _ _ (by omega)]
theorem least_low : (scanS (pat 169 1 32) 64).s < 8388608 := by decide +kernel
theorem least_next (n : Nat) (hn : 32 ≤ n) : IsNext (pat 169 1 n) 64 :=
  ⟨by rw [pat_length]; omega, by omega, fun _ => by omega, fun k _ hk hl => by have := hl.1; omega, .inr (.inr ⟨Nat.le_refl _, by
    rw [scan_congr 64 (fun i hi => pat_same 169 1 n 32 i (by omega) (by omega))]; exact least_low⟩)⟩
/-- The sum behind a 59, from one to the next. -/
def hop (u : Int) : Int := mixI (mixI u 0 314159265) 59 314159265
def hops : Nat → Int → Int
  | 0, u => u
  | n + 1, u => hops n (hop u)
theorem hops_add (n : Nat) : ∀ (m : Nat) (u : Int), hops (m + n) u = hops n (hops m u)
  | 0, u => by rw [Nat.zero_add]; rfl
  | m + 1, u => by rw [show m + 1 + n = (m + n) + 1 by omega]; exact hops_add n m (hop u)
def good (u : Int) : Bool := decide (8388608 ≤ u) && decide (8388608 ≤ mixI u 0 314159265)
def goods : Nat → Int → Bool
  | 0, _ => true
  | n + 1, u => good u && goods n (hop u)
theorem goods_at : ∀ (n : Nat) (u : Int), goods n u = true → ∀ i, i < n → good (hops i u) = true
  | 0, _, _, i, hi => by omega
  | n + 1, u, h, i, hi => by
    simp only [goods, Bool.and_eq_true] at h
    rcases i with _ | i
    · exact h.1
    · exact goods_at n (hop u) h.2 i (by omega)
def u0 : Int := mixI 0 59 271828182
structure Chunk (m : Nat) (u : Int) : Prop where
  at_ : hops m u0 = u
theorem ck_next {m : Nat} {u u' : Int} (h : Chunk m u) (n : Nat) (hg : goods n u = true) (hu : hops n u = u') : Chunk (m + n) u' ∧ ∀ i, m ≤ i → i < m + n → good (hops i u0) = true :=
  ⟨⟨by rw [hops_add, h.at_, hu]⟩, fun i h1 h2 => by
    have := goods_at n u hg (i - m) (by omega)
    rwa [← h.at_, ← hops_add, show m + (i - m) = i by omega] at this⟩
theorem ck0 : Chunk 31 (1660639499) := ⟨by decide +kernel⟩
theorem low31 : 8388608 ≤ mixI (hops 31 u0) 0 314159265 := by rw [ck0.at_]; decide +kernel
theorem ck32 : Chunk 32 (1989230024) := ⟨by rw [show 32 = 31 + 1 from rfl, hops_add, ck0.at_]; decide +kernel⟩

theorem g32 : goods 32 (1989230024) = true := by decide +kernel
theorem n32 : hops 32 (1989230024) = 461461864 := by decide +kernel
theorem ck64 : Chunk 64 (461461864) := (ck_next ck32 32 g32 n32).1
theorem g64 : goods 32 (461461864) = true := by decide +kernel
theorem n64 : hops 32 (461461864) = 1660056840 := by decide +kernel
theorem ck96 : Chunk 96 (1660056840) := (ck_next ck64 32 g64 n64).1
theorem g96 : goods 32 (1660056840) = true := by decide +kernel
theorem n96 : hops 32 (1660056840) = 4108619944 := by decide +kernel
theorem ck128 : Chunk 128 (4108619944) := (ck_next ck96 32 g96 n96).1
theorem g128 : goods 32 (4108619944) = true := by decide +kernel
theorem n128 : hops 32 (4108619944) = 2035788872 := by decide +kernel
theorem ck160 : Chunk 160 (2035788872) := (ck_next ck128 32 g128 n128).1
theorem g160 : goods 32 (2035788872) = true := by decide +kernel
theorem n160 : hops 32 (2035788872) = 2555103208 := by decide +kernel
theorem ck192 : Chunk 192 (2555103208) := (ck_next ck160 32 g160 n160).1
theorem g192 : goods 32 (2555103208) = true := by decide +kernel
theorem n192 : hops 32 (2555103208) = 4190167944 := by decide +kernel
theorem ck224 : Chunk 224 (4190167944) := (ck_next ck192 32 g192 n192).1
theorem g224 : goods 32 (4190167944) = true := by decide +kernel
theorem n224 : hops 32 (4190167944) = 1169620776 := by decide +kernel
theorem ck256 : Chunk 256 (1169620776) := (ck_next ck224 32 g224 n224).1
theorem g256 : goods 32 (1169620776) = true := by decide +kernel
theorem n256 : hops 32 (1169620776) = 607001288 := by decide +kernel
theorem ck288 : Chunk 288 (607001288) := (ck_next ck256 32 g256 n256).1
theorem g288 : goods 32 (607001288) = true := by decide +kernel
theorem n288 : hops 32 (607001288) = 1025914472 := by decide +kernel
theorem ck320 : Chunk 320 (1025914472) := (ck_next ck288 32 g288 n288).1
theorem g320 : goods 32 (1025914472) = true := by decide +kernel
theorem n320 : hops 32 (1025914472) = 949965320 := by decide +kernel
theorem ck352 : Chunk 352 (949965320) := (ck_next ck320 32 g320 n320).1
theorem g352 : goods 32 (949965320) = true := by decide +kernel
theorem n352 : hops 32 (949965320) = 3197726120 := by decide +kernel
theorem ck384 : Chunk 384 (3197726120) := (ck_next ck352 32 g352 n352).1
theorem g384 : goods 32 (3197726120) = true := by decide +kernel
theorem n384 : hops 32 (3197726120) = 1997834568 := by decide +kernel
theorem ck416 : Chunk 416 (1997834568) := (ck_next ck384 32 g384 n384).1
theorem g416 : goods 32 (1997834568) = true := by decide +kernel
theorem n416 : hops 32 (1997834568) = 168862952 := by decide +kernel
theorem ck448 : Chunk 448 (168862952) := (ck_next ck416 32 g416 n416).1
theorem g448 : goods 32 (168862952) = true := by decide +kernel
theorem n448 : hops 32 (168862952) = 529383560 := by decide +kernel
theorem ck480 : Chunk 480 (529383560) := (ck_next ck448 32 g448 n448).1
theorem g480 : goods 32 (529383560) = true := by decide +kernel
theorem n480 : hops 32 (529383560) = 1603001384 := by decide +kernel
theorem ck512 : Chunk 512 (1603001384) := (ck_next ck480 32 g480 n480).1
theorem g512 : goods 32 (1603001384) = true := by decide +kernel
theorem n512 : hops 32 (1603001384) = 1913321416 := by decide +kernel
theorem ck544 : Chunk 544 (1913321416) := (ck_next ck512 32 g512 n512).1
theorem g544 : goods 32 (1913321416) = true := by decide +kernel
theorem n544 : hops 32 (1913321416) = 4278915944 := by decide +kernel
theorem ck576 : Chunk 576 (4278915944) := (ck_next ck544 32 g544 n544).1
theorem g576 : goods 32 (4278915944) = true := by decide +kernel
theorem n576 : hops 32 (4278915944) = 2928422664 := by decide +kernel
theorem ck608 : Chunk 608 (2928422664) := (ck_next ck576 32 g576 n576).1
theorem g608 : goods 32 (2928422664) = true := by decide +kernel
theorem n608 : hops 32 (2928422664) = 680413864 := by decide +kernel
theorem ck640 : Chunk 640 (680413864) := (ck_next ck608 32 g608 n608).1
theorem g640 : goods 32 (680413864) = true := by decide +kernel
theorem n640 : hops 32 (680413864) = 353461832 := by decide +kernel
theorem ck672 : Chunk 672 (353461832) := (ck_next ck640 32 g640 n640).1
theorem g672 : goods 32 (353461832) = true := by decide +kernel
theorem n672 : hops 32 (353461832) = 471171560 := by decide +kernel
theorem ck704 : Chunk 704 (471171560) := (ck_next ck672 32 g672 n672).1
theorem g704 : goods 32 (471171560) = true := by decide +kernel
theorem n704 : hops 32 (471171560) = 3852115336 := by decide +kernel
theorem ck736 : Chunk 736 (3852115336) := (ck_next ck704 32 g704 n704).1
theorem g736 : goods 32 (3852115336) = true := by decide +kernel
theorem n736 : hops 32 (3852115336) = 429963560 := by decide +kernel
theorem ck768 : Chunk 768 (429963560) := (ck_next ck736 32 g736 n736).1
theorem g768 : goods 32 (429963560) = true := by decide +kernel
theorem n768 : hops 32 (429963560) = 1613223112 := by decide +kernel
theorem ck800 : Chunk 800 (1613223112) := (ck_next ck768 32 g768 n768).1
theorem g800 : goods 32 (1613223112) = true := by decide +kernel
theorem n800 : hops 32 (1613223112) = 1630531688 := by decide +kernel
theorem ck832 : Chunk 832 (1630531688) := (ck_next ck800 32 g800 n800).1
theorem g832 : goods 32 (1630531688) = true := by decide +kernel
theorem n832 : hops 32 (1630531688) = 3300461576 := by decide +kernel
theorem ck864 : Chunk 864 (3300461576) := (ck_next ck832 32 g832 n832).1
theorem g864 : goods 32 (3300461576) = true := by decide +kernel
theorem n864 : hops 32 (3300461576) = 851650472 := by decide +kernel
theorem ck896 : Chunk 896 (851650472) := (ck_next ck864 32 g864 n864).1
theorem g896 : goods 32 (851650472) = true := by decide +kernel
theorem n896 : hops 32 (851650472) = 1397637960 := by decide +kernel
theorem ck928 : Chunk 928 (1397637960) := (ck_next ck896 32 g896 n896).1
theorem g928 : goods 32 (1397637960) = true := by decide +kernel
theorem n928 : hops 32 (1397637960) = 3462029032 := by decide +kernel
theorem ck960 : Chunk 960 (3462029032) := (ck_next ck928 32 g928 n928).1
theorem g960 : goods 32 (3462029032) = true := by decide +kernel
theorem n960 : hops 32 (3462029032) = 1273461384 := by decide +kernel
theorem ck992 : Chunk 992 (1273461384) := (ck_next ck960 32 g960 n960).1
theorem g992 : goods 32 (1273461384) = true := by decide +kernel
theorem n992 : hops 32 (1273461384) = 1945474600 := by decide +kernel
theorem ck1024 : Chunk 1024 (1945474600) := (ck_next ck992 32 g992 n992).1
theorem g1024 : goods 32 (1945474600) = true := by decide +kernel
theorem n1024 : hops 32 (1945474600) = 4001673672 := by decide +kernel
theorem ck1056 : Chunk 1056 (4001673672) := (ck_next ck1024 32 g1024 n1024).1
theorem g1056 : goods 32 (4001673672) = true := by decide +kernel
theorem n1056 : hops 32 (4001673672) = 1670696296 := by decide +kernel
theorem ck1088 : Chunk 1088 (1670696296) := (ck_next ck1056 32 g1056 n1056).1
theorem g1088 : goods 32 (1670696296) = true := by decide +kernel
theorem n1088 : hops 32 (1670696296) = 2066082056 := by decide +kernel
theorem ck1120 : Chunk 1120 (2066082056) := (ck_next ck1088 32 g1088 n1088).1
theorem g1120 : goods 32 (2066082056) = true := by decide +kernel
theorem n1120 : hops 32 (2066082056) = 3711435944 := by decide +kernel
theorem ck1152 : Chunk 1152 (3711435944) := (ck_next ck1120 32 g1120 n1120).1
theorem g1152 : goods 32 (3711435944) = true := by decide +kernel
theorem n1152 : hops 32 (3711435944) = 835395656 := by decide +kernel
theorem ck1184 : Chunk 1184 (835395656) := (ck_next ck1152 32 g1152 n1152).1
theorem g1184 : goods 32 (835395656) = true := by decide +kernel
theorem n1184 : hops 32 (835395656) = 551500776 := by decide +kernel
theorem ck1216 : Chunk 1216 (551500776) := (ck_next ck1184 32 g1184 n1184).1
theorem g1216 : goods 32 (551500776) = true := by decide +kernel
theorem n1216 : hops 32 (551500776) = 1383356296 := by decide +kernel
theorem ck1248 : Chunk 1248 (1383356296) := (ck_next ck1216 32 g1216 n1216).1
theorem g1248 : goods 32 (1383356296) = true := by decide +kernel
theorem n1248 : hops 32 (1383356296) = 1854567208 := by decide +kernel
theorem ck1280 : Chunk 1280 (1854567208) := (ck_next ck1248 32 g1248 n1248).1
theorem g1280 : goods 32 (1854567208) = true := by decide +kernel
theorem n1280 : hops 32 (1854567208) = 488738504 := by decide +kernel
theorem ck1312 : Chunk 1312 (488738504) := (ck_next ck1280 32 g1280 n1280).1
theorem g1312 : goods 32 (488738504) = true := by decide +kernel
theorem n1312 : hops 32 (488738504) = 104442472 := by decide +kernel
theorem ck1344 : Chunk 1344 (104442472) := (ck_next ck1312 32 g1312 n1312).1
theorem g1344 : goods 32 (104442472) = true := by decide +kernel
theorem n1344 : hops 32 (104442472) = 3520251400 := by decide +kernel
theorem ck1376 : Chunk 1376 (3520251400) := (ck_next ck1344 32 g1344 n1344).1
theorem g1376 : goods 32 (3520251400) = true := by decide +kernel
theorem n1376 : hops 32 (3520251400) = 669835688 := by decide +kernel
theorem ck1408 : Chunk 1408 (669835688) := (ck_next ck1376 32 g1376 n1376).1
theorem g1408 : goods 32 (669835688) = true := by decide +kernel
theorem n1408 : hops 32 (669835688) = 2961702216 := by decide +kernel
theorem ck1440 : Chunk 1440 (2961702216) := (ck_next ck1408 32 g1408 n1408).1
theorem g1440 : goods 32 (2961702216) = true := by decide +kernel
theorem n1440 : hops 32 (2961702216) = 329521384 := by decide +kernel
theorem ck1472 : Chunk 1472 (329521384) := (ck_next ck1440 32 g1440 n1440).1
theorem g1472 : goods 32 (329521384) = true := by decide +kernel
theorem n1472 : hops 32 (329521384) = 4181800072 := by decide +kernel
theorem ck1504 : Chunk 1504 (4181800072) := (ck_next ck1472 32 g1472 n1472).1
theorem g1504 : goods 32 (4181800072) = true := by decide +kernel
theorem n1504 : hops 32 (4181800072) = 157241384 := by decide +kernel
theorem ck1536 : Chunk 1536 (157241384) := (ck_next ck1504 32 g1504 n1504).1
theorem g1536 : goods 32 (157241384) = true := by decide +kernel
theorem n1536 : hops 32 (157241384) = 3959319496 := by decide +kernel
theorem ck1568 : Chunk 1568 (3959319496) := (ck_next ck1536 32 g1536 n1536).1
theorem g1568 : goods 32 (3959319496) = true := by decide +kernel
theorem n1568 : hops 32 (3959319496) = 1226737512 := by decide +kernel
theorem ck1600 : Chunk 1600 (1226737512) := (ck_next ck1568 32 g1568 n1568).1
theorem g1600 : goods 32 (1226737512) = true := by decide +kernel
theorem n1600 : hops 32 (1226737512) = 3368002312 := by decide +kernel
theorem ck1632 : Chunk 1632 (3368002312) := (ck_next ck1600 32 g1600 n1600).1
theorem g1632 : goods 32 (3368002312) = true := by decide +kernel
theorem n1632 : hops 32 (3368002312) = 316784296 := by decide +kernel
theorem ck1664 : Chunk 1664 (316784296) := (ck_next ck1632 32 g1632 n1632).1
theorem g1664 : goods 32 (316784296) = true := by decide +kernel
theorem n1664 : hops 32 (316784296) = 3481590344 := by decide +kernel
theorem ck1696 : Chunk 1696 (3481590344) := (ck_next ck1664 32 g1664 n1664).1
theorem g1696 : goods 32 (3481590344) = true := by decide +kernel
theorem n1696 : hops 32 (3481590344) = 2796090856 := by decide +kernel
theorem ck1728 : Chunk 1728 (2796090856) := (ck_next ck1696 32 g1696 n1696).1
theorem g1728 : goods 32 (2796090856) = true := by decide +kernel
theorem n1728 : hops 32 (2796090856) = 1078858120 := by decide +kernel
theorem ck1760 : Chunk 1760 (1078858120) := (ck_next ck1728 32 g1728 n1728).1
theorem g1760 : goods 32 (1078858120) = true := by decide +kernel
theorem n1760 : hops 32 (1078858120) = 1148464424 := by decide +kernel
theorem ck1792 : Chunk 1792 (1148464424) := (ck_next ck1760 32 g1760 n1760).1
theorem g1792 : goods 32 (1148464424) = true := by decide +kernel
theorem n1792 : hops 32 (1148464424) = 1528514760 := by decide +kernel
theorem ck1824 : Chunk 1824 (1528514760) := (ck_next ck1792 32 g1792 n1792).1
theorem g1824 : goods 32 (1528514760) = true := by decide +kernel
theorem n1824 : hops 32 (1528514760) = 742614120 := by decide +kernel
theorem ck1856 : Chunk 1856 (742614120) := (ck_next ck1824 32 g1824 n1824).1
theorem g1856 : goods 32 (742614120) = true := by decide +kernel
theorem n1856 : hops 32 (742614120) = 1609334792 := by decide +kernel
theorem ck1888 : Chunk 1888 (1609334792) := (ck_next ck1856 32 g1856 n1856).1
theorem g1888 : goods 32 (1609334792) = true := by decide +kernel
theorem n1888 : hops 32 (1609334792) = 2652281768 := by decide +kernel
theorem ck1920 : Chunk 1920 (2652281768) := (ck_next ck1888 32 g1888 n1888).1
theorem g1920 : goods 32 (2652281768) = true := by decide +kernel
theorem n1920 : hops 32 (2652281768) = 2395060040 := by decide +kernel
theorem ck1952 : Chunk 1952 (2395060040) := (ck_next ck1920 32 g1920 n1920).1
theorem g1952 : goods 32 (2395060040) = true := by decide +kernel
theorem n1952 : hops 32 (2395060040) = 3656241896 := by decide +kernel
theorem ck1984 : Chunk 1984 (3656241896) := (ck_next ck1952 32 g1952 n1952).1
theorem g1984 : goods 32 (3656241896) = true := by decide +kernel
theorem n1984 : hops 32 (3656241896) = 664465032 := by decide +kernel
theorem ck2016 : Chunk 2016 (664465032) := (ck_next ck1984 32 g1984 n1984).1
theorem g2016 : goods 32 (664465032) = true := by decide +kernel
theorem n2016 : hops 32 (664465032) = 533269032 := by decide +kernel
theorem ck2048 : Chunk 2048 (533269032) := (ck_next ck2016 32 g2016 n2016).1
theorem all_good (i : Nat) (h1 : 32 ≤ i) (h2 : i < 2048) : good (hops i u0) = true := by
  by_cases h32 : i < 64
  · exact (ck_next ck32 32 g32 n32).2 i (by omega) (by omega)
  by_cases h64 : i < 96
  · exact (ck_next ck64 32 g64 n64).2 i (by omega) (by omega)
  by_cases h96 : i < 128
  · exact (ck_next ck96 32 g96 n96).2 i (by omega) (by omega)
  by_cases h128 : i < 160
  · exact (ck_next ck128 32 g128 n128).2 i (by omega) (by omega)
  by_cases h160 : i < 192
  · exact (ck_next ck160 32 g160 n160).2 i (by omega) (by omega)
  by_cases h192 : i < 224
  · exact (ck_next ck192 32 g192 n192).2 i (by omega) (by omega)
  by_cases h224 : i < 256
  · exact (ck_next ck224 32 g224 n224).2 i (by omega) (by omega)
  by_cases h256 : i < 288
  · exact (ck_next ck256 32 g256 n256).2 i (by omega) (by omega)
  by_cases h288 : i < 320
  · exact (ck_next ck288 32 g288 n288).2 i (by omega) (by omega)
  by_cases h320 : i < 352
  · exact (ck_next ck320 32 g320 n320).2 i (by omega) (by omega)
  by_cases h352 : i < 384
  · exact (ck_next ck352 32 g352 n352).2 i (by omega) (by omega)
  by_cases h384 : i < 416
  · exact (ck_next ck384 32 g384 n384).2 i (by omega) (by omega)
  by_cases h416 : i < 448
  · exact (ck_next ck416 32 g416 n416).2 i (by omega) (by omega)
  by_cases h448 : i < 480
  · exact (ck_next ck448 32 g448 n448).2 i (by omega) (by omega)
  by_cases h480 : i < 512
  · exact (ck_next ck480 32 g480 n480).2 i (by omega) (by omega)
  by_cases h512 : i < 544
  · exact (ck_next ck512 32 g512 n512).2 i (by omega) (by omega)
  by_cases h544 : i < 576
  · exact (ck_next ck544 32 g544 n544).2 i (by omega) (by omega)
  by_cases h576 : i < 608
  · exact (ck_next ck576 32 g576 n576).2 i (by omega) (by omega)
  by_cases h608 : i < 640
  · exact (ck_next ck608 32 g608 n608).2 i (by omega) (by omega)
  by_cases h640 : i < 672
  · exact (ck_next ck640 32 g640 n640).2 i (by omega) (by omega)
  by_cases h672 : i < 704
  · exact (ck_next ck672 32 g672 n672).2 i (by omega) (by omega)
  by_cases h704 : i < 736
  · exact (ck_next ck704 32 g704 n704).2 i (by omega) (by omega)
  by_cases h736 : i < 768
  · exact (ck_next ck736 32 g736 n736).2 i (by omega) (by omega)
  by_cases h768 : i < 800
  · exact (ck_next ck768 32 g768 n768).2 i (by omega) (by omega)
  by_cases h800 : i < 832
  · exact (ck_next ck800 32 g800 n800).2 i (by omega) (by omega)
  by_cases h832 : i < 864
  · exact (ck_next ck832 32 g832 n832).2 i (by omega) (by omega)
  by_cases h864 : i < 896
  · exact (ck_next ck864 32 g864 n864).2 i (by omega) (by omega)
  by_cases h896 : i < 928
  · exact (ck_next ck896 32 g896 n896).2 i (by omega) (by omega)
  by_cases h928 : i < 960
  · exact (ck_next ck928 32 g928 n928).2 i (by omega) (by omega)
  by_cases h960 : i < 992
  · exact (ck_next ck960 32 g960 n960).2 i (by omega) (by omega)
  by_cases h992 : i < 1024
  · exact (ck_next ck992 32 g992 n992).2 i (by omega) (by omega)
  by_cases h1024 : i < 1056
  · exact (ck_next ck1024 32 g1024 n1024).2 i (by omega) (by omega)
  by_cases h1056 : i < 1088
  · exact (ck_next ck1056 32 g1056 n1056).2 i (by omega) (by omega)
  by_cases h1088 : i < 1120
  · exact (ck_next ck1088 32 g1088 n1088).2 i (by omega) (by omega)
  by_cases h1120 : i < 1152
  · exact (ck_next ck1120 32 g1120 n1120).2 i (by omega) (by omega)
  by_cases h1152 : i < 1184
  · exact (ck_next ck1152 32 g1152 n1152).2 i (by omega) (by omega)
  by_cases h1184 : i < 1216
  · exact (ck_next ck1184 32 g1184 n1184).2 i (by omega) (by omega)
  by_cases h1216 : i < 1248
  · exact (ck_next ck1216 32 g1216 n1216).2 i (by omega) (by omega)
  by_cases h1248 : i < 1280
  · exact (ck_next ck1248 32 g1248 n1248).2 i (by omega) (by omega)
  by_cases h1280 : i < 1312
  · exact (ck_next ck1280 32 g1280 n1280).2 i (by omega) (by omega)
  by_cases h1312 : i < 1344
  · exact (ck_next ck1312 32 g1312 n1312).2 i (by omega) (by omega)
  by_cases h1344 : i < 1376
  · exact (ck_next ck1344 32 g1344 n1344).2 i (by omega) (by omega)
  by_cases h1376 : i < 1408
  · exact (ck_next ck1376 32 g1376 n1376).2 i (by omega) (by omega)
  by_cases h1408 : i < 1440
  · exact (ck_next ck1408 32 g1408 n1408).2 i (by omega) (by omega)
  by_cases h1440 : i < 1472
  · exact (ck_next ck1440 32 g1440 n1440).2 i (by omega) (by omega)
  by_cases h1472 : i < 1504
  · exact (ck_next ck1472 32 g1472 n1472).2 i (by omega) (by omega)
  by_cases h1504 : i < 1536
  · exact (ck_next ck1504 32 g1504 n1504).2 i (by omega) (by omega)
  by_cases h1536 : i < 1568
  · exact (ck_next ck1536 32 g1536 n1536).2 i (by omega) (by omega)
  by_cases h1568 : i < 1600
  · exact (ck_next ck1568 32 g1568 n1568).2 i (by omega) (by omega)
  by_cases h1600 : i < 1632
  · exact (ck_next ck1600 32 g1600 n1600).2 i (by omega) (by omega)
  by_cases h1632 : i < 1664
  · exact (ck_next ck1632 32 g1632 n1632).2 i (by omega) (by omega)
  by_cases h1664 : i < 1696
  · exact (ck_next ck1664 32 g1664 n1664).2 i (by omega) (by omega)
  by_cases h1696 : i < 1728
  · exact (ck_next ck1696 32 g1696 n1696).2 i (by omega) (by omega)
  by_cases h1728 : i < 1760
  · exact (ck_next ck1728 32 g1728 n1728).2 i (by omega) (by omega)
  by_cases h1760 : i < 1792
  · exact (ck_next ck1760 32 g1760 n1760).2 i (by omega) (by omega)
  by_cases h1792 : i < 1824
  · exact (ck_next ck1792 32 g1792 n1792).2 i (by omega) (by omega)
  by_cases h1824 : i < 1856
  · exact (ck_next ck1824 32 g1824 n1824).2 i (by omega) (by omega)
  by_cases h1856 : i < 1888
  · exact (ck_next ck1856 32 g1856 n1856).2 i (by omega) (by omega)
  by_cases h1888 : i < 1920
  · exact (ck_next ck1888 32 g1888 n1888).2 i (by omega) (by omega)
  by_cases h1920 : i < 1952
  · exact (ck_next ck1920 32 g1920 n1920).2 i (by omega) (by omega)
  by_cases h1952 : i < 1984
  · exact (ck_next ck1952 32 g1952 n1952).2 i (by omega) (by omega)
  by_cases h1984 : i < 2016
  · exact (ck_next ck1984 32 g1984 n1984).2 i (by omega) (by omega)
  by_cases h2016 : i < 2048
  · exact (ck_next ck2016 32 g2016 n2016).2 i (by omega) (by omega)
  omega
/-- The scan of the long row: behind each byte the sum is as reckoned, and the table guesses right. -/
theorem most_scan (n : Nat) : ∀ m, m < n → (scanS (pat 59 0 n) (2 * m + 1)).s = hops m u0 ∧ (scanS (pat 59 0 n) (2 * m + 1)).a = 59 ∧ (scanS (pat 59 0 n) (2 * m + 1)).g.getD 0 0 = 59 ∧ (scanS (pat 59 0 n) (2 * m + 1)).g.getD 59 0 = 0 ∧ (scanS (pat 59 0 n) (2 * m + 1)).g.length = 256
  | 0, h => by
    have e := pat_even 59 0 n 0 h
    simp only [Nat.mul_zero] at e
    have : scanS (pat 59 0 n) (2 * 0 + 1) = CS.step ⟨0, 0, noGuess⟩ 59 := by
      show CS.step (scanS _ 0) _ = _
      rw [e]; rfl
    rw [this]
    refine ⟨by decide +kernel, rfl, by decide +kernel, by decide +kernel, by decide +kernel⟩
  | m + 1, h => by
    obtain ⟨h1, h2, h3, h4, h5⟩ := most_scan n m (by omega)
    have e1 : scanS (pat 59 0 n) (2 * (m + 1) + 1) = ((scanS (pat 59 0 n) (2 * m + 1)).step 0).step 59 := by
      have a1 := pat_odd 59 0 n m (by omega)
      have a2 := pat_even 59 0 n (m + 1) h
      have e0 : scanS (pat 59 0 n) (2 * (m + 1) + 1) = ((scanS (pat 59 0 n) (2 * m + 1)).step ((pat 59 0 n).getD (2 * m + 1) 0)).step ((pat 59 0 n).getD (2 * (m + 1)) 0) := rfl
      rw [e0, a1, a2]
    rw [e1]
    generalize scanS (pat 59 0 n) (2 * m + 1) = S at *
    obtain ⟨s, a, g⟩ := S
    simp only at h1 h2 h3 h4 h5
    subst h2
    have q1 : (⟨s, 59, g⟩ : CS).step 0 = ⟨mixI s 0 314159265, 0, g.set 59 0⟩ := by
      simp only [CS.step, show (59 : Int).toNat = 59 from rfl, h4]; rfl
    have q2 : (⟨mixI s 0 314159265, 0, g.set 59 0⟩ : CS).step 59 = ⟨hop s, 59, (g.set 59 0).set 0 59⟩ := by
      have : (g.set 59 0).getD 0 0 = 59 := by rw [List.getD_eq_getElem?_getD, List.getElem?_set_ne (by omega), ← List.getD_eq_getElem?_getD]; exact h3
      simp only [CS.step, show (0 : Int).toNat = 0 from rfl, this]; rfl
    rw [q1, q2]
    refine ⟨?_, rfl, ?_, ?_, by simp [h5]⟩
    · show hop s = _
      rw [h1, hops_add 1 m u0]; rfl
    · show ((g.set 59 0).set 0 59).getD 0 0 = 59
      rw [List.getD_eq_getElem?_getD, List.getElem?_set_self (by simp [h5])]; rfl
    · show ((g.set 59 0).set 0 59).getD 59 0 = 0
      rw [List.getD_eq_getElem?_getD, List.getElem?_set_ne (by omega), List.getElem?_set_self (by simp [h5])]; rfl
theorem most_scan2 (n m : Nat) (h : m < n) : (scanS (pat 59 0 n) (2 * m + 2)).s = mixI (hops m u0) 0 314159265 := by
  obtain ⟨h1, h2, h3, h4, h5⟩ := most_scan n m h
  have a1 := pat_odd 59 0 n m h
  show ((scanS _ (2 * m + 1)).step _).s = _
  rw [a1]
  generalize scanS (pat 59 0 n) (2 * m + 1) = S at *
  obtain ⟨s, a, g⟩ := S
  simp only at h1 h2 h3 h4 h5
  subst h2
  simp only [CS.step, show (59 : Int).toNat = 59 from rfl, h4, h1]; rfl
theorem most_no (n j : Nat) (h64 : 64 ≤ j) (hj : j < 4096) (hn : 2048 ≤ n) : ¬ lowAt (pat 59 0 n) j := by
  rintro ⟨_, hl⟩
  rcases Nat.mod_two_eq_zero_or_one j with e | e
  · have hj2 : j = 2 * (j / 2 - 1) + 2 := by omega
    rw [hj2, most_scan2 n _ (by omega)] at hl
    by_cases e31 : j / 2 - 1 = 31
    · rw [e31] at hl; have := low31; omega
    · have := all_good (j / 2 - 1) (by omega) (by omega)
      simp only [good, Bool.and_eq_true, decide_eq_true_eq] at this
      omega
  · have hj2 : j = 2 * (j / 2) + 1 := by omega
    rw [hj2, (most_scan n _ (by omega)).1] at hl
    have := all_good (j / 2) (by omega) (by omega)
    simp only [good, Bool.and_eq_true, decide_eq_true_eq] at this
    omega
theorem most_next (n : Nat) (hn : 2048 ≤ n) : IsNext (pat 59 0 n) 4096 :=
  ⟨by rw [pat_length]; omega, by omega, fun _ => by omega, fun k _ hk hl => most_no n k hl.1 hk hn hl, .inr (.inl rfl)⟩
end Go.Proofs.Ytjcaahilgobfhaa
