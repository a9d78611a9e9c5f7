/- Cutting and joining bits, numbers brought within bounds, weights: plain laws. -/
import Derived.Test.YtnpghcikhpglkaaPz
import Derived.Test.YtnpghcikhpglkaaHd
import Derived.Test.YtnpghcikhpglkaaQ26
import Derived.Test.YtnpghcikhpglkaaQ11
namespace Go.Proofs.Ytnpghcikhpglkaa.Pb
open Go.RowKit Go.Proofs.YtnpghcikhpglkaaW.PrintWords Go.Proofs.YtnpghcikhpglkaaW.PrintLast Go.Proofs.YtnpghcikhpglkaaW.PrintMore Go.Proofs.Ytnpghcikhpglkaa.Hand Go.Proofs.Ytnpghcikhpglkaa.Pu Go.Proofs.Ytnpghcikhpglkaa.Q
set_option linter.unusedVariables false
set_option linter.unusedSimpArgs false

theorem partK_packS (l : List Int) (hl : IsBits l) (k i : Nat) (h : i + k ≤ l.length) : partK (packS l) k (i : Int) = (l.drop i).take k := by
  rw [partK_ofS]
  refine List.ext_getElem? fun j => ?_
  rcases Nat.lt_or_ge j k with hj | hj
  · rw [List.getElem?_map, List.getElem?_range hj, List.getElem?_take_of_lt hj, List.getElem?_drop, List.getElem?_eq_getElem (by omega)]
    simp only [Option.map_some]
    rw [bitOf_packS l hl (i + j) (by omega), List.getD_eq_getElem?_getD, List.getElem?_eq_getElem (by omega)]
    rfl
  · rw [List.getElem?_eq_none (by simp; omega), List.getElem?_eq_none (by simp; omega)]
/-- bits.Cut, of bits that may be. -/
def cutR (l : List Int) (a b : Int) : ByteArray × Int × Int :=
  if 0 ≤ a ∧ a ≤ b ∧ b ≤ (l.length : Int) then (packS ((l.drop a.toNat).take (b - a).toNat), b - a, 0) else (⟨#[]⟩, 0, 1)
theorem cut_eq (l : List Int) (hl : IsBits l) (hlen : l.length ≤ 6000) (a b : Int) : bits_Cut.f (packS l) (l.length : Int) a b = some (cutR l a b) := by
  unfold bits_Cut.f cutR
  rw [may_eq, decide_eq_true (may_packS l hl hlen)]
  simp only [Option.bind_some, if_true]
  by_cases h1 : a < 0
  · rw [if_pos h1, if_neg (fun h => by omega)]
  · rw [if_neg h1]
    by_cases h2 : a > b
    · rw [if_pos h2, if_neg (fun h => by omega)]
    · rw [if_neg h2]
      by_cases h3 : b > (l.length : Int)
      · rw [if_pos h3, if_neg (fun h => by omega)]
      · have hsz := packS_size l
        rw [if_neg h3, if_pos ⟨by omega, by omega, by omega⟩]
        unfold bits_Part.f
        rw [if_pos ⟨by omega, by omega, by omega⟩]
        simp only [Option.bind_some]
        obtain ⟨a', rfl⟩ := Int.eq_ofNat_of_zero_le (show 0 ≤ a by omega)
        rw [partK_packS l hl _ a' (by omega), Int.toNat_natCast, Int.toNat_of_nonneg (by omega)]
theorem cat_eq (A B : List Int) (hA : IsBits A) (hB : IsBits B) (h1 : A.length ≤ 6000) (h2 : B.length ≤ 6000) : bits_Cat.f (packS A) (A.length : Int) (packS B) (B.length : Int) =
    if A.length + B.length ≤ 6000 then some (packS (A ++ B), ((A ++ B).length : Int), 0) else some (⟨#[]⟩, 0, 2) := by
  unfold bits_Cat.f
  rw [if_pos ⟨may_packS A hA h1, may_packS B hB h2⟩, ofS_packS A hA, ofS_packS B hB]
  by_cases h : A.length + B.length ≤ 6000
  · rw [if_pos h, if_pos (by omega), List.length_append]
    simp
  · rw [if_neg h, if_neg (by omega)]

theorem u64_wrap (x : Int) : IntKind.u64.wrap x = x % 18446744073709551616 := by simp [IntKind.wrap, IntKind.bits, IntKind.signed]
theorem within_eq (a n : Int) (h0 : 0 < n) (h1 : n < 9223372036854775808) : ∃ r, herbariumlaw0_Within.f a n = some r ∧ 0 ≤ r ∧ r < n := by
  unfold herbariumlaw0_Within.f
  rw [u64_wrap, u64_wrap, Int.emod_eq_of_lt (a := n) (by omega) (by omega), if_neg (by omega)]
  have hm := Int.emod_nonneg a (show (18446744073709551616 : Int) ≠ 0 by omega)
  rw [Int.tmod_eq_emod_of_nonneg hm]
  have r0 := Int.emod_nonneg (a % 18446744073709551616) (show n ≠ 0 by omega)
  have r1 := Int.emod_lt_of_pos (a % 18446744073709551616) h0
  rw [wrap_in _ (by omega) (by omega)]
  exact ⟨_, rfl, r0, r1⟩

theorem weight_some (l : List S27) (hl : (l.length : Int) < 9223372036854775807) (d : Nat) : ∀ (k : Nat) (x i : Int), 0 ≤ i → i + d = l.length → d < k → ∃ t, herbariumlaw0_BitsWeight.l0 k l x i = some t := by
  induction d with
  | zero =>
    intro k x i h0 hi hk
    obtain ⟨k, rfl⟩ : ∃ m, k = m + 1 := ⟨k - 1, by omega⟩
    simp only [herbariumlaw0_BitsWeight.l0]
    rw [if_neg (by omega)]
    exact ⟨_, rfl⟩
  | succ d ih =>
    intro k x i h0 hi hk
    obtain ⟨k, rfl⟩ : ∃ m, k = m + 1 := ⟨k - 1, by omega⟩
    simp only [herbariumlaw0_BitsWeight.l0]
    rw [if_pos (by omega)]
    split
    · rw [wrap_in (i + 1) (by omega) (by omega)]
      exact ih k _ (i + 1) (by omega) (by omega) (by omega)
    · exact ⟨_, rfl⟩
/-- More than is played, or not: told in any case; and where it is not: there are few. -/
theorem heavy_some (l : List S27) (m : List Int) (hl : (l.length : Int) < 9223372036854775807) (k : Nat) (hk : l.length < k) : herbariumlaw1_Heavy.f k l m = some true ∨ (herbariumlaw1_Heavy.f k l m = some false ∧ m.length ≤ 100) := by
  unfold herbariumlaw1_Heavy.f herbariumlaw0_BitsWeight.f
  obtain ⟨t, ht⟩ := weight_some l hl l.length k (l.length : Int) 0 (by omega) (by omega) hk
  rw [ht]
  simp only [Option.bind_some]
  split
  · exact .inl rfl
  · by_cases h : (m.length : Int) > 100
    · rw [decide_eq_true h]; exact .inl rfl
    · rw [decide_eq_false h]; exact .inr ⟨rfl, by omega⟩
theorem wakes1 (k : Nat) (hk : 40 ≤ k) (f : Option Bool) (hf : f = ((bits_Put.f (⟨#[]⟩ : ByteArray) 0 5 3).bind fun bt559 => ((bits_Get.f k bt559.1 bt559.2.1 0 3).bind fun bt563 => ((herbariumlaw1_num.f bt559.2.2).bind fun t565 => (if t565 = 0 then ((herbariumlaw1_num.f bt563.2).bind fun t566 => (if t566 = 0 then (if (bt559.1.toList == ([160] : List UInt8) && (bt559.2.1 == 3)) = true then (some (bt563.1 == 5)) else (some false)) else (some false))) else (some false)))))) : f = some true := by
  have h1 : bits_Put.f (⟨#[]⟩ : ByteArray) 0 5 3 = some (packS (putL 3 5), ((putL 3 5).length : Int), 0) := put_nil 5 3 (by omega) (by omega) (by omega)
  rw [hf, h1]
  simp only [Option.bind_some]
  rw [get_eq (putL 3 5) (putL_bits 3 5) (by rw [putL_length]; omega) 0 3 (by omega) k hk]
  simp only [Option.bind_some, herbariumlaw1_num.f]
  decide +kernel
end Go.Proofs.Ytnpghcikhpglkaa.Pb
