/- The program's tests of bits, and a bit, as plain laws. -/
import Derived.Test.YtnpghcikhpglkaaPu
import Derived.Test.YtnpghcikhpglkaaQ3
import Derived.Test.YtnpghcikhpglkaaWi
namespace Go.Proofs.Ytnpghcikhpglkaa.Q
open Go.RowKit Go.Proofs.YtnpghcikhpglkaaW.PrintWords Go.Proofs.YtnpghcikhpglkaaW.PrintLast Go.Proofs.YtnpghcikhpglkaaW.PrintMore Go.Proofs.Ytnpghcikhpglkaa.Hand Go.Proofs.Ytnpghcikhpglkaa.Pu
set_option linter.unusedVariables false
set_option linter.unusedSimpArgs false

theorem tdiv8 (x : Int) (h : 0 ≤ x) : Int.tdiv x 8 = x / 8 := Int.tdiv_eq_ediv_of_nonneg h
theorem tmod8 (x : Int) (h : 0 ≤ x) : Int.tmod x 8 = x % 8 := Int.tmod_eq_emod_of_nonneg h

theorem and255 (x : Int) (r : Int) (h0 : 0 ≤ x) (h1 : x < 256) (hr0 : 1 ≤ r) (hr : r < 8) : (Go.bits .and .u8 x (shr .u8 255 r) == 0) = decide (x % 2 ^ (8 - r).toNat = 0) := by
  have hs : shr .u8 255 r = 2 ^ (8 - r).toNat - 1 := by
    have : r = 1 ∨ r = 2 ∨ r = 3 ∨ r = 4 ∨ r = 5 ∨ r = 6 ∨ r = 7 := by omega
    rcases this with rfl | rfl | rfl | rfl | rfl | rfl | rfl <;> decide
  rw [hs, bits_mask .u8 8 (by decide) wraps_u8 (8 - r).toNat (by omega) x h0 (by omega)]
  by_cases h : x % 2 ^ (8 - r).toNat = 0
  · simp [h]
  · simp [h]

theorem may_eq (s : ByteArray) (n : Int) : bits_May.f s n = some (decide (MayP s n)) := by
  unfold bits_May.f
  by_cases h0 : n < 0
  · rw [if_pos h0, decide_eq_false (p := MayP s n) (fun h => by have := h.1; omega)]
  rw [if_neg h0]
  by_cases h1 : n > 6000
  · rw [if_pos h1, decide_eq_false (p := MayP s n) (fun h => by have := h.2.1; omega)]
  rw [if_neg h1]
  have hw : wrap64 (Int.tdiv (wrap64 ((wrap64 (n + 8)) - 1)) 8) = (n + 7) / 8 := by
    rw [wrap_in (n + 8) (by omega) (by omega), wrap_in (n + 8 - 1) (by omega) (by omega), tdiv8 _ (by omega), wrap_in _ (by omega) (by omega)]
    omega
  rw [hw]
  by_cases h2 : (s.size : Int) = (n + 7) / 8
  · rw [if_pos h2, tmod8 n (by omega)]
    by_cases h3 : n % 8 = 0
    · rw [if_pos h3]
      rw [decide_eq_true (p := MayP s n) ⟨by omega, by omega, h2, .inl h3⟩]
    · rw [if_neg h3, wrap_in _ (by omega) (by omega), if_pos (by omega), if_pos (by omega), if_pos (by omega)]
      obtain ⟨b0, b1⟩ := bt_range s ((s.size : Int) - 1)
      rw [and255 _ _ b0 (by omega) (by omega) (by omega)]
      congr 1
      rw [decide_eq_decide]
      constructor
      · intro h; exact ⟨by omega, by omega, h2, .inr h⟩
      · intro h; exact h.2.2.2.resolve_left h3
  · rw [if_neg h2, decide_eq_false (p := MayP s n) (fun h => h2 h.2.2.1)]

theorem bit_some (s : ByteArray) (n i : Int) (h0 : 0 ≤ i) (h1 : i < 8 * s.size) (h2 : i < 1073741824) : bits_bit.f s n i = some (bitOf s i) := by
  unfold bits_bit.f
  have e1 : wrap64 (Int.tdiv i 8) = i / 8 := by rw [tdiv8 i h0, wrap_in _ (by omega) (by omega)]
  have e2 : wrap64 (7 - Int.tmod i 8) = 7 - i % 8 := by rw [tmod8 i h0, wrap_in _ (by omega) (by omega)]
  rw [e1, e2, if_pos (by omega), if_pos (by omega), if_pos (by omega)]
  congr 1
  obtain ⟨b0, b1⟩ := bt_range s (i / 8)
  have hsh : shr .u8 (bt s (i / 8)) (7 - i % 8) = bt s (i / 8) / 2 ^ (7 - i % 8).toNat := by
    unfold shr
    rw [Nat.min_eq_left (by simp [IntKind.bits]; omega)]
  have hn := div_pow_nonneg (bt s (i / 8)) (7 - i % 8).toNat b0
  have hl := div_pow_le (bt s (i / 8)) (7 - i % 8).toNat b0
  rw [hsh, wrap_in _ (by omega) (by omega), and_one _ hn (by omega)]
  rfl

end Go.Proofs.Ytnpghcikhpglkaa.Q
