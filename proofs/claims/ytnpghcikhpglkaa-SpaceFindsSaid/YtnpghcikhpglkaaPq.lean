/- The document's own test of bits: it is the program's. -/
import Derived.Test.YtnpghcikhpglkaaPm
import Derived.Test.YtnpghcikhpglkaaQ13
namespace Go.Proofs.Ytnpghcikhpglkaa.Q
open Go.RowKit Go.Proofs.YtnpghcikhpglkaaW.PrintWords Go.Proofs.YtnpghcikhpglkaaW.PrintLast Go.Proofs.YtnpghcikhpglkaaW.PrintMore Go.Proofs.Ytnpghcikhpglkaa.Hand Go.Proofs.Ytnpghcikhpglkaa.Pu
set_option linter.unusedVariables false
set_option linter.unusedSimpArgs false

theorem refbit_some (s : ByteArray) (n i : Int) (h0 : 0 ≤ i) (h1 : i < 8 * s.size) (h2 : i < 1073741824) : herbariumref1_bit.f s n i = some (bitOf s i) := by
  unfold herbariumref1_bit.f
  have e1 : wrap64 (Int.tdiv i 8) = i / 8 := by rw [tdiv8 i h0, wrap_in _ (by omega) (by omega)]
  have e2 : wrap64 (7 - Int.tmod i 8) = 7 - i % 8 := by rw [tmod8 i h0, wrap_in _ (by omega) (by omega)]
  rw [e1, e2, if_pos (by omega), if_pos (by omega), if_pos (by omega)]
  congr 1
  obtain ⟨b0, b1⟩ := bt_range s (i / 8)
  rw [wrap_in (bt s (i / 8)) (by omega) (by omega)]
  have hsh : shr .i64 (bt s (i / 8)) (7 - i % 8) = bt s (i / 8) / 2 ^ (7 - i % 8).toNat := by
    unfold shr
    rw [Nat.min_eq_left (by simp [IntKind.bits]; omega)]
  have hn := div_pow_nonneg (bt s (i / 8)) (7 - i % 8).toNat b0
  have hl := div_pow_le (bt s (i / 8)) (7 - i % 8).toNat b0
  rw [hsh, and_one _ hn (by omega)]
  rfl
def Tail0 (s : ByteArray) (n : Int) : Prop := ∀ i : Nat, n ≤ (i : Int) → (i : Int) < 8 * s.size → bitOf s (i : Int) = 0
theorem tail_l0 (s : ByteArray) (n : Int) (hs : s.size ≤ 1000) : ∀ (d i k : Nat), i + d = 8 * s.size → d + 1 ≤ k → ∃ r, herbariumref1_Bits.l0 k (i : Int) s n = some r ∧ (r = true ↔ Tail0 s (i : Int)) := by
  intro d
  induction d with
  | zero =>
    intro i k h hk
    obtain ⟨k, rfl⟩ : ∃ k', k = k' + 1 := ⟨k - 1, by omega⟩
    rw [herbariumref1_Bits.l0, wrap_in _ (by omega) (by omega), if_neg (by omega)]
    exact ⟨true, rfl, by simp only [true_iff]; intro j h1 h2; omega⟩
  | succ d ih =>
    intro i k h hk
    obtain ⟨k, rfl⟩ : ∃ k', k = k' + 1 := ⟨k - 1, by omega⟩
    rw [herbariumref1_Bits.l0, wrap_in (8 * (s.size : Int)) (by omega) (by omega), if_pos (by omega), refbit_some s n i (by omega) (by omega) (by omega), Option.bind_some, wrap_in _ (by omega) (by omega)]
    by_cases hb : bitOf s (i : Int) = 0
    · rw [if_pos hb]
      obtain ⟨r, h1, h2⟩ := ih (i + 1) k (by omega) (by omega)
      refine ⟨r, h1, h2.trans ⟨fun h j h3 h4 => ?_, fun h j h3 h4 => h j (by omega) h4⟩⟩
      by_cases hj : j = i
      · rw [hj]; exact hb
      · exact h j (by omega) h4
    · rw [if_neg hb]
      exact ⟨false, rfl, by simp only [Bool.false_eq_true, false_iff]; intro h; exact hb (h i (by omega) (by omega))⟩
theorem low_bits (b : Int) (r : Nat) (h0 : 1 ≤ r) (h1 : r ≤ 7) : b % 2 ^ (8 - r) = 0 ↔ ∀ j : Nat, r ≤ j → j < 8 → b / 2 ^ (7 - j) % 2 = 0 := by
  have hr : r = 1 ∨ r = 2 ∨ r = 3 ∨ r = 4 ∨ r = 5 ∨ r = 6 ∨ r = 7 := by omega
  constructor
  · intro h j h2 h3
    have hj : j = 1 ∨ j = 2 ∨ j = 3 ∨ j = 4 ∨ j = 5 ∨ j = 6 ∨ j = 7 := by omega
    rcases hr with rfl | rfl | rfl | rfl | rfl | rfl | rfl <;> rcases hj with rfl | rfl | rfl | rfl | rfl | rfl | rfl <;> first | (exfalso; omega) | (simp only [Nat.reduceSub, Int.reducePow] at h ⊢; omega)
  · intro h
    have h7 := h 7 (by omega) (by omega)
    have g : ∀ j : Nat, r ≤ j → j < 8 → b / 2 ^ (7 - j) % 2 = 0 := h
    rcases hr with rfl | rfl | rfl | rfl | rfl | rfl | rfl
    · have a1 := g 1 (by omega) (by omega); have a2 := g 2 (by omega) (by omega); have a3 := g 3 (by omega) (by omega); have a4 := g 4 (by omega) (by omega); have a5 := g 5 (by omega) (by omega); have a6 := g 6 (by omega) (by omega)
      clear g h; simp only [Nat.reduceSub, Int.reducePow] at *; omega
    · have a2 := g 2 (by omega) (by omega); have a3 := g 3 (by omega) (by omega); have a4 := g 4 (by omega) (by omega); have a5 := g 5 (by omega) (by omega); have a6 := g 6 (by omega) (by omega)
      clear g h; simp only [Nat.reduceSub, Int.reducePow] at *; omega
    · have a3 := g 3 (by omega) (by omega); have a4 := g 4 (by omega) (by omega); have a5 := g 5 (by omega) (by omega); have a6 := g 6 (by omega) (by omega)
      clear g h; simp only [Nat.reduceSub, Int.reducePow] at *; omega
    · have a4 := g 4 (by omega) (by omega); have a5 := g 5 (by omega) (by omega); have a6 := g 6 (by omega) (by omega)
      clear g h; simp only [Nat.reduceSub, Int.reducePow] at *; omega
    · have a5 := g 5 (by omega) (by omega); have a6 := g 6 (by omega) (by omega)
      clear g h; simp only [Nat.reduceSub, Int.reducePow] at *; omega
    · have a6 := g 6 (by omega) (by omega)
      clear g h; simp only [Nat.reduceSub, Int.reducePow] at *; omega
    · clear g h; simp only [Nat.reduceSub, Int.reducePow] at *; omega
theorem tail_iff (s : ByteArray) (n : Int) (h0 : 0 ≤ n) (h1 : n ≤ 6000) (h2 : (s.size : Int) = (n + 7) / 8) : Tail0 s n ↔ (n % 8 = 0 ∨ bt s ((s.size : Int) - 1) % 2 ^ (8 - n % 8).toNat = 0) := by
  by_cases h3 : n % 8 = 0
  · exact ⟨fun _ => .inl h3, fun _ i h4 h5 => by omega⟩
  · obtain ⟨m, rfl⟩ := Int.eq_ofNat_of_zero_le h0
    have hs : ((s.size : Int) - 1) = ((m / 8 : Nat) : Int) := by omega
    have hr : (8 - (m : Int) % 8).toNat = 8 - m % 8 := by omega
    rw [hs, hr, or_iff_right h3, low_bits _ (m % 8) (by omega) (by omega)]
    constructor
    · intro h j h4 h5
      have := h (8 * (m / 8) + j) (by omega) (by omega)
      rwa [bitOf_at s (m / 8) j h5] at this
    · intro h i h4 h5
      have e := bitOf_at s (m / 8) (i % 8) (by omega)
      rw [show 8 * (m / 8) + i % 8 = i by omega] at e
      rw [e]
      exact h (i % 8) (by omega) (by omega)
theorem refBits_eq (s : ByteArray) (n : Int) (k : Nat) (hk : 8100 ≤ k) : herbariumref1_Bits.f k s n = some (decide (MayP s n)) := by
  obtain ⟨k, rfl⟩ : ∃ k', k = k' + 1 := ⟨k - 1, by omega⟩
  unfold herbariumref1_Bits.f herbariumref0_Num.f
  by_cases h0 : n ≥ 0
  · rw [if_pos h0, Option.bind_some]
    by_cases h1 : n ≤ 6000
    · have hw : wrap64 (Int.tdiv (wrap64 (n + 7)) 8) = (n + 7) / 8 := by
        rw [wrap_in (n + 7) (by omega) (by omega), tdiv8 _ (by omega), wrap_in _ (by omega) (by omega)]
      rw [decide_eq_true h1, if_pos rfl, hw]
      by_cases h2 : (s.size : Int) = (n + 7) / 8
      · rw [show ((s.size : Int) != (n + 7) / 8) = false by simp [h2], herbariumref1_Bits.j0, if_neg (by decide)]
        obtain ⟨m, rfl⟩ := Int.eq_ofNat_of_zero_le h0
        obtain ⟨r, e1, e2⟩ := tail_l0 s (m : Int) (by omega) (8 * s.size - m) m k (by omega) (by omega)
        rw [e1]
        congr 1
        rw [tail_iff s (m : Int) h0 h1 h2] at e2
        rw [Bool.eq_iff_iff, decide_eq_true_iff, e2]
        exact ⟨fun h => ⟨h0, h1, h2, h⟩, fun h => h.2.2.2⟩
      · rw [show ((s.size : Int) != (n + 7) / 8) = true by simp [h2], herbariumref1_Bits.j0, if_pos rfl, decide_eq_false (fun h => h2 h.2.2.1)]
    · rw [decide_eq_false h1, if_neg (by decide), herbariumref1_Bits.j0, if_pos rfl, decide_eq_false (p := MayP s n) (fun h => h1 h.2.1)]
  · rw [if_neg h0, Option.bind_some, if_neg (by decide), herbariumref1_Bits.j0, if_pos rfl, decide_eq_false (p := MayP s n) (fun h => h0 h.1)]
end Go.Proofs.Ytnpghcikhpglkaa.Q
