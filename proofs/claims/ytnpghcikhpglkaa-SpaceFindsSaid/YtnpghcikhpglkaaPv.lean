/- Weights: told in any case. -/
import Derived.Test.YtnpghcikhpglkaaQ9
import Derived.Test.YtnpghcikhpglkaaWi
namespace Go.Proofs.Ytnpghcikhpglkaa.Pv
open Go.RowKit Go.Proofs.YtnpghcikhpglkaaW.PrintWords Go.Proofs.YtnpghcikhpglkaaW.PrintLast Go.Proofs.YtnpghcikhpglkaaW.PrintMore Go.Proofs.Ytnpghcikhpglkaa.Q
set_option linter.unusedVariables false

theorem weight_some (l : List S27) (hl : (l.length : Int) < 9223372036854775807) (d : Nat) : ∀ (k : Nat) (x i : Int), 0 ≤ i → i + d = l.length → d < k → ∃ t, herbariumlaw0_BitsWeight.l0 k l x i = some t := by
  induction d with
  | zero =>
    intro k x i h0 hi hk
    obtain ⟨k, rfl⟩ : ∃ m, k = m + 1 := ⟨k - 1, by omega⟩
    simp only [herbariumlaw0_BitsWeight.l0]
    rw [if_neg (by omega)]
    exact ⟨_, rfl⟩
  | succ d ih =>
    intro k x i h0 hi hk
    obtain ⟨k, rfl⟩ : ∃ m, k = m + 1 := ⟨k - 1, by omega⟩
    simp only [herbariumlaw0_BitsWeight.l0]
    rw [if_pos (by omega)]
    split
    · rw [wrap_in (i + 1) (by omega) (by omega)]
      exact ih k _ (i + 1) (by omega) (by omega) (by omega)
    · exact ⟨_, rfl⟩
/-- More than is played, or not: told in any case; and where it is not: there are few. -/
theorem heavy_some (l : List S27) (m : List Int) (hl : (l.length : Int) < 9223372036854775807) (k : Nat) (hk : l.length < k) : herbariumlaw1_Heavy.f k l m = some true ∨ (herbariumlaw1_Heavy.f k l m = some false ∧ m.length ≤ 100) := by
  unfold herbariumlaw1_Heavy.f herbariumlaw0_BitsWeight.f
  obtain ⟨t, ht⟩ := weight_some l hl l.length k (l.length : Int) 0 (by omega) (by omega) hk
  rw [ht]
  simp only [Option.bind_some]
  split
  · exact .inl rfl
  · by_cases h : (m.length : Int) > 100
    · rw [decide_eq_true h]; exact .inl rfl
    · rw [decide_eq_false h]; exact .inr ⟨rfl, by omega⟩
end Go.Proofs.Ytnpghcikhpglkaa.Pv
