/- SpaceNeeds: the plain statement. -/
import Derived.Test.YtnpghcikhpglkaaOp
import Derived.Test.YtnpghcikhpglkaaQ8
import Derived.Test.YtnpghcikhpglkaaPm
namespace Go.Proofs.Ytnpghcikhpglkaa.Pure
open Go.RowKit Go.Proofs.YtnpghcikhpglkaaW.PrintWords Go.Proofs.YtnpghcikhpglkaaW.PrintLast Go.Proofs.YtnpghcikhpglkaaW.PrintMore Go.Proofs.Ytnpghcikhpglkaa.Q Go.Proofs.Ytnpghcikhpglkaa.Pu

theorem wakes13 : herbariumlaw13_wakes.f 100 = some true := by decide +kernel

theorem zeros_bt (m : Nat) (i : Int) : bt (strOfNums (List.replicate m 0)) i = 0 := by
  unfold bt
  split
  · rename_i h
    have h2 : i.toNat < (strOfNums (List.replicate m 0)).data.toList.length := h
    have h3 : (strOfNums (List.replicate m 0)).data.toList[i.toNat]'h2 = 0 := by
      simp [strOfNums_data]
    have h4 : (strOfNums (List.replicate m 0))[i.toNat]'h = 0 := h3
    rw [h4]; rfl
  · rfl

theorem need_zeros (n : Int) (h0 : 0 ≤ n) (h1 : n ≤ 6000) : space_Need.f (strOfNums (List.replicate ((n + 7) / 8).toNat 0)) n = some ((63 + (n + 7) / 8) / 60, 0) := by
  have hs : (strOfNums (List.replicate ((n + 7) / 8).toNat 0)).size = ((n + 7) / 8).toNat := by rw [strOfNums_size, List.length_replicate]
  have hm : MayP (strOfNums (List.replicate ((n + 7) / 8).toNat 0)) n := ⟨h0, h1, by rw [hs]; omega, .inr (by rw [zeros_bt]; simp)⟩
  unfold space_Need.f
  rw [may_eq, decide_eq_true hm]
  simp only [Option.bind_some, if_true]
  unfold space_Blocks.f
  rw [hs]
  simp only [Option.bind_some]
  congr 2
  simp (disch := omega) only [wrap_in, Int.tdiv_eq_ediv_of_nonneg]
  omega

theorem need_bad : space_Need.f (⟨#[]⟩ : ByteArray) 1 = some (0, 1) := by decide +kernel

theorem needs_loop (l0 : List (List S41)) (l1 : List Int) (l2 : List S27) (l3 : List Int) (d : Nat) : ∀ (k : Nat) (n : Int), 0 ≤ n → n ≤ 6007 → 6008 - n ≤ d → d + 100 < k → herbariumlaw13_SpaceNeeds.l0 k n l0 l1 l2 l3 = some true := by
  induction d with
  | zero => intro k n h0 h1 h2 h3; omega
  | succ d ih =>
    intro k n h0 h1 h2 h3
    obtain ⟨k, rfl⟩ : ∃ m, k = m + 1 := ⟨k - 1, by omega⟩
    simp only [herbariumlaw13_SpaceNeeds.l0]
    by_cases hn : n ≤ 6000
    · rw [if_pos hn]
      have e1 : wrap64 (Int.tdiv (wrap64 (n + 7)) 8) = (n + 7) / 8 := by rw [wrap_in (n + 7) (by omega) (by omega), tdiv8 _ (by omega), wrap_in _ (by omega) (by omega)]
      rw [e1]
      unfold herbariumref0_Zeros.f
      rw [if_pos (by omega), if_pos (by omega)]
      simp only [Option.bind_some]
      rw [need_zeros n h0 hn]
      simp only [Option.bind_some, herbariumlaw13_num.f]
      rw [if_pos trivial]
      simp (disch := omega) only [wrap_in]
      rw [if_neg (by omega), if_neg (by omega), if_neg (by omega)]
      exact ih k (n + 7) (by omega) (by omega) (by omega) (by omega)
    · rw [if_neg hn, need_bad]
      simp only [Option.bind_some, herbariumlaw13_num.f]
      rw [if_pos trivial, if_pos (show _ ≥ _ from Int.natCast_nonneg _)]
      have : herbariumlaw13_wakes.f k = some true := at_rounds herbariumlaw13_wakes.mono (k := 100) (by omega) wakes13
      rw [this]
      rfl

theorem SpaceNeeds : ∀ (l0 : List (List S41)) (l1 : List Int) (l2 : List S27) (l3 : List Int), Op.GoodL l0 → Op.GoodN l1 → Op.GoodB l2 → Op.GoodN l3 → ∃ k, Q.herbariumlaw13_SpaceNeeds.f k l0 l1 l2 l3 = some true :=
  fun l0 l1 l2 l3 _ _ _ _ => ⟨7000, needs_loop l0 l1 l2 l3 6008 7000 0 (by omega) (by omega) (by omega) (by omega)⟩
end Go.Proofs.Ytnpghcikhpglkaa.Pure
