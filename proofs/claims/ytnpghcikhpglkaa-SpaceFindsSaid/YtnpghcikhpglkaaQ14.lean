-- laid by a program of this session (a changed copy of the kit's print program): functions, contracts
import Derived.Test.YtnpghcikhpglkaaQ0
import Derived.Test.YtnpghcikhpglkaaQ5
import Derived.Test.YtnpghcikhpglkaaQ7
import Derived.Test.YtnpghcikhpglkaaQ9
import Derived.Test.YtnpghcikhpglkaaQ11
import Derived.Test.YtnpghcikhpglkaaQ12
import Derived.Test.YtnpghcikhpglkaaQ13
namespace Go.Proofs.Ytnpghcikhpglkaa.Q
open Go.RowKit Go.Proofs.YtnpghcikhpglkaaW.PrintWords Go.Proofs.YtnpghcikhpglkaaW.PrintLast Go.Proofs.YtnpghcikhpglkaaW.PrintMore
attribute [local go_sem] max2_int min2_int max_two min_two max_three min_three max_four min_four   -- for this text's walks alone
set_option linter.unusedVariables false
set_option linter.unusedSimpArgs false

/-! ### herbariumlaw13_SpaceFinds: function 9 -/
mutual
def herbariumlaw13_SpaceFinds.l0 : Nat → List Int → Int → List (List (S41)) → List Int → List (S27) → List Int → Option (Bool)
  | 0, _, _, _, _, _, _ => none
  | k + 1, x3, x4, x315000, x315001, x315002, x315003 => if x4 < (x315000.length : Int) then (herbariumlaw13_SpaceFinds.j1 k x3 x4 (decide (x4 < 5)) x315000 x315001 x315002 x315003) else (herbariumlaw13_SpaceFinds.j1 k x3 x4 false x315000 x315001 x315002 x315003)
def herbariumlaw13_SpaceFinds.j1 : Nat → List Int → Int → Bool → List (List (S41)) → List Int → List (S27) → List Int → Option (Bool)
  | 0, _, _, _, _, _, _, _ => none
  | k + 1, x3, x4, x40, x315000, x315001, x315002, x315003 => if x40 = true then (if 0 ≤ x4 then (if x4 < (x315000.length : Int) then ((herbariumref0_CopyRuns.f k (rd_L4 x315000 x4)).bind fun t323 => (herbariumlaw13_SpaceFinds.l1 k x3 x4 t323 0 x315000 x315001 x315002 x315003)) else (none)) else (none)) else (herbariumlaw13_SpaceFinds.l3 k 0 x315000 x315001 x315002 x315003)
def herbariumlaw13_SpaceFinds.l1 : Nat → List Int → Int → List (S41) → Int → List (List (S41)) → List Int → List (S27) → List Int → Option (Bool)
  | 0, _, _, _, _, _, _, _, _ => none
  | k + 1, x3, x4, x5, x6, x315000, x315001, x315002, x315003 => if x6 < (x3.length : Int) then (herbariumlaw13_SpaceFinds.j3 k x3 x4 x5 x6 (decide (x6 < 8)) x315000 x315001 x315002 x315003) else (herbariumlaw13_SpaceFinds.j3 k x3 x4 x5 x6 false x315000 x315001 x315002 x315003)
def herbariumlaw13_SpaceFinds.j3 : Nat → List Int → Int → List (S41) → Int → Bool → List (List (S41)) → List Int → List (S27) → List Int → Option (Bool)
  | 0, _, _, _, _, _, _, _, _, _ => none
  | k + 1, x3, x4, x5, x6, x56, x315000, x315001, x315002, x315003 => if x56 = true then (if 0 ≤ x6 then (if x6 < (x3.length : Int) then ((herbariumref13_Places.f k x5 (rd x3 x6)).bind fun t329 => ((space_Gaps.f k x5 (rd x3 x6)).bind fun bt331 => ((space_Free.f k x5 (rd x3 x6)).bind fun bt336 => (if t329 = true then ((herbariumref13_Gaps.f k x5 (rd x3 x6)).bind fun t339 => ((herbariumref13_Free.f k x5 (rd x3 x6)).bind fun t343 => (herbariumlaw13_SpaceFinds.j4 k x3 x4 x5 x6 t329 bt331.1 bt331.2 bt336.1 bt336.2 0 t343 t339 x315000 x315001 x315002 x315003))) else (herbariumlaw13_SpaceFinds.j4 k x3 x4 x5 x6 t329 bt331.1 bt331.2 bt336.1 bt336.2 1 0 ([] : List (S41)) x315000 x315001 x315002 x315003))))) else (none)) else (none)) else (if 0 ≤ x4 then (if x4 < (x315000.length : Int) then ((herbariumref0_EqRuns.f k x5 (rd_L4 x315000 x4)).bind fun t327 => (if t327 = true then (herbariumlaw13_SpaceFinds.l0 k x3 (wrap64 (x4 + 1)) x315000 x315001 x315002 x315003) else (some false))) else (none)) else (none))
def herbariumlaw13_SpaceFinds.j4 : Nat → List Int → Int → List (S41) → Int → Bool → List (S41) → Int → Int → Int → Int → Int → List (S41) → List (List (S41)) → List Int → List (S27) → List Int → Option (Bool)
  | 0, _, _, _, _, _, _, _, _, _, _, _, _, _, _, _, _ => none
  | k + 1, x3, x4, x5, x6, x7, x8, x9, x10, x11, x12, x13, x14, x315000, x315001, x315002, x315003 => if 0 ≤ x6 then (if x6 < (x3.length : Int) then ((space_Check.f k x5 (rd x3 x6)).bind fun t345 => ((herbariumlaw13_num.f t345).bind fun t346 => (if t346 = x12 then ((herbariumlaw13_num.f x9).bind fun t347 => (if t347 = x12 then ((herbariumlaw13_num.f x11).bind fun t348 => (if t348 = x12 then ((herbariumref0_EqRuns.f k x8 x14).bind fun t349 => (if t349 = true then (herbariumlaw13_SpaceFinds.j5 k x3 x4 x5 x6 x7 (x10 != x13) x315000 x315001 x315002 x315003) else (herbariumlaw13_SpaceFinds.j5 k x3 x4 x5 x6 x7 true x315000 x315001 x315002 x315003))) else (herbariumlaw13_SpaceFinds.j5 k x3 x4 x5 x6 x7 true x315000 x315001 x315002 x315003))) else (herbariumlaw13_SpaceFinds.j5 k x3 x4 x5 x6 x7 true x315000 x315001 x315002 x315003))) else (herbariumlaw13_SpaceFinds.j5 k x3 x4 x5 x6 x7 true x315000 x315001 x315002 x315003)))) else (none)) else (none)
def herbariumlaw13_SpaceFinds.j5 : Nat → List Int → Int → List (S41) → Int → Bool → Bool → List (List (S41)) → List Int → List (S27) → List Int → Option (Bool)
  | 0, _, _, _, _, _, _, _, _, _, _ => none
  | k + 1, x3, x4, x5, x6, x7, x127, x315000, x315001, x315002, x315003 => if x127 = true then (some false) else (herbariumlaw13_SpaceFinds.l2 k x3 x4 x5 x6 x7 (-1) x315000 x315001 x315002 x315003)
def herbariumlaw13_SpaceFinds.l2 : Nat → List Int → Int → List (S41) → Int → Bool → Int → List (List (S41)) → List Int → List (S27) → List Int → Option (Bool)
  | 0, _, _, _, _, _, _, _, _, _, _ => none
  | k + 1, x3, x4, x5, x6, x7, x15, x315000, x315001, x315002, x315003 => if x15 < 9 then (if 0 ≤ x6 then (if x6 < (x3.length : Int) then ((space_Find.f k x5 (rd x3 x6) x15).bind fun bt351 => (if x7 = true then ((herbariumref0_Between.f x15 1 100).bind fun t353 => (herbariumlaw13_SpaceFinds.j7 k x3 x4 x5 x6 x7 x15 bt351.1 bt351.2 1 0 t353 x315000 x315001 x315002 x315003)) else (herbariumlaw13_SpaceFinds.j7 k x3 x4 x5 x6 x7 x15 bt351.1 bt351.2 1 0 false x315000 x315001 x315002 x315003))) else (none)) else (none)) else (herbariumlaw13_SpaceFinds.l1 k x3 x4 x5 (wrap64 (x6 + 1)) x315000 x315001 x315002 x315003)
def herbariumlaw13_SpaceFinds.j7 : Nat → List Int → Int → List (S41) → Int → Bool → Int → Int → Int → Int → Int → Bool → List (List (S41)) → List Int → List (S27) → List Int → Option (Bool)
  | 0, _, _, _, _, _, _, _, _, _, _, _, _, _, _, _ => none
  | k + 1, x3, x4, x5, x6, x7, x15, x16, x17, x18, x19, x146, x315000, x315001, x315002, x315003 => if x146 = true then (if 0 ≤ x6 then (if x6 < (x3.length : Int) then ((herbariumref13_Find.f k x5 (rd x3 x6) x15).bind fun t355 => (if t355 ≥ 0 then ((herbariumlaw13_num.f x17).bind fun t356 => (if t356 = 0 then (if x16 = t355 then (herbariumlaw13_SpaceFinds.l2 k x3 x4 x5 x6 x7 (wrap64 (x15 + 1)) x315000 x315001 x315002 x315003) else (some false)) else (some false))) else ((herbariumlaw13_num.f x17).bind fun t357 => (if t357 = 5 then (if x16 = x19 then (herbariumlaw13_SpaceFinds.l2 k x3 x4 x5 x6 x7 (wrap64 (x15 + 1)) x315000 x315001 x315002 x315003) else (some false)) else (some false))))) else (none)) else (none)) else ((herbariumlaw13_num.f x17).bind fun t358 => (if t358 = x18 then (if x16 = x19 then (herbariumlaw13_SpaceFinds.l2 k x3 x4 x5 x6 x7 (wrap64 (x15 + 1)) x315000 x315001 x315002 x315003) else (some false)) else (some false)))
def herbariumlaw13_SpaceFinds.l3 : Nat → Int → List (List (S41)) → List Int → List (S27) → List Int → Option (Bool)
  | 0, _, _, _, _, _ => none
  | k + 1, x21, x315000, x315001, x315002, x315003 => if x21 < (x315002.length : Int) then (herbariumlaw13_SpaceFinds.j9 k x21 (decide (x21 < 6)) x315000 x315001 x315002 x315003) else (herbariumlaw13_SpaceFinds.j9 k x21 false x315000 x315001 x315002 x315003)
def herbariumlaw13_SpaceFinds.j9 : Nat → Int → Bool → List (List (S41)) → List Int → List (S27) → List Int → Option (Bool)
  | 0, _, _, _, _, _, _ => none
  | k + 1, x21, x183, x315000, x315001, x315002, x315003 => if x183 = true then (if 0 ≤ x21 then (if x21 < (x315002.length : Int) then ((space_Need.f ((rd_T27 x315002 x21).f0) ((rd_T27 x315002 x21).f1)).bind fun bt362 => ((herbariumref1_Bits.f k ((rd_T27 x315002 x21).f0) ((rd_T27 x315002 x21).f1)).bind fun t365 => (if t365 = true then ((herbariumref13_Need.f ((rd_T27 x315002 x21).f0) ((rd_T27 x315002 x21).f1)).bind fun t367 => ((herbariumlaw13_num.f bt362.2).bind fun t368 => (if t368 = 0 then (if bt362.1 = t367 then (herbariumlaw13_SpaceFinds.l3 k (wrap64 (x21 + 1)) x315000 x315001 x315002 x315003) else (some false)) else (some false)))) else ((herbariumlaw13_num.f bt362.2).bind fun t369 => (if t369 = 1 then (if bt362.1 = 0 then (herbariumlaw13_SpaceFinds.l3 k (wrap64 (x21 + 1)) x315000 x315001 x315002 x315003) else (some false)) else (some false)))))) else (none)) else (none)) else ((herbariumlaw0_Within.f 3 2).bind fun t359 => (if t359 = 1 then ((herbariumlaw13_wakes.f k).bind fun t360 => (some t360)) else (some false)))
end
def herbariumlaw13_SpaceFinds.f (k : Nat) (l0_0 : List (List (S41))) (l0_1 : List Int) (l0_2 : List (S27)) (l0_3 : List Int) : Option (Bool) := (herbariumlaw13_Heavy.f k l0_0 l0_1 l0_2 l0_3).bind fun t315 => (if t315 = true then (some true) else ((some (([20, 1, 0, 100, 101] : List Int) : List Int)).bind fun y316 => (if y316.length + l0_1.length < 17592186044416 then (herbariumlaw13_SpaceFinds.l0 k (y316 ++ l0_1) 0 l0_0 l0_1 l0_2 l0_3) else (none))))
theorem herbariumlaw13_SpaceFinds.mono_l : ∀ k, (∀ y0 y1 y2 y3 y4 y5, LeO (herbariumlaw13_SpaceFinds.l0 k y0 y1 y2 y3 y4 y5) (herbariumlaw13_SpaceFinds.l0 (k + 1) y0 y1 y2 y3 y4 y5)) ∧ (∀ y0 y1 y2 y3 y4 y5 y6, LeO (herbariumlaw13_SpaceFinds.j1 k y0 y1 y2 y3 y4 y5 y6) (herbariumlaw13_SpaceFinds.j1 (k + 1) y0 y1 y2 y3 y4 y5 y6)) ∧ (∀ y0 y1 y2 y3 y4 y5 y6 y7, LeO (herbariumlaw13_SpaceFinds.l1 k y0 y1 y2 y3 y4 y5 y6 y7) (herbariumlaw13_SpaceFinds.l1 (k + 1) y0 y1 y2 y3 y4 y5 y6 y7)) ∧ (∀ y0 y1 y2 y3 y4 y5 y6 y7 y8, LeO (herbariumlaw13_SpaceFinds.j3 k y0 y1 y2 y3 y4 y5 y6 y7 y8) (herbariumlaw13_SpaceFinds.j3 (k + 1) y0 y1 y2 y3 y4 y5 y6 y7 y8)) ∧ (∀ y0 y1 y2 y3 y4 y5 y6 y7 y8 y9 y10 y11 y12 y13 y14 y15, LeO (herbariumlaw13_SpaceFinds.j4 k y0 y1 y2 y3 y4 y5 y6 y7 y8 y9 y10 y11 y12 y13 y14 y15) (herbariumlaw13_SpaceFinds.j4 (k + 1) y0 y1 y2 y3 y4 y5 y6 y7 y8 y9 y10 y11 y12 y13 y14 y15)) ∧ (∀ y0 y1 y2 y3 y4 y5 y6 y7 y8 y9, LeO (herbariumlaw13_SpaceFinds.j5 k y0 y1 y2 y3 y4 y5 y6 y7 y8 y9) (herbariumlaw13_SpaceFinds.j5 (k + 1) y0 y1 y2 y3 y4 y5 y6 y7 y8 y9)) ∧ (∀ y0 y1 y2 y3 y4 y5 y6 y7 y8 y9, LeO (herbariumlaw13_SpaceFinds.l2 k y0 y1 y2 y3 y4 y5 y6 y7 y8 y9) (herbariumlaw13_SpaceFinds.l2 (k + 1) y0 y1 y2 y3 y4 y5 y6 y7 y8 y9)) ∧ (∀ y0 y1 y2 y3 y4 y5 y6 y7 y8 y9 y10 y11 y12 y13 y14, LeO (herbariumlaw13_SpaceFinds.j7 k y0 y1 y2 y3 y4 y5 y6 y7 y8 y9 y10 y11 y12 y13 y14) (herbariumlaw13_SpaceFinds.j7 (k + 1) y0 y1 y2 y3 y4 y5 y6 y7 y8 y9 y10 y11 y12 y13 y14)) ∧ (∀ y0 y1 y2 y3 y4, LeO (herbariumlaw13_SpaceFinds.l3 k y0 y1 y2 y3 y4) (herbariumlaw13_SpaceFinds.l3 (k + 1) y0 y1 y2 y3 y4)) ∧ (∀ y0 y1 y2 y3 y4 y5, LeO (herbariumlaw13_SpaceFinds.j9 k y0 y1 y2 y3 y4 y5) (herbariumlaw13_SpaceFinds.j9 (k + 1) y0 y1 y2 y3 y4 y5))
  | 0 => ⟨fun _ _ _ _ _ _ r h => by simp [herbariumlaw13_SpaceFinds.l0] at h, fun _ _ _ _ _ _ _ r h => by simp [herbariumlaw13_SpaceFinds.j1] at h, fun _ _ _ _ _ _ _ _ r h => by simp [herbariumlaw13_SpaceFinds.l1] at h, fun _ _ _ _ _ _ _ _ _ r h => by simp [herbariumlaw13_SpaceFinds.j3] at h, fun _ _ _ _ _ _ _ _ _ _ _ _ _ _ _ _ r h => by simp [herbariumlaw13_SpaceFinds.j4] at h, fun _ _ _ _ _ _ _ _ _ _ r h => by simp [herbariumlaw13_SpaceFinds.j5] at h, fun _ _ _ _ _ _ _ _ _ _ r h => by simp [herbariumlaw13_SpaceFinds.l2] at h, fun _ _ _ _ _ _ _ _ _ _ _ _ _ _ _ r h => by simp [herbariumlaw13_SpaceFinds.j7] at h, fun _ _ _ _ _ r h => by simp [herbariumlaw13_SpaceFinds.l3] at h, fun _ _ _ _ _ _ r h => by simp [herbariumlaw13_SpaceFinds.j9] at h⟩
  | k + 1 => by
    obtain ⟨ih0, ih1, ih2, ih3, ih4, ih5, ih6, ih7, ih8, ih9⟩ := herbariumlaw13_SpaceFinds.mono_l k
    refine ⟨?_, ?_, ?_, ?_, ?_, ?_, ?_, ?_, ?_, ?_⟩
    · intro y0 y1 y2 y3 y4 y5
      unfold herbariumlaw13_SpaceFinds.l0
      repeat' first
      | (with_reducible exact ih0 _ _ _ _ _ _)
      | (with_reducible exact ih1 _ _ _ _ _ _ _)
      | (with_reducible exact ih2 _ _ _ _ _ _ _ _)
      | (with_reducible exact ih3 _ _ _ _ _ _ _ _ _)
      | (with_reducible exact ih4 _ _ _ _ _ _ _ _ _ _ _ _ _ _ _ _)
      | (with_reducible exact ih5 _ _ _ _ _ _ _ _ _ _)
      | (with_reducible exact ih6 _ _ _ _ _ _ _ _ _ _)
      | (with_reducible exact ih7 _ _ _ _ _ _ _ _ _ _ _ _ _ _ _)
      | (with_reducible exact ih8 _ _ _ _ _)
      | (with_reducible exact ih9 _ _ _ _ _ _)
      | (with_reducible exact herbariumlaw13_Heavy.mono _ _ _ _ _)
      | (with_reducible exact herbariumlaw13_wakes.mono _)
      | (with_reducible exact herbariumref0_CopyRuns.mono _ _)
      | (with_reducible exact herbariumref0_EqRuns.mono _ _ _)
      | (with_reducible exact herbariumref13_Find.mono _ _ _ _)
      | (with_reducible exact herbariumref13_Free.mono _ _ _)
      | (with_reducible exact herbariumref13_Gaps.mono _ _ _)
      | (with_reducible exact herbariumref13_Places.mono _ _ _)
      | (with_reducible exact herbariumref1_Bits.mono _ _ _)
      | (with_reducible exact space_Check.mono _ _ _)
      | (with_reducible exact space_Find.mono _ _ _ _)
      | (with_reducible exact space_Free.mono _ _ _)
      | (with_reducible exact space_Gaps.mono _ _ _)
      | (with_reducible exact LeO.refl _)
      | (with_reducible exact LeO.none _)
      | (with_reducible refine LeO.ite ?_ ?_)
      | (with_reducible refine LeO.bind ?_ (fun _ => ?_))
      | exact ih0 _ _ _ _ _ _
      | exact ih1 _ _ _ _ _ _ _
      | exact ih2 _ _ _ _ _ _ _ _
      | exact ih3 _ _ _ _ _ _ _ _ _
      | exact ih4 _ _ _ _ _ _ _ _ _ _ _ _ _ _ _ _
      | exact ih5 _ _ _ _ _ _ _ _ _ _
      | exact ih6 _ _ _ _ _ _ _ _ _ _
      | exact ih7 _ _ _ _ _ _ _ _ _ _ _ _ _ _ _
      | exact ih8 _ _ _ _ _
      | exact ih9 _ _ _ _ _ _
      | exact herbariumlaw13_Heavy.mono _ _ _ _ _
      | exact herbariumlaw13_wakes.mono _
      | exact herbariumref0_CopyRuns.mono _ _
      | exact herbariumref0_EqRuns.mono _ _ _
      | exact herbariumref13_Find.mono _ _ _ _
      | exact herbariumref13_Free.mono _ _ _
      | exact herbariumref13_Gaps.mono _ _ _
      | exact herbariumref13_Places.mono _ _ _
      | exact herbariumref1_Bits.mono _ _ _
      | exact space_Check.mono _ _ _
      | exact space_Find.mono _ _ _ _
      | exact space_Free.mono _ _ _
      | exact space_Gaps.mono _ _ _
      | exact LeO.none _
      | refine LeO.ite ?_ ?_
      | refine LeO.bind ?_ (fun _ => ?_)
    · intro y0 y1 y2 y3 y4 y5 y6
      unfold herbariumlaw13_SpaceFinds.j1
      repeat' first
      | (with_reducible exact ih0 _ _ _ _ _ _)
      | (with_reducible exact ih1 _ _ _ _ _ _ _)
      | (with_reducible exact ih2 _ _ _ _ _ _ _ _)
      | (with_reducible exact ih3 _ _ _ _ _ _ _ _ _)
      | (with_reducible exact ih4 _ _ _ _ _ _ _ _ _ _ _ _ _ _ _ _)
      | (with_reducible exact ih5 _ _ _ _ _ _ _ _ _ _)
      | (with_reducible exact ih6 _ _ _ _ _ _ _ _ _ _)
      | (with_reducible exact ih7 _ _ _ _ _ _ _ _ _ _ _ _ _ _ _)
      | (with_reducible exact ih8 _ _ _ _ _)
      | (with_reducible exact ih9 _ _ _ _ _ _)
      | (with_reducible exact herbariumlaw13_Heavy.mono _ _ _ _ _)
      | (with_reducible exact herbariumlaw13_wakes.mono _)
      | (with_reducible exact herbariumref0_CopyRuns.mono _ _)
      | (with_reducible exact herbariumref0_EqRuns.mono _ _ _)
      | (with_reducible exact herbariumref13_Find.mono _ _ _ _)
      | (with_reducible exact herbariumref13_Free.mono _ _ _)
      | (with_reducible exact herbariumref13_Gaps.mono _ _ _)
      | (with_reducible exact herbariumref13_Places.mono _ _ _)
      | (with_reducible exact herbariumref1_Bits.mono _ _ _)
      | (with_reducible exact space_Check.mono _ _ _)
      | (with_reducible exact space_Find.mono _ _ _ _)
      | (with_reducible exact space_Free.mono _ _ _)
      | (with_reducible exact space_Gaps.mono _ _ _)
      | (with_reducible exact LeO.refl _)
      | (with_reducible exact LeO.none _)
      | (with_reducible refine LeO.ite ?_ ?_)
      | (with_reducible refine LeO.bind ?_ (fun _ => ?_))
      | exact ih0 _ _ _ _ _ _
      | exact ih1 _ _ _ _ _ _ _
      | exact ih2 _ _ _ _ _ _ _ _
      | exact ih3 _ _ _ _ _ _ _ _ _
      | exact ih4 _ _ _ _ _ _ _ _ _ _ _ _ _ _ _ _
      | exact ih5 _ _ _ _ _ _ _ _ _ _
      | exact ih6 _ _ _ _ _ _ _ _ _ _
      | exact ih7 _ _ _ _ _ _ _ _ _ _ _ _ _ _ _
      | exact ih8 _ _ _ _ _
      | exact ih9 _ _ _ _ _ _
      | exact herbariumlaw13_Heavy.mono _ _ _ _ _
      | exact herbariumlaw13_wakes.mono _
      | exact herbariumref0_CopyRuns.mono _ _
      | exact herbariumref0_EqRuns.mono _ _ _
      | exact herbariumref13_Find.mono _ _ _ _
      | exact herbariumref13_Free.mono _ _ _
      | exact herbariumref13_Gaps.mono _ _ _
      | exact herbariumref13_Places.mono _ _ _
      | exact herbariumref1_Bits.mono _ _ _
      | exact space_Check.mono _ _ _
      | exact space_Find.mono _ _ _ _
      | exact space_Free.mono _ _ _
      | exact space_Gaps.mono _ _ _
      | exact LeO.none _
      | refine LeO.ite ?_ ?_
      | refine LeO.bind ?_ (fun _ => ?_)
    · intro y0 y1 y2 y3 y4 y5 y6 y7
      unfold herbariumlaw13_SpaceFinds.l1
      repeat' first
      | (with_reducible exact ih0 _ _ _ _ _ _)
      | (with_reducible exact ih1 _ _ _ _ _ _ _)
      | (with_reducible exact ih2 _ _ _ _ _ _ _ _)
      | (with_reducible exact ih3 _ _ _ _ _ _ _ _ _)
      | (with_reducible exact ih4 _ _ _ _ _ _ _ _ _ _ _ _ _ _ _ _)
      | (with_reducible exact ih5 _ _ _ _ _ _ _ _ _ _)
      | (with_reducible exact ih6 _ _ _ _ _ _ _ _ _ _)
      | (with_reducible exact ih7 _ _ _ _ _ _ _ _ _ _ _ _ _ _ _)
      | (with_reducible exact ih8 _ _ _ _ _)
      | (with_reducible exact ih9 _ _ _ _ _ _)
      | (with_reducible exact herbariumlaw13_Heavy.mono _ _ _ _ _)
      | (with_reducible exact herbariumlaw13_wakes.mono _)
      | (with_reducible exact herbariumref0_CopyRuns.mono _ _)
      | (with_reducible exact herbariumref0_EqRuns.mono _ _ _)
      | (with_reducible exact herbariumref13_Find.mono _ _ _ _)
      | (with_reducible exact herbariumref13_Free.mono _ _ _)
      | (with_reducible exact herbariumref13_Gaps.mono _ _ _)
      | (with_reducible exact herbariumref13_Places.mono _ _ _)
      | (with_reducible exact herbariumref1_Bits.mono _ _ _)
      | (with_reducible exact space_Check.mono _ _ _)
      | (with_reducible exact space_Find.mono _ _ _ _)
      | (with_reducible exact space_Free.mono _ _ _)
      | (with_reducible exact space_Gaps.mono _ _ _)
      | (with_reducible exact LeO.refl _)
      | (with_reducible exact LeO.none _)
      | (with_reducible refine LeO.ite ?_ ?_)
      | (with_reducible refine LeO.bind ?_ (fun _ => ?_))
      | exact ih0 _ _ _ _ _ _
      | exact ih1 _ _ _ _ _ _ _
      | exact ih2 _ _ _ _ _ _ _ _
      | exact ih3 _ _ _ _ _ _ _ _ _
      | exact ih4 _ _ _ _ _ _ _ _ _ _ _ _ _ _ _ _
      | exact ih5 _ _ _ _ _ _ _ _ _ _
      | exact ih6 _ _ _ _ _ _ _ _ _ _
      | exact ih7 _ _ _ _ _ _ _ _ _ _ _ _ _ _ _
      | exact ih8 _ _ _ _ _
      | exact ih9 _ _ _ _ _ _
      | exact herbariumlaw13_Heavy.mono _ _ _ _ _
      | exact herbariumlaw13_wakes.mono _
      | exact herbariumref0_CopyRuns.mono _ _
      | exact herbariumref0_EqRuns.mono _ _ _
      | exact herbariumref13_Find.mono _ _ _ _
      | exact herbariumref13_Free.mono _ _ _
      | exact herbariumref13_Gaps.mono _ _ _
      | exact herbariumref13_Places.mono _ _ _
      | exact herbariumref1_Bits.mono _ _ _
      | exact space_Check.mono _ _ _
      | exact space_Find.mono _ _ _ _
      | exact space_Free.mono _ _ _
      | exact space_Gaps.mono _ _ _
      | exact LeO.none _
      | refine LeO.ite ?_ ?_
      | refine LeO.bind ?_ (fun _ => ?_)
    · intro y0 y1 y2 y3 y4 y5 y6 y7 y8
      unfold herbariumlaw13_SpaceFinds.j3
      repeat' first
      | (with_reducible exact ih0 _ _ _ _ _ _)
      | (with_reducible exact ih1 _ _ _ _ _ _ _)
      | (with_reducible exact ih2 _ _ _ _ _ _ _ _)
      | (with_reducible exact ih3 _ _ _ _ _ _ _ _ _)
      | (with_reducible exact ih4 _ _ _ _ _ _ _ _ _ _ _ _ _ _ _ _)
      | (with_reducible exact ih5 _ _ _ _ _ _ _ _ _ _)
      | (with_reducible exact ih6 _ _ _ _ _ _ _ _ _ _)
      | (with_reducible exact ih7 _ _ _ _ _ _ _ _ _ _ _ _ _ _ _)
      | (with_reducible exact ih8 _ _ _ _ _)
      | (with_reducible exact ih9 _ _ _ _ _ _)
      | (with_reducible exact herbariumlaw13_Heavy.mono _ _ _ _ _)
      | (with_reducible exact herbariumlaw13_wakes.mono _)
      | (with_reducible exact herbariumref0_CopyRuns.mono _ _)
      | (with_reducible exact herbariumref0_EqRuns.mono _ _ _)
      | (with_reducible exact herbariumref13_Find.mono _ _ _ _)
      | (with_reducible exact herbariumref13_Free.mono _ _ _)
      | (with_reducible exact herbariumref13_Gaps.mono _ _ _)
      | (with_reducible exact herbariumref13_Places.mono _ _ _)
      | (with_reducible exact herbariumref1_Bits.mono _ _ _)
      | (with_reducible exact space_Check.mono _ _ _)
      | (with_reducible exact space_Find.mono _ _ _ _)
      | (with_reducible exact space_Free.mono _ _ _)
      | (with_reducible exact space_Gaps.mono _ _ _)
      | (with_reducible exact LeO.refl _)
      | (with_reducible exact LeO.none _)
      | (with_reducible refine LeO.ite ?_ ?_)
      | (with_reducible refine LeO.bind ?_ (fun _ => ?_))
      | exact ih0 _ _ _ _ _ _
      | exact ih1 _ _ _ _ _ _ _
      | exact ih2 _ _ _ _ _ _ _ _
      | exact ih3 _ _ _ _ _ _ _ _ _
      | exact ih4 _ _ _ _ _ _ _ _ _ _ _ _ _ _ _ _
      | exact ih5 _ _ _ _ _ _ _ _ _ _
      | exact ih6 _ _ _ _ _ _ _ _ _ _
      | exact ih7 _ _ _ _ _ _ _ _ _ _ _ _ _ _ _
      | exact ih8 _ _ _ _ _
      | exact ih9 _ _ _ _ _ _
      | exact herbariumlaw13_Heavy.mono _ _ _ _ _
      | exact herbariumlaw13_wakes.mono _
      | exact herbariumref0_CopyRuns.mono _ _
      | exact herbariumref0_EqRuns.mono _ _ _
      | exact herbariumref13_Find.mono _ _ _ _
      | exact herbariumref13_Free.mono _ _ _
      | exact herbariumref13_Gaps.mono _ _ _
      | exact herbariumref13_Places.mono _ _ _
      | exact herbariumref1_Bits.mono _ _ _
      | exact space_Check.mono _ _ _
      | exact space_Find.mono _ _ _ _
      | exact space_Free.mono _ _ _
      | exact space_Gaps.mono _ _ _
      | exact LeO.none _
      | refine LeO.ite ?_ ?_
      | refine LeO.bind ?_ (fun _ => ?_)
    · intro y0 y1 y2 y3 y4 y5 y6 y7 y8 y9 y10 y11 y12 y13 y14 y15
      unfold herbariumlaw13_SpaceFinds.j4
      repeat' first
      | (with_reducible exact ih0 _ _ _ _ _ _)
      | (with_reducible exact ih1 _ _ _ _ _ _ _)
      | (with_reducible exact ih2 _ _ _ _ _ _ _ _)
      | (with_reducible exact ih3 _ _ _ _ _ _ _ _ _)
      | (with_reducible exact ih4 _ _ _ _ _ _ _ _ _ _ _ _ _ _ _ _)
      | (with_reducible exact ih5 _ _ _ _ _ _ _ _ _ _)
      | (with_reducible exact ih6 _ _ _ _ _ _ _ _ _ _)
      | (with_reducible exact ih7 _ _ _ _ _ _ _ _ _ _ _ _ _ _ _)
      | (with_reducible exact ih8 _ _ _ _ _)
      | (with_reducible exact ih9 _ _ _ _ _ _)
      | (with_reducible exact herbariumlaw13_Heavy.mono _ _ _ _ _)
      | (with_reducible exact herbariumlaw13_wakes.mono _)
      | (with_reducible exact herbariumref0_CopyRuns.mono _ _)
      | (with_reducible exact herbariumref0_EqRuns.mono _ _ _)
      | (with_reducible exact herbariumref13_Find.mono _ _ _ _)
      | (with_reducible exact herbariumref13_Free.mono _ _ _)
      | (with_reducible exact herbariumref13_Gaps.mono _ _ _)
      | (with_reducible exact herbariumref13_Places.mono _ _ _)
      | (with_reducible exact herbariumref1_Bits.mono _ _ _)
      | (with_reducible exact space_Check.mono _ _ _)
      | (with_reducible exact space_Find.mono _ _ _ _)
      | (with_reducible exact space_Free.mono _ _ _)
      | (with_reducible exact space_Gaps.mono _ _ _)
      | (with_reducible exact LeO.refl _)
      | (with_reducible exact LeO.none _)
      | (with_reducible refine LeO.ite ?_ ?_)
      | (with_reducible refine LeO.bind ?_ (fun _ => ?_))
      | exact ih0 _ _ _ _ _ _
      | exact ih1 _ _ _ _ _ _ _
      | exact ih2 _ _ _ _ _ _ _ _
      | exact ih3 _ _ _ _ _ _ _ _ _
      | exact ih4 _ _ _ _ _ _ _ _ _ _ _ _ _ _ _ _
      | exact ih5 _ _ _ _ _ _ _ _ _ _
      | exact ih6 _ _ _ _ _ _ _ _ _ _
      | exact ih7 _ _ _ _ _ _ _ _ _ _ _ _ _ _ _
      | exact ih8 _ _ _ _ _
      | exact ih9 _ _ _ _ _ _
      | exact herbariumlaw13_Heavy.mono _ _ _ _ _
      | exact herbariumlaw13_wakes.mono _
      | exact herbariumref0_CopyRuns.mono _ _
      | exact herbariumref0_EqRuns.mono _ _ _
      | exact herbariumref13_Find.mono _ _ _ _
      | exact herbariumref13_Free.mono _ _ _
      | exact herbariumref13_Gaps.mono _ _ _
      | exact herbariumref13_Places.mono _ _ _
      | exact herbariumref1_Bits.mono _ _ _
      | exact space_Check.mono _ _ _
      | exact space_Find.mono _ _ _ _
      | exact space_Free.mono _ _ _
      | exact space_Gaps.mono _ _ _
      | exact LeO.none _
      | refine LeO.ite ?_ ?_
      | refine LeO.bind ?_ (fun _ => ?_)
    · intro y0 y1 y2 y3 y4 y5 y6 y7 y8 y9
      unfold herbariumlaw13_SpaceFinds.j5
      repeat' first
      | (with_reducible exact ih0 _ _ _ _ _ _)
      | (with_reducible exact ih1 _ _ _ _ _ _ _)
      | (with_reducible exact ih2 _ _ _ _ _ _ _ _)
      | (with_reducible exact ih3 _ _ _ _ _ _ _ _ _)
      | (with_reducible exact ih4 _ _ _ _ _ _ _ _ _ _ _ _ _ _ _ _)
      | (with_reducible exact ih5 _ _ _ _ _ _ _ _ _ _)
      | (with_reducible exact ih6 _ _ _ _ _ _ _ _ _ _)
      | (with_reducible exact ih7 _ _ _ _ _ _ _ _ _ _ _ _ _ _ _)
      | (with_reducible exact ih8 _ _ _ _ _)
      | (with_reducible exact ih9 _ _ _ _ _ _)
      | (with_reducible exact herbariumlaw13_Heavy.mono _ _ _ _ _)
      | (with_reducible exact herbariumlaw13_wakes.mono _)
      | (with_reducible exact herbariumref0_CopyRuns.mono _ _)
      | (with_reducible exact herbariumref0_EqRuns.mono _ _ _)
      | (with_reducible exact herbariumref13_Find.mono _ _ _ _)
      | (with_reducible exact herbariumref13_Free.mono _ _ _)
      | (with_reducible exact herbariumref13_Gaps.mono _ _ _)
      | (with_reducible exact herbariumref13_Places.mono _ _ _)
      | (with_reducible exact herbariumref1_Bits.mono _ _ _)
      | (with_reducible exact space_Check.mono _ _ _)
      | (with_reducible exact space_Find.mono _ _ _ _)
      | (with_reducible exact space_Free.mono _ _ _)
      | (with_reducible exact space_Gaps.mono _ _ _)
      | (with_reducible exact LeO.refl _)
      | (with_reducible exact LeO.none _)
      | (with_reducible refine LeO.ite ?_ ?_)
      | (with_reducible refine LeO.bind ?_ (fun _ => ?_))
      | exact ih0 _ _ _ _ _ _
      | exact ih1 _ _ _ _ _ _ _
      | exact ih2 _ _ _ _ _ _ _ _
      | exact ih3 _ _ _ _ _ _ _ _ _
      | exact ih4 _ _ _ _ _ _ _ _ _ _ _ _ _ _ _ _
      | exact ih5 _ _ _ _ _ _ _ _ _ _
      | exact ih6 _ _ _ _ _ _ _ _ _ _
      | exact ih7 _ _ _ _ _ _ _ _ _ _ _ _ _ _ _
      | exact ih8 _ _ _ _ _
      | exact ih9 _ _ _ _ _ _
      | exact herbariumlaw13_Heavy.mono _ _ _ _ _
      | exact herbariumlaw13_wakes.mono _
      | exact herbariumref0_CopyRuns.mono _ _
      | exact herbariumref0_EqRuns.mono _ _ _
      | exact herbariumref13_Find.mono _ _ _ _
      | exact herbariumref13_Free.mono _ _ _
      | exact herbariumref13_Gaps.mono _ _ _
      | exact herbariumref13_Places.mono _ _ _
      | exact herbariumref1_Bits.mono _ _ _
      | exact space_Check.mono _ _ _
      | exact space_Find.mono _ _ _ _
      | exact space_Free.mono _ _ _
      | exact space_Gaps.mono _ _ _
      | exact LeO.none _
      | refine LeO.ite ?_ ?_
      | refine LeO.bind ?_ (fun _ => ?_)
    · intro y0 y1 y2 y3 y4 y5 y6 y7 y8 y9
      unfold herbariumlaw13_SpaceFinds.l2
      repeat' first
      | (with_reducible exact ih0 _ _ _ _ _ _)
      | (with_reducible exact ih1 _ _ _ _ _ _ _)
      | (with_reducible exact ih2 _ _ _ _ _ _ _ _)
      | (with_reducible exact ih3 _ _ _ _ _ _ _ _ _)
      | (with_reducible exact ih4 _ _ _ _ _ _ _ _ _ _ _ _ _ _ _ _)
      | (with_reducible exact ih5 _ _ _ _ _ _ _ _ _ _)
      | (with_reducible exact ih6 _ _ _ _ _ _ _ _ _ _)
      | (with_reducible exact ih7 _ _ _ _ _ _ _ _ _ _ _ _ _ _ _)
      | (with_reducible exact ih8 _ _ _ _ _)
      | (with_reducible exact ih9 _ _ _ _ _ _)
      | (with_reducible exact herbariumlaw13_Heavy.mono _ _ _ _ _)
      | (with_reducible exact herbariumlaw13_wakes.mono _)
      | (with_reducible exact herbariumref0_CopyRuns.mono _ _)
      | (with_reducible exact herbariumref0_EqRuns.mono _ _ _)
      | (with_reducible exact herbariumref13_Find.mono _ _ _ _)
      | (with_reducible exact herbariumref13_Free.mono _ _ _)
      | (with_reducible exact herbariumref13_Gaps.mono _ _ _)
      | (with_reducible exact herbariumref13_Places.mono _ _ _)
      | (with_reducible exact herbariumref1_Bits.mono _ _ _)
      | (with_reducible exact space_Check.mono _ _ _)
      | (with_reducible exact space_Find.mono _ _ _ _)
      | (with_reducible exact space_Free.mono _ _ _)
      | (with_reducible exact space_Gaps.mono _ _ _)
      | (with_reducible exact LeO.refl _)
      | (with_reducible exact LeO.none _)
      | (with_reducible refine LeO.ite ?_ ?_)
      | (with_reducible refine LeO.bind ?_ (fun _ => ?_))
      | exact ih0 _ _ _ _ _ _
      | exact ih1 _ _ _ _ _ _ _
      | exact ih2 _ _ _ _ _ _ _ _
      | exact ih3 _ _ _ _ _ _ _ _ _
      | exact ih4 _ _ _ _ _ _ _ _ _ _ _ _ _ _ _ _
      | exact ih5 _ _ _ _ _ _ _ _ _ _
      | exact ih6 _ _ _ _ _ _ _ _ _ _
      | exact ih7 _ _ _ _ _ _ _ _ _ _ _ _ _ _ _
      | exact ih8 _ _ _ _ _
      | exact ih9 _ _ _ _ _ _
      | exact herbariumlaw13_Heavy.mono _ _ _ _ _
      | exact herbariumlaw13_wakes.mono _
      | exact herbariumref0_CopyRuns.mono _ _
      | exact herbariumref0_EqRuns.mono _ _ _
      | exact herbariumref13_Find.mono _ _ _ _
      | exact herbariumref13_Free.mono _ _ _
      | exact herbariumref13_Gaps.mono _ _ _
      | exact herbariumref13_Places.mono _ _ _
      | exact herbariumref1_Bits.mono _ _ _
      | exact space_Check.mono _ _ _
      | exact space_Find.mono _ _ _ _
      | exact space_Free.mono _ _ _
      | exact space_Gaps.mono _ _ _
      | exact LeO.none _
      | refine LeO.ite ?_ ?_
      | refine LeO.bind ?_ (fun _ => ?_)
    · intro y0 y1 y2 y3 y4 y5 y6 y7 y8 y9 y10 y11 y12 y13 y14
      unfold herbariumlaw13_SpaceFinds.j7
      repeat' first
      | (with_reducible exact ih0 _ _ _ _ _ _)
      | (with_reducible exact ih1 _ _ _ _ _ _ _)
      | (with_reducible exact ih2 _ _ _ _ _ _ _ _)
      | (with_reducible exact ih3 _ _ _ _ _ _ _ _ _)
      | (with_reducible exact ih4 _ _ _ _ _ _ _ _ _ _ _ _ _ _ _ _)
      | (with_reducible exact ih5 _ _ _ _ _ _ _ _ _ _)
      | (with_reducible exact ih6 _ _ _ _ _ _ _ _ _ _)
      | (with_reducible exact ih7 _ _ _ _ _ _ _ _ _ _ _ _ _ _ _)
      | (with_reducible exact ih8 _ _ _ _ _)
      | (with_reducible exact ih9 _ _ _ _ _ _)
      | (with_reducible exact herbariumlaw13_Heavy.mono _ _ _ _ _)
      | (with_reducible exact herbariumlaw13_wakes.mono _)
      | (with_reducible exact herbariumref0_CopyRuns.mono _ _)
      | (with_reducible exact herbariumref0_EqRuns.mono _ _ _)
      | (with_reducible exact herbariumref13_Find.mono _ _ _ _)
      | (with_reducible exact herbariumref13_Free.mono _ _ _)
      | (with_reducible exact herbariumref13_Gaps.mono _ _ _)
      | (with_reducible exact herbariumref13_Places.mono _ _ _)
      | (with_reducible exact herbariumref1_Bits.mono _ _ _)
      | (with_reducible exact space_Check.mono _ _ _)
      | (with_reducible exact space_Find.mono _ _ _ _)
      | (with_reducible exact space_Free.mono _ _ _)
      | (with_reducible exact space_Gaps.mono _ _ _)
      | (with_reducible exact LeO.refl _)
      | (with_reducible exact LeO.none _)
      | (with_reducible refine LeO.ite ?_ ?_)
      | (with_reducible refine LeO.bind ?_ (fun _ => ?_))
      | exact ih0 _ _ _ _ _ _
      | exact ih1 _ _ _ _ _ _ _
      | exact ih2 _ _ _ _ _ _ _ _
      | exact ih3 _ _ _ _ _ _ _ _ _
      | exact ih4 _ _ _ _ _ _ _ _ _ _ _ _ _ _ _ _
      | exact ih5 _ _ _ _ _ _ _ _ _ _
      | exact ih6 _ _ _ _ _ _ _ _ _ _
      | exact ih7 _ _ _ _ _ _ _ _ _ _ _ _ _ _ _
      | exact ih8 _ _ _ _ _
      | exact ih9 _ _ _ _ _ _
      | exact herbariumlaw13_Heavy.mono _ _ _ _ _
      | exact herbariumlaw13_wakes.mono _
      | exact herbariumref0_CopyRuns.mono _ _
      | exact herbariumref0_EqRuns.mono _ _ _
      | exact herbariumref13_Find.mono _ _ _ _
      | exact herbariumref13_Free.mono _ _ _
      | exact herbariumref13_Gaps.mono _ _ _
      | exact herbariumref13_Places.mono _ _ _
      | exact herbariumref1_Bits.mono _ _ _
      | exact space_Check.mono _ _ _
      | exact space_Find.mono _ _ _ _
      | exact space_Free.mono _ _ _
      | exact space_Gaps.mono _ _ _
      | exact LeO.none _
      | refine LeO.ite ?_ ?_
      | refine LeO.bind ?_ (fun _ => ?_)
    · intro y0 y1 y2 y3 y4
      unfold herbariumlaw13_SpaceFinds.l3
      repeat' first
      | (with_reducible exact ih0 _ _ _ _ _ _)
      | (with_reducible exact ih1 _ _ _ _ _ _ _)
      | (with_reducible exact ih2 _ _ _ _ _ _ _ _)
      | (with_reducible exact ih3 _ _ _ _ _ _ _ _ _)
      | (with_reducible exact ih4 _ _ _ _ _ _ _ _ _ _ _ _ _ _ _ _)
      | (with_reducible exact ih5 _ _ _ _ _ _ _ _ _ _)
      | (with_reducible exact ih6 _ _ _ _ _ _ _ _ _ _)
      | (with_reducible exact ih7 _ _ _ _ _ _ _ _ _ _ _ _ _ _ _)
      | (with_reducible exact ih8 _ _ _ _ _)
      | (with_reducible exact ih9 _ _ _ _ _ _)
      | (with_reducible exact herbariumlaw13_Heavy.mono _ _ _ _ _)
      | (with_reducible exact herbariumlaw13_wakes.mono _)
      | (with_reducible exact herbariumref0_CopyRuns.mono _ _)
      | (with_reducible exact herbariumref0_EqRuns.mono _ _ _)
      | (with_reducible exact herbariumref13_Find.mono _ _ _ _)
      | (with_reducible exact herbariumref13_Free.mono _ _ _)
      | (with_reducible exact herbariumref13_Gaps.mono _ _ _)
      | (with_reducible exact herbariumref13_Places.mono _ _ _)
      | (with_reducible exact herbariumref1_Bits.mono _ _ _)
      | (with_reducible exact space_Check.mono _ _ _)
      | (with_reducible exact space_Find.mono _ _ _ _)
      | (with_reducible exact space_Free.mono _ _ _)
      | (with_reducible exact space_Gaps.mono _ _ _)
      | (with_reducible exact LeO.refl _)
      | (with_reducible exact LeO.none _)
      | (with_reducible refine LeO.ite ?_ ?_)
      | (with_reducible refine LeO.bind ?_ (fun _ => ?_))
      | exact ih0 _ _ _ _ _ _
      | exact ih1 _ _ _ _ _ _ _
      | exact ih2 _ _ _ _ _ _ _ _
      | exact ih3 _ _ _ _ _ _ _ _ _
      | exact ih4 _ _ _ _ _ _ _ _ _ _ _ _ _ _ _ _
      | exact ih5 _ _ _ _ _ _ _ _ _ _
      | exact ih6 _ _ _ _ _ _ _ _ _ _
      | exact ih7 _ _ _ _ _ _ _ _ _ _ _ _ _ _ _
      | exact ih8 _ _ _ _ _
      | exact ih9 _ _ _ _ _ _
      | exact herbariumlaw13_Heavy.mono _ _ _ _ _
      | exact herbariumlaw13_wakes.mono _
      | exact herbariumref0_CopyRuns.mono _ _
      | exact herbariumref0_EqRuns.mono _ _ _
      | exact herbariumref13_Find.mono _ _ _ _
      | exact herbariumref13_Free.mono _ _ _
      | exact herbariumref13_Gaps.mono _ _ _
      | exact herbariumref13_Places.mono _ _ _
      | exact herbariumref1_Bits.mono _ _ _
      | exact space_Check.mono _ _ _
      | exact space_Find.mono _ _ _ _
      | exact space_Free.mono _ _ _
      | exact space_Gaps.mono _ _ _
      | exact LeO.none _
      | refine LeO.ite ?_ ?_
      | refine LeO.bind ?_ (fun _ => ?_)
    · intro y0 y1 y2 y3 y4 y5
      unfold herbariumlaw13_SpaceFinds.j9
      repeat' first
      | (with_reducible exact ih0 _ _ _ _ _ _)
      | (with_reducible exact ih1 _ _ _ _ _ _ _)
      | (with_reducible exact ih2 _ _ _ _ _ _ _ _)
      | (with_reducible exact ih3 _ _ _ _ _ _ _ _ _)
      | (with_reducible exact ih4 _ _ _ _ _ _ _ _ _ _ _ _ _ _ _ _)
      | (with_reducible exact ih5 _ _ _ _ _ _ _ _ _ _)
      | (with_reducible exact ih6 _ _ _ _ _ _ _ _ _ _)
      | (with_reducible exact ih7 _ _ _ _ _ _ _ _ _ _ _ _ _ _ _)
      | (with_reducible exact ih8 _ _ _ _ _)
      | (with_reducible exact ih9 _ _ _ _ _ _)
      | (with_reducible exact herbariumlaw13_Heavy.mono _ _ _ _ _)
      | (with_reducible exact herbariumlaw13_wakes.mono _)
      | (with_reducible exact herbariumref0_CopyRuns.mono _ _)
      | (with_reducible exact herbariumref0_EqRuns.mono _ _ _)
      | (with_reducible exact herbariumref13_Find.mono _ _ _ _)
      | (with_reducible exact herbariumref13_Free.mono _ _ _)
      | (with_reducible exact herbariumref13_Gaps.mono _ _ _)
      | (with_reducible exact herbariumref13_Places.mono _ _ _)
      | (with_reducible exact herbariumref1_Bits.mono _ _ _)
      | (with_reducible exact space_Check.mono _ _ _)
      | (with_reducible exact space_Find.mono _ _ _ _)
      | (with_reducible exact space_Free.mono _ _ _)
      | (with_reducible exact space_Gaps.mono _ _ _)
      | (with_reducible exact LeO.refl _)
      | (with_reducible exact LeO.none _)
      | (with_reducible refine LeO.ite ?_ ?_)
      | (with_reducible refine LeO.bind ?_ (fun _ => ?_))
      | exact ih0 _ _ _ _ _ _
      | exact ih1 _ _ _ _ _ _ _
      | exact ih2 _ _ _ _ _ _ _ _
      | exact ih3 _ _ _ _ _ _ _ _ _
      | exact ih4 _ _ _ _ _ _ _ _ _ _ _ _ _ _ _ _
      | exact ih5 _ _ _ _ _ _ _ _ _ _
      | exact ih6 _ _ _ _ _ _ _ _ _ _
      | exact ih7 _ _ _ _ _ _ _ _ _ _ _ _ _ _ _
      | exact ih8 _ _ _ _ _
      | exact ih9 _ _ _ _ _ _
      | exact herbariumlaw13_Heavy.mono _ _ _ _ _
      | exact herbariumlaw13_wakes.mono _
      | exact herbariumref0_CopyRuns.mono _ _
      | exact herbariumref0_EqRuns.mono _ _ _
      | exact herbariumref13_Find.mono _ _ _ _
      | exact herbariumref13_Free.mono _ _ _
      | exact herbariumref13_Gaps.mono _ _ _
      | exact herbariumref13_Places.mono _ _ _
      | exact herbariumref1_Bits.mono _ _ _
      | exact space_Check.mono _ _ _
      | exact space_Find.mono _ _ _ _
      | exact space_Free.mono _ _ _
      | exact space_Gaps.mono _ _ _
      | exact LeO.none _
      | refine LeO.ite ?_ ?_
      | refine LeO.bind ?_ (fun _ => ?_)
theorem herbariumlaw13_SpaceFinds.mono : ∀ a0 a1 a2 a3 k, LeO (herbariumlaw13_SpaceFinds.f k a0 a1 a2 a3) (herbariumlaw13_SpaceFinds.f (k + 1) a0 a1 a2 a3) := by
  intro a0 a1 a2 a3 k
  obtain ⟨ih0, ih1, ih2, ih3, ih4, ih5, ih6, ih7, ih8, ih9⟩ := herbariumlaw13_SpaceFinds.mono_l k
  unfold herbariumlaw13_SpaceFinds.f
  repeat' first
      | (with_reducible exact ih0 _ _ _ _ _ _)
      | (with_reducible exact ih1 _ _ _ _ _ _ _)
      | (with_reducible exact ih2 _ _ _ _ _ _ _ _)
      | (with_reducible exact ih3 _ _ _ _ _ _ _ _ _)
      | (with_reducible exact ih4 _ _ _ _ _ _ _ _ _ _ _ _ _ _ _ _)
      | (with_reducible exact ih5 _ _ _ _ _ _ _ _ _ _)
      | (with_reducible exact ih6 _ _ _ _ _ _ _ _ _ _)
      | (with_reducible exact ih7 _ _ _ _ _ _ _ _ _ _ _ _ _ _ _)
      | (with_reducible exact ih8 _ _ _ _ _)
      | (with_reducible exact ih9 _ _ _ _ _ _)
      | (with_reducible exact herbariumlaw13_Heavy.mono _ _ _ _ _)
      | (with_reducible exact herbariumlaw13_wakes.mono _)
      | (with_reducible exact herbariumref0_CopyRuns.mono _ _)
      | (with_reducible exact herbariumref0_EqRuns.mono _ _ _)
      | (with_reducible exact herbariumref13_Find.mono _ _ _ _)
      | (with_reducible exact herbariumref13_Free.mono _ _ _)
      | (with_reducible exact herbariumref13_Gaps.mono _ _ _)
      | (with_reducible exact herbariumref13_Places.mono _ _ _)
      | (with_reducible exact herbariumref1_Bits.mono _ _ _)
      | (with_reducible exact space_Check.mono _ _ _)
      | (with_reducible exact space_Find.mono _ _ _ _)
      | (with_reducible exact space_Free.mono _ _ _)
      | (with_reducible exact space_Gaps.mono _ _ _)
      | (with_reducible exact LeO.refl _)
      | (with_reducible exact LeO.none _)
      | (with_reducible refine LeO.ite ?_ ?_)
      | (with_reducible refine LeO.bind ?_ (fun _ => ?_))
      | exact ih0 _ _ _ _ _ _
      | exact ih1 _ _ _ _ _ _ _
      | exact ih2 _ _ _ _ _ _ _ _
      | exact ih3 _ _ _ _ _ _ _ _ _
      | exact ih4 _ _ _ _ _ _ _ _ _ _ _ _ _ _ _ _
      | exact ih5 _ _ _ _ _ _ _ _ _ _
      | exact ih6 _ _ _ _ _ _ _ _ _ _
      | exact ih7 _ _ _ _ _ _ _ _ _ _ _ _ _ _ _
      | exact ih8 _ _ _ _ _
      | exact ih9 _ _ _ _ _ _
      | exact herbariumlaw13_Heavy.mono _ _ _ _ _
      | exact herbariumlaw13_wakes.mono _
      | exact herbariumref0_CopyRuns.mono _ _
      | exact herbariumref0_EqRuns.mono _ _ _
      | exact herbariumref13_Find.mono _ _ _ _
      | exact herbariumref13_Free.mono _ _ _
      | exact herbariumref13_Gaps.mono _ _ _
      | exact herbariumref13_Places.mono _ _ _
      | exact herbariumref1_Bits.mono _ _ _
      | exact space_Check.mono _ _ _
      | exact space_Find.mono _ _ _ _
      | exact space_Free.mono _ _ _
      | exact space_Gaps.mono _ _ _
      | exact LeO.none _
      | refine LeO.ite ?_ ?_
      | refine LeO.bind ?_ (fun _ => ?_)
def herbariumlaw13_SpaceFinds.T17 : Bool × List (List Nat × List Nat) := (true, [([], []), ([], []), ([], []), ([1, 2], [1, 2]), ([3], [3]), ([0, 4], [0, 4]), ([], []), ([], []), ([], []), ([7, 8], [7, 8]), ([9], [9]), ([6, 10, 5], [6, 10]), ([11], []), ([5, 12, 0, 1, 2, 3, 4, 5, 12], [5]), ([11, 13, 0, 1, 2, 3, 4, 5, 6, 7, 8, 9, 10, 11, 12, 13], [11])])
def herbariumlaw13_SpaceFinds.B17 : List Nat := [0, 0, 0, 6, 14, 31, 0, 0, 0, 384, 896, 2047, 4095, 8191, 16383]
theorem herbariumlaw13_SpaceFinds.tab17 : rtab .any (opsOf Try.f9 17) = herbariumlaw13_SpaceFinds.T17 := by kernel_rfl
theorem herbariumlaw13_SpaceFinds.bits17 : waitsOk herbariumlaw13_SpaceFinds.T17.2 herbariumlaw13_SpaceFinds.B17 = true := by kernel_rfl
set_option maxHeartbeats 8000000 in
set_option maxRecDepth 100000 in
theorem herbariumlaw13_SpaceFinds.calls (k : Nat) (A0_0 : Option Addr) (c0_0 : Nat) (l0_0 : List (List (S41))) (A0_1 : Option Addr) (c0_1 : Nat) (l0_1 : List Int) (A0_2 : Option Addr) (c0_2 : Nat) (l0_2 : List (S27)) (A0_3 : Option Addr) (c0_3 : Nat) (l0_3 : List Int) (w : World) (hr0_0 : Kd.C (Kd.slice 41 k41) w A0_0 l0_0.length l0_0) (hc0_0 : l0_0.length ≤ c0_0) (hr0_1 : Kd.C (Kd.int .i64) w A0_1 l0_1.length l0_1) (hc0_1 : l0_1.length ≤ c0_1) (hr0_2 : Kd.C k27 w A0_2 l0_2.length l0_2) (hc0_2 : l0_2.length ≤ c0_2) (hr0_3 : Kd.C (Kd.int .i64) w A0_3 l0_3.length l0_3) (hc0_3 : l0_3.length ≤ c0_3) (h : herbariumlaw13_SpaceFinds.f k l0_0 l0_1 l0_2 l0_3 = some true) :
    Calls Try.prog 9 #[.agg #[.slice A0_0 l0_0.length c0_0, .slice A0_1 l0_1.length c0_1, .slice A0_2 l0_2.length c0_2, .slice A0_3 l0_3.length c0_3]] w fun e w' => e = .returned (.bool true) ∧ Below w.heap.size w w' := by
  have hu38 := Try.underlying38
  have hu27 := Try.underlying27
  have HR0_0 := Aside0.mk hr0_0
  have HC0_0 := Aside0.mk hc0_0
  clear hr0_0 hc0_0
  have HR0_1 := Aside0.mk hr0_1
  have HC0_1 := Aside0.mk hc0_1
  clear hr0_1 hc0_1
  have HR0_2 := Aside0.mk hr0_2
  have HC0_2 := Aside0.mk hc0_2
  clear hr0_2 hc0_2
  have HR0_3 := Aside0.mk hr0_3
  have HC0_3 := Aside0.mk hc0_3
  clear hr0_3 hc0_3
  have HB := Aside0.mk (Below.refl w.heap.size w)
  have H : ((herbariumlaw13_Heavy.f k l0_0 l0_1 l0_2 l0_3).bind fun t315 => (if t315 = true then (some true) else ((some (([20, 1, 0, 100, 101] : List Int) : List Int)).bind fun y316 => (if y316.length + l0_1.length < 17592186044416 then (herbariumlaw13_SpaceFinds.l0 k (y316 ++ l0_1) 0 l0_0 l0_1 l0_2 l0_3) else (none))))) = some true := h
  clear h
  replace H := Option.bind_eq_some_iff.mp H
  obtain ⟨t315, A20, H⟩ := H
  replace H : (if t315 = true then (some true) else ((some (([20, 1, 0, 100, 101] : List Int) : List Int)).bind fun y316 => (if y316.length + l0_1.length < 17592186044416 then (herbariumlaw13_SpaceFinds.l0 k (y316 ++ l0_1) 0 l0_0 l0_1 l0_2 l0_3) else (none)))) = some true := H
  have A2 := Aside0.mk A20
  clear A20
  by_cases c3 : t315 = true
  · subst c3
    have H1 : (some true) = some true := rfl
    clear H
    have H := H1
    clear H1
    clear H
    go_enter Try.func9, Try.ntmps9
    go_wp2_with (first | ((with_reducible refine gate_dst (N := 1) rfl ?_); refine box_event ?hg (N := 1) ?hd (cs := #[.slice A0_0 l0_0.length c0_0, .slice A0_1 l0_1.length c0_1, .slice A0_2 l0_2.length c0_2, .slice A0_3 l0_3.length c0_3]) (t := 38) ?hr ?_; (case hd => rfl); (case hg => rfl); (case hr => first | (go_simp; done) | (go_simp; rfl)); intro gb314 hg w4 hbox hb; have n0_ := Aside0.mk (below_step (by repeat (first | (with_reducible first | exact HB.out | apply below_alloc | apply pw_below_drewN | apply below_drew1) | exact HB.out)) hb); have n1_ := Aside0.mk (hbox); have n2_ := Aside0.mk ((by rw [hg]; exact (below_size (by repeat (first | (with_reducible first | exact HB.out | apply below_alloc | apply pw_below_drewN | apply below_drew1) | exact HB.out))) : w.heap.size ≤ gb314)); have n3_ := Aside0.mk ((by rw [hg]; exact (below_size (by repeat (first | (with_reducible first | exact HB.out | apply below_alloc | apply pw_below_drewN | apply below_drew1) | exact HB.out))) : w.heap.size ≤ gb314)); clear HB; have HB := n0_; have BK314 := n1_; have GW314 := n2_; have GE314 := n3_; clear n0_ n1_ n2_ n3_; clear hb hbox hg; have hcz5_0 : w4.cell? ⟨gb314, 0, none⟩ = some (.slice A0_0 l0_0.length c0_0) := (blk_cell BK314.out 0).trans rfl; have hcz5_1 : w4.cell? ⟨gb314, 1, none⟩ = some (.slice A0_1 l0_1.length c0_1) := (blk_cell BK314.out 1).trans rfl; have hcz5_2 : w4.cell? ⟨gb314, 2, none⟩ = some (.slice A0_2 l0_2.length c0_2) := (blk_cell BK314.out 2).trans rfl; have hcz5_3 : w4.cell? ⟨gb314, 3, none⟩ = some (.slice A0_3 l0_3.length c0_3) := (blk_cell BK314.out 3).trans rfl; have hfz5_0 := blk_frozen BK314.out 0; have hfz5_1 := blk_frozen BK314.out 1; have hfz5_2 := blk_frozen BK314.out 2; have hfz5_3 := blk_frozen BK314.out 3) | ((with_reducible refine gate_callee (f := 36) rfl ?_); refine goesL_ (some 27) rfl rfl Try.func36 (by kernel_rfl) rfl #[.agg #[.slice A0_0 l0_0.length c0_0, .slice A0_1 l0_1.length c0_1, .slice A0_2 l0_2.length c0_2, .slice A0_3 l0_3.length c0_3]] rfl (by (try simp only [List.map_toArray, List.map_cons, List.map_nil]); first | done | rfl | (simp only [List.length_drop, List.length_take]; rfl)) ?_; (with_reducible refine (herbariumlaw13_Heavy.calls k _ _ l0_0 _ _ l0_1 _ _ l0_2 _ _ l0_3 true _ ?side1 ?side2 ?side3 ?side4 ?side5 ?side6 ?side7 ?side8 A2.out).mono ?_); (case side1 => repeat (first | exact (Kd.C_below HR0_0.out HB.out) | (with_reducible refine Kd.C_alloc ?_ _) | (with_reducible refine Kd.C_drewN ?_ _) | (with_reducible refine Kd.C_drew ?_))); (case side2 => exact HC0_0.out); (case side3 => repeat (first | exact (Kd.C_below HR0_1.out HB.out) | (with_reducible refine Kd.C_alloc ?_ _) | (with_reducible refine Kd.C_drewN ?_ _) | (with_reducible refine Kd.C_drew ?_))); (case side4 => exact HC0_1.out); (case side5 => repeat (first | exact (Kd.C_below HR0_2.out HB.out) | (with_reducible refine Kd.C_alloc ?_ _) | (with_reducible refine Kd.C_drewN ?_ _) | (with_reducible refine Kd.C_drew ?_))); (case side6 => exact HC0_2.out); (case side7 => repeat (first | exact (Kd.C_below HR0_3.out HB.out) | (with_reducible refine Kd.C_alloc ?_ _) | (with_reducible refine Kd.C_drewN ?_ _) | (with_reducible refine Kd.C_drew ?_))); (case side8 => exact HC0_3.out); rintro e w6 ⟨rfl, hb⟩; refine ⟨_, rfl, ?_⟩; have n0_ := Aside0.mk (blk_below (g := gb314) (o := .cells #[.slice A0_0 l0_0.length c0_0, .slice A0_1 l0_1.length c0_1, .slice A0_2 l0_2.length c0_2, .slice A0_3 l0_3.length c0_3] 38 (0, 0)) (by (with_reducible repeat (first | refine blk_drewN ?_ _ | refine blk_drew ?_ | refine blk_alloc ?_ _)); exact BK314.out) hb); have n1_ := Aside0.mk (below_step (by repeat (first | (with_reducible first | exact HB.out | apply below_alloc | apply pw_below_drewN | apply below_drew1 | refine below_set ?_ GE314.out) | exact HB.out)) hb); clear BK314; clear HB; have BK314 := n0_; have HB := n1_; clear n0_ n1_; (try clear hb); (try clear hb2); (try clear hk); (try clear hi)))
    go_ret
    exact ⟨by first | rfl | (simp [errW_none, errW_some] <;> rfl) | (simp [*, errW_none, errW_some] <;> rfl), by repeat (first | (with_reducible first | exact HB.out | apply below_alloc | apply pw_below_drewN | apply below_drew1 | refine below_set ?_ GE314.out) | exact HB.out)⟩
  · replace c3 := Bool.eq_false_iff.mpr c3
    subst c3
    have H1 : ((some (([20, 1, 0, 100, 101] : List Int) : List Int)).bind fun y316 => (if y316.length + l0_1.length < 17592186044416 then (herbariumlaw13_SpaceFinds.l0 k (y316 ++ l0_1) 0 l0_0 l0_1 l0_2 l0_3) else (none))) = some true := by rw [if_neg (show ¬ (false = true) by decide)] at H; exact H
    clear H
    have H := H1
    clear H1
    obtain ⟨y316, hy316⟩ : ∃ y_ : List Int, y_ = (([20, 1, 0, 100, 101] : List Int)) := ⟨_, rfl⟩
    replace H : (if y316.length + l0_1.length < 17592186044416 then (herbariumlaw13_SpaceFinds.l0 k (y316 ++ l0_1) 0 l0_0 l0_1 l0_2 l0_3) else (none)) = some true := by first | (rw [hy316]; with_reducible exact H) | (have H2_ := (Option.bind_some _ _).symm.trans H; rw [hy316]; with_reducible exact H2_) | (have H2_ := (Option.bind_some _ _).symm.trans H; with_reducible exact H2_) | with_reducible exact H | (rw [hy316]; exact H) | exact H
    have Ny316 := Aside0.mk hy316
    clear hy316
    by_cases c7 : y316.length + l0_1.length < 17592186044416
    · rw [if_pos c7] at H
      have LMc7 := Aside0.mk c7
      clear c7
      obtain ⟨y319, hy319⟩ : ∃ y_ : List Int, y_ = (y316 ++ l0_1) := ⟨_, rfl⟩
      replace H : (herbariumlaw13_SpaceFinds.l0 k y319 0 l0_0 l0_1 l0_2 l0_3) = some true := by first | (rw [hy319]; with_reducible exact H) | (have H2_ := (Option.bind_some _ _).symm.trans H; rw [hy319]; with_reducible exact H2_) | (have H2_ := (Option.bind_some _ _).symm.trans H; with_reducible exact H2_) | with_reducible exact H | (rw [hy319]; exact H) | exact H
      have Ny319 := Aside0.mk hy319
      clear hy319
      have H' := Aside0.mk H
      clear H
      go_enter Try.func9, Try.ntmps9
      go_wp2_with (first | ((with_reducible refine gate_dst (N := 1) rfl ?_); refine box_event ?hg (N := 1) ?hd (cs := #[.slice A0_0 l0_0.length c0_0, .slice A0_1 l0_1.length c0_1, .slice A0_2 l0_2.length c0_2, .slice A0_3 l0_3.length c0_3]) (t := 38) ?hr ?_; (case hd => rfl); (case hg => rfl); (case hr => first | (go_simp; done) | (go_simp; rfl)); intro gb314 hg w8 hbox hb; have n0_ := Aside0.mk (below_step (by repeat (first | (with_reducible first | exact HB.out | apply below_alloc | apply pw_below_drewN | apply below_drew1) | exact HB.out)) hb); have n1_ := Aside0.mk (hbox); have n2_ := Aside0.mk ((by rw [hg]; exact (below_size (by repeat (first | (with_reducible first | exact HB.out | apply below_alloc | apply pw_below_drewN | apply below_drew1) | exact HB.out))) : w.heap.size ≤ gb314)); have n3_ := Aside0.mk ((by rw [hg]; exact (below_size (by repeat (first | (with_reducible first | exact HB.out | apply below_alloc | apply pw_below_drewN | apply below_drew1) | exact HB.out))) : w.heap.size ≤ gb314)); clear HB; have HB := n0_; have BK314 := n1_; have GW314 := n2_; have GE314 := n3_; clear n0_ n1_ n2_ n3_; clear hb hbox hg; have hcz9_0 : w8.cell? ⟨gb314, 0, none⟩ = some (.slice A0_0 l0_0.length c0_0) := (blk_cell BK314.out 0).trans rfl; have hcz9_1 : w8.cell? ⟨gb314, 1, none⟩ = some (.slice A0_1 l0_1.length c0_1) := (blk_cell BK314.out 1).trans rfl; have hcz9_2 : w8.cell? ⟨gb314, 2, none⟩ = some (.slice A0_2 l0_2.length c0_2) := (blk_cell BK314.out 2).trans rfl; have hcz9_3 : w8.cell? ⟨gb314, 3, none⟩ = some (.slice A0_3 l0_3.length c0_3) := (blk_cell BK314.out 3).trans rfl; have hfz9_0 := blk_frozen BK314.out 0; have hfz9_1 := blk_frozen BK314.out 1; have hfz9_2 := blk_frozen BK314.out 2; have hfz9_3 := blk_frozen BK314.out 3) | ((with_reducible refine gate_callee (f := 36) rfl ?_); refine goesL_ (some 27) rfl rfl Try.func36 (by kernel_rfl) rfl #[.agg #[.slice A0_0 l0_0.length c0_0, .slice A0_1 l0_1.length c0_1, .slice A0_2 l0_2.length c0_2, .slice A0_3 l0_3.length c0_3]] rfl (by (try simp only [List.map_toArray, List.map_cons, List.map_nil]); first | done | rfl | (simp only [List.length_drop, List.length_take]; rfl)) ?_; (with_reducible refine (herbariumlaw13_Heavy.calls k _ _ l0_0 _ _ l0_1 _ _ l0_2 _ _ l0_3 false _ ?side1 ?side2 ?side3 ?side4 ?side5 ?side6 ?side7 ?side8 A2.out).mono ?_); (case side1 => repeat (first | exact (Kd.C_below HR0_0.out HB.out) | (with_reducible refine Kd.C_alloc ?_ _) | (with_reducible refine Kd.C_drewN ?_ _) | (with_reducible refine Kd.C_drew ?_))); (case side2 => exact HC0_0.out); (case side3 => repeat (first | exact (Kd.C_below HR0_1.out HB.out) | (with_reducible refine Kd.C_alloc ?_ _) | (with_reducible refine Kd.C_drewN ?_ _) | (with_reducible refine Kd.C_drew ?_))); (case side4 => exact HC0_1.out); (case side5 => repeat (first | exact (Kd.C_below HR0_2.out HB.out) | (with_reducible refine Kd.C_alloc ?_ _) | (with_reducible refine Kd.C_drewN ?_ _) | (with_reducible refine Kd.C_drew ?_))); (case side6 => exact HC0_2.out); (case side7 => repeat (first | exact (Kd.C_below HR0_3.out HB.out) | (with_reducible refine Kd.C_alloc ?_ _) | (with_reducible refine Kd.C_drewN ?_ _) | (with_reducible refine Kd.C_drew ?_))); (case side8 => exact HC0_3.out); rintro e w10 ⟨rfl, hb⟩; refine ⟨_, rfl, ?_⟩; have n0_ := Aside0.mk (blk_below (g := gb314) (o := .cells #[.slice A0_0 l0_0.length c0_0, .slice A0_1 l0_1.length c0_1, .slice A0_2 l0_2.length c0_2, .slice A0_3 l0_3.length c0_3] 38 (0, 0)) (by (with_reducible repeat (first | refine blk_drewN ?_ _ | refine blk_drew ?_ | refine blk_alloc ?_ _)); exact BK314.out) hb); have n1_ := Aside0.mk (below_step (by repeat (first | (with_reducible first | exact HB.out | apply below_alloc | apply pw_below_drewN | apply below_drew1 | refine below_set ?_ GE314.out) | exact HB.out)) hb); clear BK314; clear HB; have BK314 := n0_; have HB := n1_; clear n0_ n1_; (try clear hb); (try clear hb2); (try clear hk); (try clear hi)) | ((with_reducible refine gate_dst (N := 28) rfl ?_); refine Kd.R_lit (Kd.int .i64) _ 3 ?hg (N := 28) ?hd (xs := ([20, 1, 0, 100, 101] : List Int)) (inner := [.int .i64 20, .int .i64 1, .int .i64 0, .int .i64 100, .int .i64 101]) (ok := fun _ => True) (okp := fun _ => True) ?hr ?hp (fun _ hk => hk) trivial (Below.refl _ _) (Nat.le_refl _) (by simp) ?_; (case hd => rfl); (case hg => rfl); (case hr => first | (go_simp; done) | (go_simp; rfl)); (case hp => exact (Reps.one (show Kd.M (Kd.int .i64) _ _ _ 20 [.int .i64 20] from rfl) (Reps.one (show Kd.M (Kd.int .i64) _ _ _ 1 [.int .i64 1] from rfl) (Reps.one (show Kd.M (Kd.int .i64) _ _ _ 0 [.int .i64 0] from rfl) (Reps.one (show Kd.M (Kd.int .i64) _ _ _ 100 [.int .i64 100] from rfl) (Reps.one (show Kd.M (Kd.int .i64) _ _ _ 101 [.int .i64 101] from rfl) (Reps.none _ _))))))); intro v317 w11 ho12 hb hg_ hnew_; clear hg_ hnew_; (first | rw [← Ny316.out] at ho12 | (simp only [Int.reduceToNat] at ho12; rw [← Ny316.out] at ho12)); have n0_ := Aside0.mk (Kd.R_lower ho12 (below_size (by repeat (first | (with_reducible first | exact HB.out | apply below_alloc | apply pw_below_drewN | apply below_drew1 | refine below_set ?_ GE314.out) | exact HB.out)))); have n1_ := Aside0.mk (blk_below (g := gb314) (o := .cells #[.slice A0_0 l0_0.length c0_0, .slice A0_1 l0_1.length c0_1, .slice A0_2 l0_2.length c0_2, .slice A0_3 l0_3.length c0_3] 38 (0, 0)) (by (with_reducible repeat (first | refine blk_drewN ?_ _ | refine blk_drew ?_ | refine blk_alloc ?_ _)); exact BK314.out) hb); have n2_ := Aside0.mk (below_step (by repeat (first | (with_reducible first | exact HB.out | apply below_alloc | apply pw_below_drewN | apply below_drew1 | refine below_set ?_ GE314.out) | exact HB.out)) hb); clear BK314; clear HB; have HO318 := n0_; have BK314 := n1_; have HB := n2_; clear n0_ n1_ n2_; clear hb ho12; have hcz13_0 : w11.cell? ⟨gb314, 0, none⟩ = some (.slice A0_0 l0_0.length c0_0) := (blk_cell BK314.out 0).trans rfl; have hcz13_1 : w11.cell? ⟨gb314, 1, none⟩ = some (.slice A0_1 l0_1.length c0_1) := (blk_cell BK314.out 1).trans rfl; have hcz13_2 : w11.cell? ⟨gb314, 2, none⟩ = some (.slice A0_2 l0_2.length c0_2) := (blk_cell BK314.out 2).trans rfl; have hcz13_3 : w11.cell? ⟨gb314, 3, none⟩ = some (.slice A0_3 l0_3.length c0_3) := (blk_cell BK314.out 3).trans rfl; have hfz13_0 := blk_frozen BK314.out 0; have hfz13_1 := blk_frozen BK314.out 1; have hfz13_2 := blk_frozen BK314.out 2; have hfz13_3 := blk_frozen BK314.out 3) | ((with_reducible refine gate_builtin (b := .append) (xs := #[.tmp 28, .tmp 30]) rfl ?_); at_builtin; refine Kd.R_append_rows (Kd.int .i64) (w0 := w) w.heap.size rfl (.tmp 28) (.tmp 30) 23 3 (.int .i64 0) 8 rfl Try.underlying23 info3 rfl (by decide) (by omega) v317 y316 l0_1 _ _ _ (fun _ => True) (fun _ => False) rfl rfl ?aO ?aR (fun _ _ h => h) (fun _ h => h.elim) ?aF ?aB ?aS ?aL ?_; (case aR => repeat (first | exact (Kd.C_below HR0_1.out HB.out) | (with_reducible refine Kd.C_alloc ?_ _) | (with_reducible refine Kd.C_drewN ?_ _) | (with_reducible refine Kd.C_drew ?_))); (case aB => exact (by repeat (first | (with_reducible first | exact HB.out | apply below_alloc | apply pw_below_drewN | apply below_drew1 | refine below_set ?_ GE314.out) | exact HB.out))); (case aF => exact (fun _ _ => trivial)); (case aO => exact (by (with_reducible repeat (first | apply Kd.R_alloc | apply Kd.R_drewN | apply Kd.R_drew)); exact HO318.out)); (case aS => exact (below_size (by repeat (first | (with_reducible first | exact HB.out | apply below_alloc | apply pw_below_drewN | apply below_drew1 | refine below_set ?_ GE314.out) | exact HB.out)))); (case aL => have := LMc7.out; omega); intro v320 w14 ho hb hg hat; rw [← Ny319.out] at ho; have n0_ := Aside0.mk (blk_grown (g := gb314) (o := .cells #[.slice A0_0 l0_0.length c0_0, .slice A0_1 l0_1.length c0_1, .slice A0_2 l0_2.length c0_2, .slice A0_3 l0_3.length c0_3] 38 (0, 0)) (by (with_reducible repeat (first | refine blk_drewN ?_ _ | refine blk_drew ?_ | refine blk_alloc ?_ _)); exact BK314.out) hg (Kd.R_ne HO318.out BK314.out (by decide))); have n1_ := Aside0.mk (hb); have n2_ := Aside0.mk (ho); clear BK314; clear HB; clear HO318; have BK314 := n0_; have HB := n1_; have HO321 := n2_; clear n0_ n1_ n2_; clear ho hb hg hat))
      go_loopg [4] k (fun kq v4 w' => ∃ (x4_1 : Int), v4 = .int .i64 x4_1 ∧ Aside0 (herbariumlaw13_SpaceFinds.l0 kq y319 x4_1 l0_0 l0_1 l0_2 l0_3 = some true) ∧ Aside0 (kq ≤ k) ∧ Aside0 (Kd.R (Kd.int .i64) 3 w' w.heap.size (fun _ => True) v320 y319) ∧ Aside0 (w'.heap[gb314]? = some (.cells #[(.slice A0_0 l0_0.length c0_0), (.slice A0_1 l0_1.length c0_1), (.slice A0_2 l0_2.length c0_2), (.slice A0_3 l0_3.length c0_3)] 38 (0, 0))) ∧ Aside0 (Below w.heap.size w w'))
      case atStart => exact ⟨(0), (by first | rfl | (simp; done) | (simp [*]; done)), H', ⟨Nat.le_refl _⟩, ⟨by (with_reducible repeat (first | apply Kd.R_alloc | apply Kd.R_drewN | apply Kd.R_drew)); exact HO321.out⟩, ⟨by (with_reducible repeat (first | refine blk_drewN ?_ _ | refine blk_drew ?_ | refine blk_alloc ?_ _)); exact BK314.out⟩, ⟨by repeat (first | (with_reducible first | exact HB.out | apply below_alloc | apply pw_below_drewN | apply below_drew1 | refine below_set ?_ GE314.out) | exact HB.out)⟩⟩
      case round => as_aux_lemma =>
        clear H'
        try clear p2
        try clear c3
        try clear c7
        try clear c9
        try clear hcz13_0
        try clear hcz13_1
        try clear hcz13_2
        try clear hcz13_3
        try clear hcz5_0
        try clear hcz5_1
        try clear hcz5_2
        try clear hcz5_3
        try clear hcz9_0
        try clear hcz9_1
        try clear hcz9_2
        try clear hcz9_3
        try clear hfz13_0
        try clear hfz13_1
        try clear hfz13_2
        try clear hfz13_3
        try clear hfz5_0
        try clear hfz5_1
        try clear hfz5_2
        try clear hfz5_3
        try clear hfz9_0
        try clear hfz9_1
        try clear hfz9_2
        try clear hfz9_3
        obtain ⟨x4_1, rfl, HA, HK1, HO_3, BK314, HB⟩ := hrel
        cases gk with
        | zero => exact absurd HA.out (by simp [herbariumlaw13_SpaceFinds.l0])
        | succ k1 =>
          have H := HA.out
          clear HA
          simp only [herbariumlaw13_SpaceFinds.l0] at H
          have HC15 := Aside0.mk H
          clear H
          go_upto_region 5 with (fail)
          go_cut [40] (fun v40 wc => ∃ (kq : Nat) (x40_14 : Bool), v40 = .bool x40_14 ∧ Aside0 (herbariumlaw13_SpaceFinds.j1 kq y319 x4_1 x40_14 l0_0 l0_1 l0_2 l0_3 = some true) ∧ Aside0 (kq ≤ k1) ∧ Aside0 (Kd.R (Kd.int .i64) 3 wc w.heap.size (fun _ => True) v320 y319) ∧ Aside0 (wc.heap[gb314]? = some (.cells #[(.slice A0_0 l0_0.length c0_0), (.slice A0_1 l0_1.length c0_1), (.slice A0_2 l0_2.length c0_2), (.slice A0_3 l0_3.length c0_3)] 38 (0, 0))) ∧ Aside0 (Below w.heap.size w wc))
          case first => as_aux_lemma =>
            have H := HC15.out
            clear HC15
            by_cases c16 : x4_1 < (l0_0.length : Int)
            · rw [if_pos c16] at H
              have c16b0 : decide (x4_1 < (l0_0.length : Int)) = true := decide_eq_true c16
              clear c16
              (first | rw [c16b0] | (simp only [i64_w, i32_w]; rw [c16b0]) | skip)
              have H' := Aside0.mk H
              clear H
              have hcz17_0 : wr.cell? ⟨gb314, 0, none⟩ = some (.slice A0_0 l0_0.length c0_0) := (blk_cell BK314.out 0).trans rfl
              have hcz17_1 : wr.cell? ⟨gb314, 1, none⟩ = some (.slice A0_1 l0_1.length c0_1) := (blk_cell BK314.out 1).trans rfl
              have hcz17_2 : wr.cell? ⟨gb314, 2, none⟩ = some (.slice A0_2 l0_2.length c0_2) := (blk_cell BK314.out 2).trans rfl
              have hcz17_3 : wr.cell? ⟨gb314, 3, none⟩ = some (.slice A0_3 l0_3.length c0_3) := (blk_cell BK314.out 3).trans rfl
              have hfz17_0 := blk_frozen BK314.out 0
              have hfz17_1 := blk_frozen BK314.out 1
              have hfz17_2 := blk_frozen BK314.out 2
              have hfz17_3 := blk_frozen BK314.out 3
              go_wp2
              go_meet
              case rel => exact ⟨_, (decide (x4_1 < 5)), (by first | rfl | (simp; done) | (simp [*]; done)), H', ⟨by have := HK1.out; first | omega | exact Nat.le_refl _⟩, ⟨by (with_reducible repeat (first | apply Kd.R_alloc | apply Kd.R_drewN | apply Kd.R_drew)); exact HO_3.out⟩, ⟨by (with_reducible repeat (first | refine blk_drewN ?_ _ | refine blk_drew ?_ | refine blk_alloc ?_ _)); exact BK314.out⟩, ⟨by repeat (first | (with_reducible first | exact HB.out | apply below_alloc | apply pw_below_drewN | apply below_drew1 | refine below_set ?_ GE314.out) | exact HB.out)⟩⟩
            · rw [if_neg c16] at H
              have c16b0 : decide (x4_1 < (l0_0.length : Int)) = false := decide_eq_false c16
              clear c16
              (first | rw [c16b0] | (simp only [i64_w, i32_w]; rw [c16b0]) | skip)
              have H' := Aside0.mk H
              clear H
              have hcz18_0 : wr.cell? ⟨gb314, 0, none⟩ = some (.slice A0_0 l0_0.length c0_0) := (blk_cell BK314.out 0).trans rfl
              have hcz18_1 : wr.cell? ⟨gb314, 1, none⟩ = some (.slice A0_1 l0_1.length c0_1) := (blk_cell BK314.out 1).trans rfl
              have hcz18_2 : wr.cell? ⟨gb314, 2, none⟩ = some (.slice A0_2 l0_2.length c0_2) := (blk_cell BK314.out 2).trans rfl
              have hcz18_3 : wr.cell? ⟨gb314, 3, none⟩ = some (.slice A0_3 l0_3.length c0_3) := (blk_cell BK314.out 3).trans rfl
              have hfz18_0 := blk_frozen BK314.out 0
              have hfz18_1 := blk_frozen BK314.out 1
              have hfz18_2 := blk_frozen BK314.out 2
              have hfz18_3 := blk_frozen BK314.out 3
              go_wp2
              go_meet
              case rel => exact ⟨_, (false), (by first | rfl | (simp; done) | (simp [*]; done)), H', ⟨by have := HK1.out; first | omega | exact Nat.le_refl _⟩, ⟨by (with_reducible repeat (first | apply Kd.R_alloc | apply Kd.R_drewN | apply Kd.R_drew)); exact HO_3.out⟩, ⟨by (with_reducible repeat (first | refine blk_drewN ?_ _ | refine blk_drew ?_ | refine blk_alloc ?_ _)); exact BK314.out⟩, ⟨by repeat (first | (with_reducible first | exact HB.out | apply below_alloc | apply pw_below_drewN | apply below_drew1 | refine below_set ?_ GE314.out) | exact HB.out)⟩⟩
          case rest => as_aux_lemma =>
            clear HC15
            try clear c1
            try clear p2
            try clear c3
            try clear c7
            try clear c9
            try clear c16
            try clear c16b0
            try clear hcz13_0
            try clear hcz13_1
            try clear hcz13_2
            try clear hcz13_3
            try clear hcz17_0
            try clear hcz17_1
            try clear hcz17_2
            try clear hcz17_3
            try clear hcz18_0
            try clear hcz18_1
            try clear hcz18_2
            try clear hcz18_3
            try clear hcz5_0
            try clear hcz5_1
            try clear hcz5_2
            try clear hcz5_3
            try clear hcz9_0
            try clear hcz9_1
            try clear hcz9_2
            try clear hcz9_3
            try clear hfz13_0
            try clear hfz13_1
            try clear hfz13_2
            try clear hfz13_3
            try clear hfz17_0
            try clear hfz17_1
            try clear hfz17_2
            try clear hfz17_3
            try clear hfz18_0
            try clear hfz18_1
            try clear hfz18_2
            try clear hfz18_3
            try clear hfz5_0
            try clear hfz5_1
            try clear hfz5_2
            try clear hfz5_3
            try clear hfz9_0
            try clear hfz9_1
            try clear hfz9_2
            try clear hfz9_3
            try clear p2
            obtain ⟨kq, x40_14, rfl, HA, HJ14, HO_3, BK314, HB⟩ := hcut
            cases kq with
            | zero => exact absurd HA.out (by simp [herbariumlaw13_SpaceFinds.j1])
            | succ kj14 =>
              have H := HA.out
              clear HA
              simp only [herbariumlaw13_SpaceFinds.j1] at H
              by_cases c19 : x40_14 = true
              · subst c19
                have H1 : (if 0 ≤ x4_1 then (if x4_1 < (l0_0.length : Int) then ((herbariumref0_CopyRuns.f kj14 (rd_L4 l0_0 x4_1)).bind fun t323 => (herbariumlaw13_SpaceFinds.l1 kj14 y319 x4_1 t323 0 l0_0 l0_1 l0_2 l0_3)) else (none)) else (none)) = some true := by rw [if_pos rfl] at H; exact H
                clear H
                have H := H1
                clear H1
                by_cases c20 : 0 ≤ x4_1
                · rw [if_pos c20] at H
                  have c20b0 : decide (0 ≤ x4_1) = true := decide_eq_true c20
                  clear c20
                  by_cases c21 : x4_1 < (l0_0.length : Int)
                  · rw [if_pos c21] at H
                    have c21b0 : decide (x4_1 < (l0_0.length : Int)) = true := decide_eq_true c21
                    clear c21
                    replace H := Option.bind_eq_some_iff.mp H
                    obtain ⟨t323, A220, H⟩ := H
                    replace H : (herbariumlaw13_SpaceFinds.l1 kj14 y319 x4_1 t323 0 l0_0 l0_1 l0_2 l0_3) = some true := H
                    have A22 := Aside0.mk A220
                    clear A220
                    have H' := Aside0.mk H
                    clear H
                    have hcz23_0 : wc.cell? ⟨gb314, 0, none⟩ = some (.slice A0_0 l0_0.length c0_0) := (blk_cell BK314.out 0).trans rfl
                    have hcz23_1 : wc.cell? ⟨gb314, 1, none⟩ = some (.slice A0_1 l0_1.length c0_1) := (blk_cell BK314.out 1).trans rfl
                    have hcz23_2 : wc.cell? ⟨gb314, 2, none⟩ = some (.slice A0_2 l0_2.length c0_2) := (blk_cell BK314.out 2).trans rfl
                    have hcz23_3 : wc.cell? ⟨gb314, 3, none⟩ = some (.slice A0_3 l0_3.length c0_3) := (blk_cell BK314.out 3).trans rfl
                    have hfz23_0 := blk_frozen BK314.out 0
                    have hfz23_1 := blk_frozen BK314.out 1
                    have hfz23_2 := blk_frozen BK314.out 2
                    have hfz23_3 := blk_frozen BK314.out 3
                    have p322 : 0 ≤ (x4_1 : Int) := of_decide_eq_true (by first | (with_reducible assumption) | assumption)
                    have q322 : x4_1 < (l0_0.length : Int) := of_decide_eq_true (by first | (with_reducible assumption) | assumption)
                    obtain ⟨ad322, A322_0, c322_0, e322, hx322_0, hl322_0, hi322_0⟩ := at_L4 HR0_0.out x4_1 p322 q322
                    cases e322
                    replace hx322_0 := (HB.out.cell (World.block_lt_of_cell? w _ hx322_0)).trans hx322_0
                    have HR322_0 := Aside0.mk hi322_0
                    have HC322_0 := Aside0.mk hl322_0
                    clear hi322_0 hl322_0
                    replace p322 := eq_true p322
                    replace q322 := eq_true q322
                    go_wp2_with (first | ((with_reducible refine gate_callee (f := 37) rfl ?_); refine goesL_ (some 48) rfl rfl Try.func37 (by kernel_rfl) rfl #[.slice A322_0 (rd_L4 l0_0 x4_1).length c322_0] rfl (by (try simp only [List.map_toArray, List.map_cons, List.map_nil]); first | done | rfl | (simp only [List.length_drop, List.length_take]; rfl)) ?_; (with_reducible refine (herbariumref0_CopyRuns.calls kj14 _ _ (rd_L4 l0_0 x4_1) t323 _ ?side1 ?side2 A22.out).mono ?_); (case side1 => repeat (first | exact (Kd.C_below HR322_0.out HB.out) | (with_reducible refine Kd.C_alloc ?_ _) | (with_reducible refine Kd.C_drewN ?_ _) | (with_reducible refine Kd.C_drew ?_))); (case side2 => exact HC322_0.out); rintro e w24 ⟨v324, rfl, ho0, hb⟩; refine ⟨_, rfl, ?_⟩; have n0_ := Aside0.mk (Kd.R_below (by (with_reducible repeat (first | apply Kd.R_alloc | apply Kd.R_drewN | apply Kd.R_drew)); exact HO_3.out) hb); have n1_ := Aside0.mk (Kd.R_lower ho0 (below_size (by repeat (first | (with_reducible first | exact HB.out | apply below_alloc | apply pw_below_drewN | apply below_drew1 | refine below_set ?_ GE314.out) | exact HB.out)))); have n2_ := Aside0.mk (blk_below (g := gb314) (o := .cells #[.slice (some ad322) l0_0.length c0_0, .slice A0_1 l0_1.length c0_1, .slice A0_2 l0_2.length c0_2, .slice A0_3 l0_3.length c0_3] 38 (0, 0)) (by (with_reducible repeat (first | refine blk_drewN ?_ _ | refine blk_drew ?_ | refine blk_alloc ?_ _)); exact BK314.out) hb); have n3_ := Aside0.mk (below_step (by repeat (first | (with_reducible first | exact HB.out | apply below_alloc | apply pw_below_drewN | apply below_drew1 | refine below_set ?_ GE314.out) | exact HB.out)) hb); clear HO_3; clear BK314; clear HB; have HO_3 := n0_; have HO325 := n1_; have BK314 := n2_; have HB := n3_; clear n0_ n1_ n2_ n3_; (try clear hb); (try clear hb2); (try clear hk); (try clear hi); (try clear ho0)))
                    go_loopg [6] kj14 (fun kq v6 w' => ∃ (x6_3 : Int), v6 = .int .i64 x6_3 ∧ Aside0 (herbariumlaw13_SpaceFinds.l1 kq y319 x4_1 t323 x6_3 l0_0 l0_1 l0_2 l0_3 = some true) ∧ Aside0 (kq ≤ kj14) ∧ Aside0 (Kd.R (Kd.int .i64) 3 w' w.heap.size (fun _ => True) v320 y319) ∧ Aside0 (Kd.R k41 41 w' w.heap.size (fun _ => True) v324 t323) ∧ Aside0 (w'.heap[gb314]? = some (.cells #[(.slice (some ad322) l0_0.length c0_0), (.slice A0_1 l0_1.length c0_1), (.slice A0_2 l0_2.length c0_2), (.slice A0_3 l0_3.length c0_3)] 38 (0, 0))) ∧ Aside0 (Below w.heap.size w w'))
                    case atStart => exact ⟨(0), (by first | rfl | (simp; done) | (simp [*]; done)), H', ⟨Nat.le_refl _⟩, ⟨by (with_reducible repeat (first | apply Kd.R_alloc | apply Kd.R_drewN | apply Kd.R_drew)); exact HO_3.out⟩, ⟨by (with_reducible repeat (first | apply Kd.R_alloc | apply Kd.R_drewN | apply Kd.R_drew)); exact HO325.out⟩, ⟨by (with_reducible repeat (first | refine blk_drewN ?_ _ | refine blk_drew ?_ | refine blk_alloc ?_ _)); exact BK314.out⟩, ⟨by repeat (first | (with_reducible first | exact HB.out | apply below_alloc | apply pw_below_drewN | apply below_drew1 | refine below_set ?_ GE314.out) | exact HB.out)⟩⟩
                    case round => as_aux_lemma =>
                      clear H'
                      try clear c1
                      try clear c2
                      try clear p2
                      try clear c3
                      try clear p3
                      try clear q3
                      try clear hx3
                      try clear c7
                      try clear c9
                      try clear c16
                      try clear c16b0
                      try clear c19
                      try clear c20
                      try clear c20b0
                      try clear c21
                      try clear c21b0
                      try clear hcz13_0
                      try clear hcz13_1
                      try clear hcz13_2
                      try clear hcz13_3
                      try clear hcz17_0
                      try clear hcz17_1
                      try clear hcz17_2
                      try clear hcz17_3
                      try clear hcz18_0
                      try clear hcz18_1
                      try clear hcz18_2
                      try clear hcz18_3
                      try clear hcz23_0
                      try clear hcz23_1
                      try clear hcz23_2
                      try clear hcz23_3
                      try clear hcz5_0
                      try clear hcz5_1
                      try clear hcz5_2
                      try clear hcz5_3
                      try clear hcz9_0
                      try clear hcz9_1
                      try clear hcz9_2
                      try clear hcz9_3
                      try clear hfz13_0
                      try clear hfz13_1
                      try clear hfz13_2
                      try clear hfz13_3
                      try clear hfz17_0
                      try clear hfz17_1
                      try clear hfz17_2
                      try clear hfz17_3
                      try clear hfz18_0
                      try clear hfz18_1
                      try clear hfz18_2
                      try clear hfz18_3
                      try clear hfz23_0
                      try clear hfz23_1
                      try clear hfz23_2
                      try clear hfz23_3
                      try clear hfz5_0
                      try clear hfz5_1
                      try clear hfz5_2
                      try clear hfz5_3
                      try clear hfz9_0
                      try clear hfz9_1
                      try clear hfz9_2
                      try clear hfz9_3
                      try clear hx322_0
                      try clear p2
                      try clear p322
                      try clear q322
                      obtain ⟨x6_3, rfl, HA, HK3, HO_3, HO_5, BK314, HB⟩ := hrel
                      cases gk with
                      | zero => exact absurd HA.out (by simp [herbariumlaw13_SpaceFinds.l1])
                      | succ k3 =>
                        have H := HA.out
                        clear HA
                        simp only [herbariumlaw13_SpaceFinds.l1] at H
                        have HC25 := Aside0.mk H
                        clear H
                        go_upto_region 9 with (fail)
                        go_cut [56] (fun v56 wc => ∃ (kq : Nat) (x56_24 : Bool), v56 = .bool x56_24 ∧ Aside0 (herbariumlaw13_SpaceFinds.j3 kq y319 x4_1 t323 x6_3 x56_24 l0_0 l0_1 l0_2 l0_3 = some true) ∧ Aside0 (kq ≤ k3) ∧ Aside0 (Kd.R (Kd.int .i64) 3 wc w.heap.size (fun _ => True) v320 y319) ∧ Aside0 (Kd.R k41 41 wc w.heap.size (fun _ => True) v324 t323) ∧ Aside0 (wc.heap[gb314]? = some (.cells #[(.slice (some ad322) l0_0.length c0_0), (.slice A0_1 l0_1.length c0_1), (.slice A0_2 l0_2.length c0_2), (.slice A0_3 l0_3.length c0_3)] 38 (0, 0))) ∧ Aside0 (Below w.heap.size w wc))
                        case first => as_aux_lemma =>
                          have H := HC25.out
                          clear HC25
                          by_cases c26 : x6_3 < (y319.length : Int)
                          · rw [if_pos c26] at H
                            have c26b0 : decide (x6_3 < (y319.length : Int)) = true := decide_eq_true c26
                            clear c26
                            (first | rw [c26b0] | (simp only [i64_w, i32_w]; rw [c26b0]) | skip)
                            have H' := Aside0.mk H
                            clear H
                            obtain ⟨Ao27, co27, eo27⟩ := Kd.R_slice HO_3.out
                            subst eo27
                            go_wp2
                            go_meet
                            case rel => exact ⟨_, (decide (x6_3 < 8)), (by first | rfl | (simp; done) | (simp [*]; done)), H', ⟨by have := HK1.out; have := HJ14.out; have := HK3.out; first | omega | exact Nat.le_refl _⟩, ⟨by (with_reducible repeat (first | apply Kd.R_alloc | apply Kd.R_drewN | apply Kd.R_drew)); exact HO_3.out⟩, ⟨by (with_reducible repeat (first | apply Kd.R_alloc | apply Kd.R_drewN | apply Kd.R_drew)); exact HO_5.out⟩, ⟨by (with_reducible repeat (first | refine blk_drewN ?_ _ | refine blk_drew ?_ | refine blk_alloc ?_ _)); exact BK314.out⟩, ⟨by repeat (first | (with_reducible first | exact HB.out | apply below_alloc | apply pw_below_drewN | apply below_drew1 | refine below_set ?_ GE314.out) | exact HB.out)⟩⟩
                          · rw [if_neg c26] at H
                            have c26b0 : decide (x6_3 < (y319.length : Int)) = false := decide_eq_false c26
                            clear c26
                            (first | rw [c26b0] | (simp only [i64_w, i32_w]; rw [c26b0]) | skip)
                            have H' := Aside0.mk H
                            clear H
                            obtain ⟨Ao28, co28, eo28⟩ := Kd.R_slice HO_3.out
                            subst eo28
                            go_wp2
                            go_meet
                            case rel => exact ⟨_, (false), (by first | rfl | (simp; done) | (simp [*]; done)), H', ⟨by have := HK1.out; have := HJ14.out; have := HK3.out; first | omega | exact Nat.le_refl _⟩, ⟨by (with_reducible repeat (first | apply Kd.R_alloc | apply Kd.R_drewN | apply Kd.R_drew)); exact HO_3.out⟩, ⟨by (with_reducible repeat (first | apply Kd.R_alloc | apply Kd.R_drewN | apply Kd.R_drew)); exact HO_5.out⟩, ⟨by (with_reducible repeat (first | refine blk_drewN ?_ _ | refine blk_drew ?_ | refine blk_alloc ?_ _)); exact BK314.out⟩, ⟨by repeat (first | (with_reducible first | exact HB.out | apply below_alloc | apply pw_below_drewN | apply below_drew1 | refine below_set ?_ GE314.out) | exact HB.out)⟩⟩
                        case rest => as_aux_lemma =>
                          clear HC25
                          try clear c1
                          try clear c2
                          try clear p2
                          try clear c3
                          try clear p3
                          try clear q3
                          try clear hx3
                          try clear c7
                          try clear c9
                          try clear c16
                          try clear c16b0
                          try clear c19
                          try clear c20
                          try clear c20b0
                          try clear c21
                          try clear c21b0
                          try clear c26
                          try clear c26b0
                          try clear hcz13_0
                          try clear hcz13_1
                          try clear hcz13_2
                          try clear hcz13_3
                          try clear hcz17_0
                          try clear hcz17_1
                          try clear hcz17_2
                          try clear hcz17_3
                          try clear hcz18_0
                          try clear hcz18_1
                          try clear hcz18_2
                          try clear hcz18_3
                          try clear hcz23_0
                          try clear hcz23_1
                          try clear hcz23_2
                          try clear hcz23_3
                          try clear hcz5_0
                          try clear hcz5_1
                          try clear hcz5_2
                          try clear hcz5_3
                          try clear hcz9_0
                          try clear hcz9_1
                          try clear hcz9_2
                          try clear hcz9_3
                          try clear hfz13_0
                          try clear hfz13_1
                          try clear hfz13_2
                          try clear hfz13_3
                          try clear hfz17_0
                          try clear hfz17_1
                          try clear hfz17_2
                          try clear hfz17_3
                          try clear hfz18_0
                          try clear hfz18_1
                          try clear hfz18_2
                          try clear hfz18_3
                          try clear hfz23_0
                          try clear hfz23_1
                          try clear hfz23_2
                          try clear hfz23_3
                          try clear hfz5_0
                          try clear hfz5_1
                          try clear hfz5_2
                          try clear hfz5_3
                          try clear hfz9_0
                          try clear hfz9_1
                          try clear hfz9_2
                          try clear hfz9_3
                          try clear hx322_0
                          try clear p2
                          try clear p3
                          try clear p322
                          try clear q3
                          try clear q322
                          obtain ⟨kq, x56_24, rfl, HA, HJ24, HO_3, HO_5, BK314, HB⟩ := hcut
                          cases kq with
                          | zero => exact absurd HA.out (by simp [herbariumlaw13_SpaceFinds.j3])
                          | succ kj24 =>
                            have H := HA.out
                            clear HA
                            simp only [herbariumlaw13_SpaceFinds.j3] at H
                            by_cases c29 : x56_24 = true
                            · subst c29
                              have H1 : (if 0 ≤ x6_3 then (if x6_3 < (y319.length : Int) then ((herbariumref13_Places.f kj24 t323 (rd y319 x6_3)).bind fun t329 => ((space_Gaps.f kj24 t323 (rd y319 x6_3)).bind fun bt331 => ((space_Free.f kj24 t323 (rd y319 x6_3)).bind fun bt336 => (if t329 = true then ((herbariumref13_Gaps.f kj24 t323 (rd y319 x6_3)).bind fun t339 => ((herbariumref13_Free.f kj24 t323 (rd y319 x6_3)).bind fun t343 => (herbariumlaw13_SpaceFinds.j4 kj24 y319 x4_1 t323 x6_3 t329 bt331.1 bt331.2 bt336.1 bt336.2 0 t343 t339 l0_0 l0_1 l0_2 l0_3))) else (herbariumlaw13_SpaceFinds.j4 kj24 y319 x4_1 t323 x6_3 t329 bt331.1 bt331.2 bt336.1 bt336.2 1 0 ([] : List (S41)) l0_0 l0_1 l0_2 l0_3))))) else (none)) else (none)) = some true := by rw [if_pos rfl] at H; exact H
                              clear H
                              have H := H1
                              clear H1
                              by_cases c30 : 0 ≤ x6_3
                              · rw [if_pos c30] at H
                                have c30b0 : decide (0 ≤ x6_3) = true := decide_eq_true c30
                                clear c30
                                by_cases c31 : x6_3 < (y319.length : Int)
                                · rw [if_pos c31] at H
                                  have c31b0 : decide (x6_3 < (y319.length : Int)) = true := decide_eq_true c31
                                  clear c31
                                  replace H := Option.bind_eq_some_iff.mp H
                                  obtain ⟨t329, A320, H⟩ := H
                                  replace H : ((space_Gaps.f kj24 t323 (rd y319 x6_3)).bind fun bt331 => ((space_Free.f kj24 t323 (rd y319 x6_3)).bind fun bt336 => (if t329 = true then ((herbariumref13_Gaps.f kj24 t323 (rd y319 x6_3)).bind fun t339 => ((herbariumref13_Free.f kj24 t323 (rd y319 x6_3)).bind fun t343 => (herbariumlaw13_SpaceFinds.j4 kj24 y319 x4_1 t323 x6_3 t329 bt331.1 bt331.2 bt336.1 bt336.2 0 t343 t339 l0_0 l0_1 l0_2 l0_3))) else (herbariumlaw13_SpaceFinds.j4 kj24 y319 x4_1 t323 x6_3 t329 bt331.1 bt331.2 bt336.1 bt336.2 1 0 ([] : List (S41)) l0_0 l0_1 l0_2 l0_3)))) = some true := H
                                  have A32 := Aside0.mk A320
                                  clear A320
                                  replace H := Option.bind_eq_some_iff.mp H
                                  obtain ⟨⟨t331, t332⟩, A330, H⟩ := H
                                  replace H : ((space_Free.f kj24 t323 (rd y319 x6_3)).bind fun bt336 => (if t329 = true then ((herbariumref13_Gaps.f kj24 t323 (rd y319 x6_3)).bind fun t339 => ((herbariumref13_Free.f kj24 t323 (rd y319 x6_3)).bind fun t343 => (herbariumlaw13_SpaceFinds.j4 kj24 y319 x4_1 t323 x6_3 t329 t331 t332 bt336.1 bt336.2 0 t343 t339 l0_0 l0_1 l0_2 l0_3))) else (herbariumlaw13_SpaceFinds.j4 kj24 y319 x4_1 t323 x6_3 t329 t331 t332 bt336.1 bt336.2 1 0 ([] : List (S41)) l0_0 l0_1 l0_2 l0_3))) = some true := H
                                  have A33 := Aside0.mk A330
                                  clear A330
                                  replace H := Option.bind_eq_some_iff.mp H
                                  obtain ⟨⟨t336, t337⟩, A340, H⟩ := H
                                  replace H : (if t329 = true then ((herbariumref13_Gaps.f kj24 t323 (rd y319 x6_3)).bind fun t339 => ((herbariumref13_Free.f kj24 t323 (rd y319 x6_3)).bind fun t343 => (herbariumlaw13_SpaceFinds.j4 kj24 y319 x4_1 t323 x6_3 t329 t331 t332 t336 t337 0 t343 t339 l0_0 l0_1 l0_2 l0_3))) else (herbariumlaw13_SpaceFinds.j4 kj24 y319 x4_1 t323 x6_3 t329 t331 t332 t336 t337 1 0 ([] : List (S41)) l0_0 l0_1 l0_2 l0_3)) = some true := H
                                  have A34 := Aside0.mk A340
                                  clear A340
                                  have HC35 := Aside0.mk H
                                  clear H
                                  obtain ⟨Ao36, co36, eo36⟩ := Kd.R_slice HO_3.out
                                  subst eo36
                                  have p328 : 0 ≤ (x6_3 : Int) := of_decide_eq_true (by first | (with_reducible assumption) | assumption)
                                  have q328 : x6_3 < (y319.length : Int) := of_decide_eq_true (by first | (with_reducible assumption) | assumption)
                                  obtain ⟨ad328, e328, hx328_0⟩ := Kd.at_int (Kd.R_reads' HO_3.out).2.2 x6_3 p328 q328
                                  cases e328
                                  replace p328 := eq_true p328
                                  replace q328 := eq_true q328
                                  obtain ⟨Ao37, co37, eo37⟩ := Kd.R_slice HO_5.out
                                  subst eo37
                                  go_upto_if 83 with (first | ((with_reducible refine gate_callee (f := 44) rfl ?_); refine goesL_ (some 64) rfl rfl Try.func44 (by kernel_rfl) rfl #[.slice Ao37 t323.length co37, .int .i64 (rd y319 x6_3)] rfl (by (try simp only [List.map_toArray, List.map_cons, List.map_nil]); first | done | rfl | (simp only [List.length_drop, List.length_take]; rfl)) ?_; (with_reducible refine (herbariumref13_Places.calls kj24 _ _ t323 (rd y319 x6_3) t329 _ ?side1 ?side2 A32.out).mono ?_); (case side1 => repeat (first | exact (Kd.R_reads' HO_5.out).2.2 | (with_reducible refine Kd.C_alloc ?_ _) | (with_reducible refine Kd.C_drewN ?_ _) | (with_reducible refine Kd.C_drew ?_))); (case side2 => exact (Kd.R_reads' HO_5.out).2.1); rintro e w' ⟨rfl, ⟨nd, rfl⟩⟩; refine ⟨_, rfl, ?_⟩; have p330 : 0 ≤ (x6_3 : Int) := of_decide_eq_true (by first | (with_reducible assumption) | assumption); have q330 : x6_3 < (y319.length : Int) := of_decide_eq_true (by first | (with_reducible assumption) | assumption); obtain ⟨ad330, e330, hx330_0⟩ := Kd.at_int (Kd.R_reads' HO_3.out).2.2 x6_3 p330 q330; obtain rfl : ad328 = ad330 := (by injection e330); replace p330 := eq_true p330; replace q330 := eq_true q330) | ((with_reducible refine gate_callee (f := 30) rfl ?_); refine goesL_ (some 71) rfl rfl Try.func30 (by kernel_rfl) rfl #[.slice Ao37 t323.length co37, .int .i64 (rd y319 x6_3)] rfl (by (try simp only [List.map_toArray, List.map_cons, List.map_nil]); first | done | rfl | (simp only [List.length_drop, List.length_take]; rfl)) ?_; (with_reducible refine (space_Gaps.calls kj24 _ _ t323 (rd y319 x6_3) t331 t332 _ ?side1 ?side2 A33.out).mono ?_); (case side1 => repeat (first | exact (Kd.R_reads' HO_5.out).2.2 | (with_reducible refine Kd.C_alloc ?_ _) | (with_reducible refine Kd.C_drewN ?_ _) | (with_reducible refine Kd.C_drew ?_))); (case side2 => exact (Kd.R_reads' HO_5.out).2.1); rintro e w38 ⟨v333, rfl, ho0, hb⟩; refine ⟨_, rfl, ?_⟩; have n0_ := Aside0.mk (Kd.R_below (by (with_reducible repeat (first | apply Kd.R_alloc | apply Kd.R_drewN | apply Kd.R_drew)); exact HO_3.out) hb); have n1_ := Aside0.mk (Kd.R_elder' (by (with_reducible repeat (first | apply Kd.R_alloc | apply Kd.R_drewN | apply Kd.R_drew)); exact HO_5.out) (Kd.R_base ho0) hb); have n2_ := Aside0.mk (Kd.R_lower (Kd.R_new' ho0 (Kd.R_lt (by (with_reducible repeat (first | apply Kd.R_alloc | apply Kd.R_drewN | apply Kd.R_drew)); exact HO_5.out))) (below_size (by repeat (first | (with_reducible first | exact HB.out | apply below_alloc | apply pw_below_drewN | apply below_drew1 | refine below_set ?_ GE314.out) | exact HB.out)))); have n3_ := Aside0.mk (blk_below (g := gb314) (o := .cells #[.slice (some ad322) l0_0.length c0_0, .slice A0_1 l0_1.length c0_1, .slice A0_2 l0_2.length c0_2, .slice A0_3 l0_3.length c0_3] 38 (0, 0)) (by (with_reducible repeat (first | refine blk_drewN ?_ _ | refine blk_drew ?_ | refine blk_alloc ?_ _)); exact BK314.out) hb); have n4_ := Aside0.mk (below_step (by repeat (first | (with_reducible first | exact HB.out | apply below_alloc | apply pw_below_drewN | apply below_drew1 | refine below_set ?_ GE314.out) | exact HB.out)) hb); clear HO_3; clear HO_5; clear BK314; clear HB; have HO_3 := n0_; have HO_5 := n1_; have HO334 := n2_; have BK314 := n3_; have HB := n4_; clear n0_ n1_ n2_ n3_ n4_; (try clear hb); (try clear hb2); (try clear hk); (try clear hi); (try clear ho0); have p335 : 0 ≤ (x6_3 : Int) := of_decide_eq_true (by first | (with_reducible assumption) | assumption); have q335 : x6_3 < (y319.length : Int) := of_decide_eq_true (by first | (with_reducible assumption) | assumption); obtain ⟨ad335, e335, hx335_0⟩ := Kd.at_int (Kd.R_reads' HO_3.out).2.2 x6_3 p335 q335; obtain rfl : ad328 = ad335 := (by injection e335); replace p335 := eq_true p335; replace q335 := eq_true q335) | ((with_reducible refine gate_callee (f := 29) rfl ?_); refine goesL_ (some 80) rfl rfl Try.func29 (by kernel_rfl) rfl #[.slice Ao37 t323.length co37, .int .i64 (rd y319 x6_3)] rfl (by (try simp only [List.map_toArray, List.map_cons, List.map_nil]); first | done | rfl | (simp only [List.length_drop, List.length_take]; rfl)) ?_; (with_reducible refine (space_Free.calls kj24 _ _ t323 (rd y319 x6_3) t336 t337 _ ?side1 ?side2 A34.out).mono ?_); (case side1 => repeat (first | exact (Kd.R_reads' HO_5.out).2.2 | (with_reducible refine Kd.C_alloc ?_ _) | (with_reducible refine Kd.C_drewN ?_ _) | (with_reducible refine Kd.C_drew ?_))); (case side2 => exact (Kd.R_reads' HO_5.out).2.1); rintro e w39 ⟨rfl, hb⟩; refine ⟨_, rfl, ?_⟩; have n0_ := Aside0.mk (Kd.R_below (by (with_reducible repeat (first | apply Kd.R_alloc | apply Kd.R_drewN | apply Kd.R_drew)); exact HO_3.out) hb); have n1_ := Aside0.mk (Kd.R_below (by (with_reducible repeat (first | apply Kd.R_alloc | apply Kd.R_drewN | apply Kd.R_drew)); exact HO_5.out) hb); have n2_ := Aside0.mk (Kd.R_below (by (with_reducible repeat (first | apply Kd.R_alloc | apply Kd.R_drewN | apply Kd.R_drew)); exact HO334.out) hb); have n3_ := Aside0.mk (blk_below (g := gb314) (o := .cells #[.slice (some ad322) l0_0.length c0_0, .slice A0_1 l0_1.length c0_1, .slice A0_2 l0_2.length c0_2, .slice A0_3 l0_3.length c0_3] 38 (0, 0)) (by (with_reducible repeat (first | refine blk_drewN ?_ _ | refine blk_drew ?_ | refine blk_alloc ?_ _)); exact BK314.out) hb); have n4_ := Aside0.mk (below_step (by repeat (first | (with_reducible first | exact HB.out | apply below_alloc | apply pw_below_drewN | apply below_drew1 | refine below_set ?_ GE314.out) | exact HB.out)) hb); clear HO_3; clear HO_5; clear HO334; clear BK314; clear HB; have HO_3 := n0_; have HO_5 := n1_; have HO334 := n2_; have BK314 := n3_; have HB := n4_; clear n0_ n1_ n2_ n3_ n4_; (try clear hb); (try clear hb2); (try clear hk); (try clear hi)))
                                  (try simp only [Act.put, List.setIfInBounds_toArray, List.set_cons_zero, List.set_cons_succ])
                                  go_cut [12, 13, 14] (fun v12 v13 v14 wc => ∃ (kq : Nat) (x12_34 : Int) (x13_34 : Int) (x14_34 : List (S41)), v12 = .int .i64 x12_34 ∧ v13 = .int .i64 x13_34 ∧ Aside0 (herbariumlaw13_SpaceFinds.j4 kq y319 x4_1 t323 x6_3 t329 t331 t332 t336 t337 x12_34 x13_34 x14_34 l0_0 l0_1 l0_2 l0_3 = some true) ∧ Aside0 (kq ≤ kj24) ∧ Aside0 (Kd.R (Kd.int .i64) 3 wc w.heap.size (fun _ => True) (.slice (some ad328) y319.length co36) y319) ∧ Aside0 (Kd.R k41 41 wc w.heap.size (fun k_ => some k_ ≠ (v333 : Value).ownBlock ∧ some k_ ≠ (v14 : Value).ownBlock) (.slice Ao37 t323.length co37) t323) ∧ Aside0 (Kd.R k41 41 wc w.heap.size (fun k_ => some k_ ≠ ((.slice Ao37 t323.length co37) : Value).ownBlock ∧ some k_ ≠ (v14 : Value).ownBlock) v333 t331) ∧ Aside0 (Kd.R k41 41 wc w.heap.size (fun k_ => some k_ ≠ ((.slice Ao37 t323.length co37) : Value).ownBlock ∧ some k_ ≠ (v333 : Value).ownBlock) v14 x14_34) ∧ Aside0 (wc.heap[gb314]? = some (.cells #[(.slice (some ad322) l0_0.length c0_0), (.slice A0_1 l0_1.length c0_1), (.slice A0_2 l0_2.length c0_2), (.slice A0_3 l0_3.length c0_3)] 38 (0, 0))) ∧ Aside0 (Below w.heap.size w wc))
                                  case first => as_aux_lemma =>
                                    have H := HC35.out
                                    clear HC35
                                    by_cases c40 : t329 = true
                                    · subst c40
                                      have H1 : ((herbariumref13_Gaps.f kj24 t323 (rd y319 x6_3)).bind fun t339 => ((herbariumref13_Free.f kj24 t323 (rd y319 x6_3)).bind fun t343 => (herbariumlaw13_SpaceFinds.j4 kj24 y319 x4_1 t323 x6_3 true t331 t332 t336 t337 0 t343 t339 l0_0 l0_1 l0_2 l0_3))) = some true := by rw [if_pos rfl] at H; exact H
                                      clear H
                                      have H := H1
                                      clear H1
                                      replace H := Option.bind_eq_some_iff.mp H
                                      obtain ⟨t339, A410, H⟩ := H
                                      replace H : ((herbariumref13_Free.f kj24 t323 (rd y319 x6_3)).bind fun t343 => (herbariumlaw13_SpaceFinds.j4 kj24 y319 x4_1 t323 x6_3 true t331 t332 t336 t337 0 t343 t339 l0_0 l0_1 l0_2 l0_3)) = some true := H
                                      have A41 := Aside0.mk A410
                                      clear A410
                                      replace H := Option.bind_eq_some_iff.mp H
                                      obtain ⟨t343, A420, H⟩ := H
                                      replace H : (herbariumlaw13_SpaceFinds.j4 kj24 y319 x4_1 t323 x6_3 true t331 t332 t336 t337 0 t343 t339 l0_0 l0_1 l0_2 l0_3) = some true := H
                                      have A42 := Aside0.mk A420
                                      clear A420
                                      have H' := Aside0.mk H
                                      clear H
                                      try go_wp2
                                      have n0_ := Aside0.mk (Kd.R_drew HO_3.out)
                                      have n1_ := Aside0.mk (Kd.R_drew HO_5.out)
                                      have n2_ := Aside0.mk (Kd.R_drew HO334.out)
                                      have n3_ := Aside0.mk (blk_drew BK314.out)
                                      have n4_ := Aside0.mk (below_drew1 HB.out)
                                      clear HO_3
                                      clear HO_5
                                      clear HO334
                                      clear BK314
                                      clear HB
                                      have HO_3 := n0_
                                      have HO_5 := n1_
                                      have HO334 := n2_
                                      have BK314 := n3_
                                      have HB := n4_
                                      clear n0_ n1_ n2_ n3_ n4_
                                      have p338 : 0 ≤ (x6_3 : Int) := of_decide_eq_true (by first | (with_reducible assumption) | assumption)
                                      have q338 : x6_3 < (y319.length : Int) := of_decide_eq_true (by first | (with_reducible assumption) | assumption)
                                      obtain ⟨ad338, e338, hx338_0⟩ := Kd.at_int (Kd.R_reads' HO_3.out).2.2 x6_3 p338 q338
                                      obtain rfl : ad328 = ad338 := (by injection e338)
                                      replace p338 := eq_true p338
                                      replace q338 := eq_true q338
                                      have p342 : 0 ≤ (x6_3 : Int) := of_decide_eq_true (by first | (with_reducible assumption) | assumption)
                                      have q342 : x6_3 < (y319.length : Int) := of_decide_eq_true (by first | (with_reducible assumption) | assumption)
                                      obtain ⟨ad342, e342, hx342_0⟩ := Kd.at_int (Kd.R_reads' HO_3.out).2.2 x6_3 p342 q342
                                      obtain rfl : ad328 = ad342 := (by injection e342)
                                      replace p342 := eq_true p342
                                      replace q342 := eq_true q342
                                      refine start_ (n := 15) (S := fun w' => w'.cell? (ad328.add (x6_3).toNat) = some (.int .i64 (rd y319 x6_3)) ∧ w'.cell? (ad328.add (x6_3).toNat) = some (.int .i64 (rd y319 x6_3))) (ds := []) #[false, false, false, false, false, false, false, false, false, false, false, false, false, false, false] (by kernel_rfl) rfl rfl ⟨hx338_0, hx342_0⟩ (fun hHeld => ?_); refine with_tabW herbariumlaw13_SpaceFinds.tab17 herbariumlaw13_SpaceFinds.bits17 (fun HT_ HW_ => ?_)
                                      generalize w39.drew = w43 at HO_3 HO_5 HO334 BK314 HB hx338_0 hx342_0 hHeld ⊢
                                      refine pure_ (i := 0) (N := some 84) (v := ?_) (a' := ?_) #[true, false, false, false, false, false, false, false, false, false, false, false, false, false, false] rfl rfl (any_of HT_.out (by kernel_rfl)) (fun _ _ _ h => h) (Or.inl ⟨by rfl, ?_⟩) ?_ ?_
                                      rotate_left
                                      · intro w'
                                        go_simp
                                        with_reducible rfl
                                      rotate_left
                                      · simp only [Act.put, List.setIfInBounds_toArray, List.set_cons_zero, List.set_cons_succ, i64_w, i32_w]
                                        rfl
                                      refine pure_ (i := 1) (N := some 85) (v := ?_) (a' := ?_) #[true, true, false, false, false, false, false, false, false, false, false, false, false, false, false] rfl rfl (any_of HT_.out (by kernel_rfl)) (fun _ _ _ h => h) (Or.inl ⟨by rfl, ?_⟩) ?_ ?_
                                      rotate_left
                                      · intro w'
                                        go_simp
                                        with_reducible rfl
                                      rotate_left
                                      · simp only [Act.put, List.setIfInBounds_toArray, List.set_cons_zero, List.set_cons_succ, i64_w, i32_w]
                                        rfl
                                      refine pure_ (i := 2) (N := some 86) (v := ?_) (a' := ?_) #[true, true, true, false, false, false, false, false, false, false, false, false, false, false, false] rfl rfl (any_of HT_.out (by kernel_rfl)) (fun _ _ _ h => h) (Or.inl ⟨by rfl, ?_⟩) ?_ ?_
                                      rotate_left
                                      · intro w'
                                        go_simp
                                        with_reducible rfl
                                      rotate_left
                                      · simp only [Act.put, List.setIfInBounds_toArray, List.set_cons_zero, List.set_cons_succ, i64_w, i32_w]
                                        rfl
                                      refine pure_ (i := 3) (N := some 87) (v := ?_) (a' := ?_) #[true, true, true, true, false, false, false, false, false, false, false, false, false, false, false] rfl rfl (any_of HT_.out (by kernel_rfl)) (fun _ _ _ h => h) (Or.inl ⟨by rfl, ?_⟩) ?_ ?_
                                      rotate_left
                                      · intro w'
                                        go_simp
                                        with_reducible rfl
                                      rotate_left
                                      · simp only [Act.put, List.setIfInBounds_toArray, List.set_cons_zero, List.set_cons_succ, i64_w, i32_w]
                                        rfl
                                      refine pure_ (i := 6) (N := some 90) (v := ?_) (a' := ?_) #[true, true, true, true, false, false, true, false, false, false, false, false, false, false, false] rfl rfl (any_of HT_.out (by kernel_rfl)) (fun _ _ _ h => h) (Or.inl ⟨by rfl, ?_⟩) ?_ ?_
                                      rotate_left
                                      · intro w'
                                        go_simp
                                        with_reducible rfl
                                      rotate_left
                                      · simp only [Act.put, List.setIfInBounds_toArray, List.set_cons_zero, List.set_cons_succ, i64_w, i32_w]
                                        rfl
                                      refine pure_ (i := 7) (N := some 91) (v := ?_) (a' := ?_) #[true, true, true, true, false, false, true, true, false, false, false, false, false, false, false] rfl rfl (any_of HT_.out (by kernel_rfl)) (fun _ _ _ h => h) (Or.inl ⟨by rfl, ?_⟩) ?_ ?_
                                      rotate_left
                                      · intro w'
                                        go_simp
                                        with_reducible rfl
                                      rotate_left
                                      · simp only [Act.put, List.setIfInBounds_toArray, List.set_cons_zero, List.set_cons_succ, i64_w, i32_w]
                                        rfl
                                      refine pure_ (i := 8) (N := some 92) (v := ?_) (a' := ?_) #[true, true, true, true, false, false, true, true, true, false, false, false, false, false, false] rfl rfl (any_of HT_.out (by kernel_rfl)) (fun _ _ _ h => h) (Or.inl ⟨by rfl, ?_⟩) ?_ ?_
                                      rotate_left
                                      · intro w'
                                        go_simp
                                        with_reducible rfl
                                      rotate_left
                                      · simp only [Act.put, List.setIfInBounds_toArray, List.set_cons_zero, List.set_cons_succ, i64_w, i32_w]
                                        rfl
                                      refine pure_ (i := 9) (N := some 93) (v := ?_) (a' := ?_) #[true, true, true, true, false, false, true, true, true, true, false, false, false, false, false] rfl rfl (any_of HT_.out (by kernel_rfl)) (fun _ _ _ h => h) (Or.inl ⟨by rfl, ?_⟩) ?_ ?_
                                      rotate_left
                                      · intro w'
                                        go_simp
                                        with_reducible rfl
                                      rotate_left
                                      · simp only [Act.put, List.setIfInBounds_toArray, List.set_cons_zero, List.set_cons_succ, i64_w, i32_w]
                                        rfl
                                      refine take_ (i := 4) (N := some 88) (v := ?_) (a' := ?_) #[true, true, true, true, true, false, true, true, true, true, false, false, false, false, false] rfl rfl (take_ofW HT_.out HW_.out (by kernel_rfl)) (fun _ _ _ h => h) (Or.inl ⟨by rfl, ?_⟩) hHeld ?_ ?_
                                      rotate_left
                                      · rintro w' ⟨s0, s1⟩
                                        go_simp
                                        with_reducible rfl
                                      rotate_left
                                      · simp only [Act.put, List.setIfInBounds_toArray, List.set_cons_zero, List.set_cons_succ, i64_w, i32_w]
                                        rfl
                                      refine take_ (i := 10) (N := some 94) (v := ?_) (a' := ?_) #[true, true, true, true, true, false, true, true, true, true, true, false, false, false, false] rfl rfl (take_ofW HT_.out HW_.out (by kernel_rfl)) (fun _ _ _ h => h) (Or.inl ⟨by rfl, ?_⟩) hHeld ?_ ?_
                                      rotate_left
                                      · rintro w' ⟨s0, s1⟩
                                        go_simp
                                        with_reducible rfl
                                      rotate_left
                                      · simp only [Act.put, List.setIfInBounds_toArray, List.set_cons_zero, List.set_cons_succ, i64_w, i32_w]
                                        rfl
                                      refine one_ (i := 5) (N := some 89) #[true, true, true, true, true, true, true, true, true, true, true, false, false, false, false] rfl rfl (one_of HT_.out (by kernel_rfl)) (by decide) (fun K hK => ?_)
                                      refine goes_ Try.func45 (by kernel_rfl) rfl #[.slice Ao37 t323.length co37, .int .i64 (rd y319 x6_3)] (by rfl) rfl rfl (by (try simp only [List.map_toArray, List.map_cons, List.map_nil]); first | done | rfl | (simp only [List.length_drop, List.length_take]; rfl)) ?_
                                      with_reducible refine (herbariumref13_Gaps.calls kj24 _ _ t323 (rd y319 x6_3) t339 _ ?side1 ?side2 A41.out).mono ?_
                                      (case side1 => repeat (first | exact (Kd.R_reads' HO_5.out).2.2 | (with_reducible refine Kd.C_alloc ?_ _) | (with_reducible refine Kd.C_drewN ?_ _) | (with_reducible refine Kd.C_drew ?_)))
                                      (case side2 => exact (Kd.R_reads' HO_5.out).2.1)
                                      rintro e w44 ⟨v340, rfl, ho0, hb⟩
                                      have HS0_ := (hb.cell (World.block_lt_of_cell? _ _ (hHeld.1))).trans (hHeld.1)
                                      have HS1_ := (hb.cell (World.block_lt_of_cell? _ _ (hHeld.2))).trans (hHeld.2)
                                      refine ⟨_, rfl, ?_⟩
                                      have n0_ := Aside0.mk (Kd.R_below (by (with_reducible repeat (first | apply Kd.R_alloc | apply Kd.R_drewN | apply Kd.R_drew)); exact HO_3.out) hb)
                                      have n1_ := Aside0.mk (Kd.R_elder' (by (with_reducible repeat (first | apply Kd.R_alloc | apply Kd.R_drewN | apply Kd.R_drew)); exact HO_5.out) (Kd.R_base ho0) hb)
                                      have n2_ := Aside0.mk (Kd.R_elder' (by (with_reducible repeat (first | apply Kd.R_alloc | apply Kd.R_drewN | apply Kd.R_drew)); exact HO334.out) (Kd.R_base ho0) hb)
                                      have n3_ := Aside0.mk (Kd.R_lower (Kd.R_new' (Kd.R_new' ho0 (Kd.R_lt (by (with_reducible repeat (first | apply Kd.R_alloc | apply Kd.R_drewN | apply Kd.R_drew)); exact HO_5.out))) (Kd.R_lt (by (with_reducible repeat (first | apply Kd.R_alloc | apply Kd.R_drewN | apply Kd.R_drew)); exact HO334.out))) (below_size (by repeat (first | (with_reducible first | exact HB.out | apply below_alloc | apply pw_below_drewN | apply below_drew1 | refine below_set ?_ GE314.out) | exact HB.out))))
                                      have n4_ := Aside0.mk (blk_below (g := gb314) (o := .cells #[.slice (some ad322) l0_0.length c0_0, .slice A0_1 l0_1.length c0_1, .slice A0_2 l0_2.length c0_2, .slice A0_3 l0_3.length c0_3] 38 (0, 0)) (by (with_reducible repeat (first | refine blk_drewN ?_ _ | refine blk_drew ?_ | refine blk_alloc ?_ _)); exact BK314.out) hb)
                                      have n5_ := Aside0.mk (below_step (by repeat (first | (with_reducible first | exact HB.out | apply below_alloc | apply pw_below_drewN | apply below_drew1 | refine below_set ?_ GE314.out) | exact HB.out)) hb)
                                      clear HO_3
                                      clear HO_5
                                      clear HO334
                                      clear BK314
                                      clear HB
                                      have HO_3 := n0_
                                      have HO_5 := n1_
                                      have HO334 := n2_
                                      have HO341 := n3_
                                      have BK314 := n4_
                                      have HB := n5_
                                      clear n0_ n1_ n2_ n3_ n4_ n5_
                                      (try clear hb)
                                      (try clear hb2)
                                      (try clear hk)
                                      (try clear hi)
                                      (try clear ho0)
                                      refine hK.out _ _ ⟨HS0_, HS1_⟩ (fun hHeld => ?_)
                                      clear hK K
                                      refine norm_ (a' := ?_) ?_ ?_
                                      rotate_left
                                      · show Act.put _ (some 89) _ = _
                                        simp only [Act.put, List.setIfInBounds_toArray, List.set_cons_zero, List.set_cons_succ, i64_w, i32_w]
                                        rfl
                                      refine one_ (i := 11) (N := some 95) #[true, true, true, true, true, true, true, true, true, true, true, true, false, false, false] rfl rfl (one_of HT_.out (by kernel_rfl)) (by decide) (fun K hK => ?_)
                                      refine goes_ Try.func46 (by kernel_rfl) rfl #[.slice Ao37 t323.length co37, .int .i64 (rd y319 x6_3)] (by rfl) rfl rfl (by (try simp only [List.map_toArray, List.map_cons, List.map_nil]); first | done | rfl | (simp only [List.length_drop, List.length_take]; rfl)) ?_
                                      with_reducible refine (herbariumref13_Free.calls kj24 _ _ t323 (rd y319 x6_3) t343 _ ?side1 ?side2 A42.out).mono ?_
                                      (case side1 => repeat (first | exact (Kd.R_reads' HO_5.out).2.2 | (with_reducible refine Kd.C_alloc ?_ _) | (with_reducible refine Kd.C_drewN ?_ _) | (with_reducible refine Kd.C_drew ?_)))
                                      (case side2 => exact (Kd.R_reads' HO_5.out).2.1)
                                      rintro e w45 ⟨rfl, hb⟩
                                      have HS0_ := (hb.cell (World.block_lt_of_cell? _ _ (hHeld.1))).trans (hHeld.1)
                                      have HS1_ := (hb.cell (World.block_lt_of_cell? _ _ (hHeld.2))).trans (hHeld.2)
                                      refine ⟨_, rfl, ?_⟩
                                      have n0_ := Aside0.mk (Kd.R_below (by (with_reducible repeat (first | apply Kd.R_alloc | apply Kd.R_drewN | apply Kd.R_drew)); exact HO_3.out) hb)
                                      have n1_ := Aside0.mk (Kd.R_below (by (with_reducible repeat (first | apply Kd.R_alloc | apply Kd.R_drewN | apply Kd.R_drew)); exact HO_5.out) hb)
                                      have n2_ := Aside0.mk (Kd.R_below (by (with_reducible repeat (first | apply Kd.R_alloc | apply Kd.R_drewN | apply Kd.R_drew)); exact HO334.out) hb)
                                      have n3_ := Aside0.mk (Kd.R_below (by (with_reducible repeat (first | apply Kd.R_alloc | apply Kd.R_drewN | apply Kd.R_drew)); exact HO341.out) hb)
                                      have n4_ := Aside0.mk (blk_below (g := gb314) (o := .cells #[.slice (some ad322) l0_0.length c0_0, .slice A0_1 l0_1.length c0_1, .slice A0_2 l0_2.length c0_2, .slice A0_3 l0_3.length c0_3] 38 (0, 0)) (by (with_reducible repeat (first | refine blk_drewN ?_ _ | refine blk_drew ?_ | refine blk_alloc ?_ _)); exact BK314.out) hb)
                                      have n5_ := Aside0.mk (below_step (by repeat (first | (with_reducible first | exact HB.out | apply below_alloc | apply pw_below_drewN | apply below_drew1 | refine below_set ?_ GE314.out) | exact HB.out)) hb)
                                      clear HO_3
                                      clear HO_5
                                      clear HO334
                                      clear HO341
                                      clear BK314
                                      clear HB
                                      have HO_3 := n0_
                                      have HO_5 := n1_
                                      have HO334 := n2_
                                      have HO341 := n3_
                                      have BK314 := n4_
                                      have HB := n5_
                                      clear n0_ n1_ n2_ n3_ n4_ n5_
                                      (try clear hb)
                                      (try clear hb2)
                                      (try clear hk)
                                      (try clear hi)
                                      refine hK.out _ _ ⟨HS0_, HS1_⟩ (fun hHeld => ?_)
                                      clear hK K
                                      refine norm_ (a' := ?_) ?_ ?_
                                      rotate_left
                                      · show Act.put _ (some 95) _ = _
                                        simp only [Act.put, List.setIfInBounds_toArray, List.set_cons_zero, List.set_cons_succ, i64_w, i32_w]
                                        rfl
                                      refine pure_ (i := 12) (N := some 12) (v := ?_) (a' := ?_) #[true, true, true, true, true, true, true, true, true, true, true, true, true, false, false] rfl rfl (any_of HT_.out (by kernel_rfl)) (fun _ _ _ h => h) (Or.inl ⟨by rfl, ?_⟩) ?_ ?_
                                      rotate_left
                                      · intro w'
                                        go_simp
                                        with_reducible rfl
                                      rotate_left
                                      · simp only [Act.put, List.setIfInBounds_toArray, List.set_cons_zero, List.set_cons_succ, i64_w, i32_w]
                                        rfl
                                      refine pure_ (i := 13) (N := some 14) (v := ?_) (a' := ?_) #[true, true, true, true, true, true, true, true, true, true, true, true, true, true, false] rfl rfl (any_of HT_.out (by kernel_rfl)) (fun _ _ _ h => h) (Or.inl ⟨by rfl, ?_⟩) ?_ ?_
                                      rotate_left
                                      · intro w'
                                        go_simp
                                        with_reducible rfl
                                      rotate_left
                                      · simp only [Act.put, List.setIfInBounds_toArray, List.set_cons_zero, List.set_cons_succ, i64_w, i32_w]
                                        rfl
                                      refine pure_ (i := 14) (N := some 13) (v := ?_) (a' := ?_) #[true, true, true, true, true, true, true, true, true, true, true, true, true, true, true] rfl rfl (any_of HT_.out (by kernel_rfl)) (fun _ _ _ h => h) (Or.inl ⟨by rfl, ?_⟩) ?_ ?_
                                      rotate_left
                                      · intro w'
                                        go_simp
                                        with_reducible rfl
                                      rotate_left
                                      · simp only [Act.put, List.setIfInBounds_toArray, List.set_cons_zero, List.set_cons_succ, i64_w, i32_w]
                                        rfl
                                      refine done_ (done_of HT_.out (by kernel_rfl)) ?_
                                      try go_wp2
                                      go_meet
                                      case rel => exact ⟨_, (0), (t343), (t339), (by first | rfl | (simp; done) | (simp [*]; done)), (by first | rfl | (simp; done) | (simp [*]; done)), H', ⟨by have := HK1.out; have := HJ14.out; have := HK3.out; have := HJ24.out; first | omega | exact Nat.le_refl _⟩, ⟨by (with_reducible repeat (first | apply Kd.R_alloc | apply Kd.R_drewN | apply Kd.R_drew)); exact HO_3.out⟩, ⟨by (with_reducible repeat (first | apply Kd.R_alloc | apply Kd.R_drewN | apply Kd.R_drew)); exact Kd.R_mono HO_5.out (fun _ hk => ⟨hk.1.2, hk.2⟩)⟩, ⟨by (with_reducible repeat (first | apply Kd.R_alloc | apply Kd.R_drewN | apply Kd.R_drew)); exact Kd.R_mono HO334.out (fun _ hk => ⟨hk.1.2, hk.2⟩)⟩, ⟨by (with_reducible repeat (first | apply Kd.R_alloc | apply Kd.R_drewN | apply Kd.R_drew)); exact Kd.R_mono HO341.out (fun _ hk => ⟨hk.1.2, hk.2⟩)⟩, ⟨by (with_reducible repeat (first | refine blk_drewN ?_ _ | refine blk_drew ?_ | refine blk_alloc ?_ _)); exact BK314.out⟩, ⟨by repeat (first | (with_reducible first | exact HB.out | apply below_alloc | apply pw_below_drewN | apply below_drew1 | refine below_set ?_ GE314.out) | exact HB.out)⟩⟩
                                    · replace c40 := Bool.eq_false_iff.mpr c40
                                      subst c40
                                      have H1 : (herbariumlaw13_SpaceFinds.j4 kj24 y319 x4_1 t323 x6_3 false t331 t332 t336 t337 1 0 ([] : List (S41)) l0_0 l0_1 l0_2 l0_3) = some true := by rw [if_neg (show ¬ (false = true) by decide)] at H; exact H
                                      clear H
                                      have H := H1
                                      clear H1
                                      have H' := Aside0.mk H
                                      clear H
                                      go_wp2
                                      go_meet
                                      case rel => exact ⟨_, (1), (0), (([] : List (S41))), (by first | rfl | (simp; done) | (simp [*]; done)), (by first | rfl | (simp; done) | (simp [*]; done)), H', ⟨by have := HK1.out; have := HJ14.out; have := HK3.out; have := HJ24.out; first | omega | exact Nat.le_refl _⟩, ⟨by (with_reducible repeat (first | apply Kd.R_alloc | apply Kd.R_drewN | apply Kd.R_drew)); exact HO_3.out⟩, ⟨by (with_reducible repeat (first | apply Kd.R_alloc | apply Kd.R_drewN | apply Kd.R_drew)); exact Kd.R_mono HO_5.out (fun _ hk => ⟨hk.2, (by simp [Value.ownBlock])⟩)⟩, ⟨by (with_reducible repeat (first | apply Kd.R_alloc | apply Kd.R_drewN | apply Kd.R_drew)); exact Kd.R_mono HO334.out (fun _ hk => ⟨hk.2, (by simp [Value.ownBlock])⟩)⟩, ⟨by first | exact Kd.R_nil _ _ _ _ _ | exact Kd.N_nil _ _ _ _ _ | exact Kd.V_nil _ _ _ _ _ | exact Kd.Q_nil _ _ _ _ _ | exact Kd.S_nil _ _ _ _ _⟩, ⟨by (with_reducible repeat (first | refine blk_drewN ?_ _ | refine blk_drew ?_ | refine blk_alloc ?_ _)); exact BK314.out⟩, ⟨by repeat (first | (with_reducible first | exact HB.out | apply below_alloc | apply pw_below_drewN | apply below_drew1 | refine below_set ?_ GE314.out) | exact HB.out)⟩⟩
                                  case rest => as_aux_lemma =>
                                    clear HC35
                                    try clear c1
                                    try clear c2
                                    try clear p2
                                    try clear c3
                                    try clear p3
                                    try clear q3
                                    try clear hx3
                                    try clear c4
                                    try clear c7
                                    try clear c9
                                    try clear c16
                                    try clear c16b0
                                    try clear c19
                                    try clear c20
                                    try clear c20b0
                                    try clear c21
                                    try clear c21b0
                                    try clear c26
                                    try clear c26b0
                                    try clear c29
                                    try clear c30
                                    try clear c30b0
                                    try clear c31
                                    try clear c31b0
                                    try clear c32
                                    try clear p32
                                    try clear q32
                                    try clear hx32
                                    try clear p33
                                    try clear q33
                                    try clear hx33
                                    try clear p34
                                    try clear q34
                                    try clear hx34
                                    try clear c37
                                    try clear c40
                                    try clear c44
                                    try clear c45
                                    try clear hcz13_0
                                    try clear hcz13_1
                                    try clear hcz13_2
                                    try clear hcz13_3
                                    try clear hcz17_0
                                    try clear hcz17_1
                                    try clear hcz17_2
                                    try clear hcz17_3
                                    try clear hcz18_0
                                    try clear hcz18_1
                                    try clear hcz18_2
                                    try clear hcz18_3
                                    try clear hcz23_0
                                    try clear hcz23_1
                                    try clear hcz23_2
                                    try clear hcz23_3
                                    try clear hcz5_0
                                    try clear hcz5_1
                                    try clear hcz5_2
                                    try clear hcz5_3
                                    try clear hcz9_0
                                    try clear hcz9_1
                                    try clear hcz9_2
                                    try clear hcz9_3
                                    try clear hfz13_0
                                    try clear hfz13_1
                                    try clear hfz13_2
                                    try clear hfz13_3
                                    try clear hfz17_0
                                    try clear hfz17_1
                                    try clear hfz17_2
                                    try clear hfz17_3
                                    try clear hfz18_0
                                    try clear hfz18_1
                                    try clear hfz18_2
                                    try clear hfz18_3
                                    try clear hfz23_0
                                    try clear hfz23_1
                                    try clear hfz23_2
                                    try clear hfz23_3
                                    try clear hfz5_0
                                    try clear hfz5_1
                                    try clear hfz5_2
                                    try clear hfz5_3
                                    try clear hfz9_0
                                    try clear hfz9_1
                                    try clear hfz9_2
                                    try clear hfz9_3
                                    try clear hx322_0
                                    try clear hx328_0
                                    try clear hx330_0
                                    try clear hx335_0
                                    try clear hx338_0
                                    try clear hx342_0
                                    try clear p2
                                    try clear p3
                                    try clear p322
                                    try clear p328
                                    try clear p330
                                    try clear p335
                                    try clear p338
                                    try clear p342
                                    try clear q3
                                    try clear q322
                                    try clear q328
                                    try clear q330
                                    try clear q335
                                    try clear q338
                                    try clear q342
                                    obtain ⟨kq, x12_34, x13_34, x14_34, rfl, rfl, HA, HJ34, HO_3, HO_5, HO_8, HO_14, BK314, HB⟩ := hcut
                                    cases kq with
                                    | zero => exact absurd HA.out (by simp [herbariumlaw13_SpaceFinds.j4])
                                    | succ kj34 =>
                                      have H := HA.out
                                      clear HA
                                      simp only [herbariumlaw13_SpaceFinds.j4] at H
                                      have HC46 := Aside0.mk H
                                      clear H
                                      go_upto_region 18 with (fail)
                                      go_cut [127] (fun v127 wc => ∃ (kq : Nat) (x127_45 : Bool), v127 = .bool x127_45 ∧ Aside0 (herbariumlaw13_SpaceFinds.j5 kq y319 x4_1 t323 x6_3 t329 x127_45 l0_0 l0_1 l0_2 l0_3 = some true) ∧ Aside0 (kq ≤ kj34) ∧ Aside0 (Kd.R (Kd.int .i64) 3 wc w.heap.size (fun _ => True) (.slice (some ad328) y319.length co36) y319) ∧ Aside0 (Kd.R k41 41 wc w.heap.size (fun _ => True) (.slice Ao37 t323.length co37) t323) ∧ Aside0 (wc.heap[gb314]? = some (.cells #[(.slice (some ad322) l0_0.length c0_0), (.slice A0_1 l0_1.length c0_1), (.slice A0_2 l0_2.length c0_2), (.slice A0_3 l0_3.length c0_3)] 38 (0, 0))) ∧ Aside0 (Below w.heap.size w wc))
                                      case first => as_aux_lemma =>
                                        have H := HC46.out
                                        clear HC46
                                        by_cases c47 : 0 ≤ x6_3
                                        · rw [if_pos c47] at H
                                          have c47b0 : decide (0 ≤ x6_3) = true := decide_eq_true c47
                                          clear c47
                                          (first | rw [c47b0] | (simp only [i64_w, i32_w]; rw [c47b0]) | skip)
                                          by_cases c48 : x6_3 < (y319.length : Int)
                                          · rw [if_pos c48] at H
                                            have c48b0 : decide (x6_3 < (y319.length : Int)) = true := decide_eq_true c48
                                            clear c48
                                            replace H := Option.bind_eq_some_iff.mp H
                                            obtain ⟨t345, A490, H⟩ := H
                                            replace H : ((herbariumlaw13_num.f t345).bind fun t346 => (if t346 = x12_34 then ((herbariumlaw13_num.f t332).bind fun t347 => (if t347 = x12_34 then ((herbariumlaw13_num.f t337).bind fun t348 => (if t348 = x12_34 then ((herbariumref0_EqRuns.f kj34 t331 x14_34).bind fun t349 => (if t349 = true then (herbariumlaw13_SpaceFinds.j5 kj34 y319 x4_1 t323 x6_3 t329 (t336 != x13_34) l0_0 l0_1 l0_2 l0_3) else (herbariumlaw13_SpaceFinds.j5 kj34 y319 x4_1 t323 x6_3 t329 true l0_0 l0_1 l0_2 l0_3))) else (herbariumlaw13_SpaceFinds.j5 kj34 y319 x4_1 t323 x6_3 t329 true l0_0 l0_1 l0_2 l0_3))) else (herbariumlaw13_SpaceFinds.j5 kj34 y319 x4_1 t323 x6_3 t329 true l0_0 l0_1 l0_2 l0_3))) else (herbariumlaw13_SpaceFinds.j5 kj34 y319 x4_1 t323 x6_3 t329 true l0_0 l0_1 l0_2 l0_3))) = some true := H
                                            have A49 := Aside0.mk A490
                                            clear A490
                                            replace H := Option.bind_eq_some_iff.mp H
                                            obtain ⟨t346, A500, H⟩ := H
                                            replace H : (if t346 = x12_34 then ((herbariumlaw13_num.f t332).bind fun t347 => (if t347 = x12_34 then ((herbariumlaw13_num.f t337).bind fun t348 => (if t348 = x12_34 then ((herbariumref0_EqRuns.f kj34 t331 x14_34).bind fun t349 => (if t349 = true then (herbariumlaw13_SpaceFinds.j5 kj34 y319 x4_1 t323 x6_3 t329 (t336 != x13_34) l0_0 l0_1 l0_2 l0_3) else (herbariumlaw13_SpaceFinds.j5 kj34 y319 x4_1 t323 x6_3 t329 true l0_0 l0_1 l0_2 l0_3))) else (herbariumlaw13_SpaceFinds.j5 kj34 y319 x4_1 t323 x6_3 t329 true l0_0 l0_1 l0_2 l0_3))) else (herbariumlaw13_SpaceFinds.j5 kj34 y319 x4_1 t323 x6_3 t329 true l0_0 l0_1 l0_2 l0_3))) else (herbariumlaw13_SpaceFinds.j5 kj34 y319 x4_1 t323 x6_3 t329 true l0_0 l0_1 l0_2 l0_3)) = some true := H
                                            have A50 := Aside0.mk A500
                                            clear A500
                                            by_cases c51 : t346 = x12_34
                                            · rw [if_pos c51] at H
                                              have c51b0 : (t346 == x12_34) = true := beq_iff_eq.mpr c51
                                              have c51b1 : (t346 != x12_34) = false := bne_eq_false_iff_eq.mpr c51
                                              clear c51
                                              replace H := Option.bind_eq_some_iff.mp H
                                              obtain ⟨t347, A520, H⟩ := H
                                              replace H : (if t347 = x12_34 then ((herbariumlaw13_num.f t337).bind fun t348 => (if t348 = x12_34 then ((herbariumref0_EqRuns.f kj34 t331 x14_34).bind fun t349 => (if t349 = true then (herbariumlaw13_SpaceFinds.j5 kj34 y319 x4_1 t323 x6_3 t329 (t336 != x13_34) l0_0 l0_1 l0_2 l0_3) else (herbariumlaw13_SpaceFinds.j5 kj34 y319 x4_1 t323 x6_3 t329 true l0_0 l0_1 l0_2 l0_3))) else (herbariumlaw13_SpaceFinds.j5 kj34 y319 x4_1 t323 x6_3 t329 true l0_0 l0_1 l0_2 l0_3))) else (herbariumlaw13_SpaceFinds.j5 kj34 y319 x4_1 t323 x6_3 t329 true l0_0 l0_1 l0_2 l0_3)) = some true := H
                                              have A52 := Aside0.mk A520
                                              clear A520
                                              by_cases c53 : t347 = x12_34
                                              · rw [if_pos c53] at H
                                                have c53b0 : (t347 == x12_34) = true := beq_iff_eq.mpr c53
                                                have c53b1 : (t347 != x12_34) = false := bne_eq_false_iff_eq.mpr c53
                                                clear c53
                                                replace H := Option.bind_eq_some_iff.mp H
                                                obtain ⟨t348, A540, H⟩ := H
                                                replace H : (if t348 = x12_34 then ((herbariumref0_EqRuns.f kj34 t331 x14_34).bind fun t349 => (if t349 = true then (herbariumlaw13_SpaceFinds.j5 kj34 y319 x4_1 t323 x6_3 t329 (t336 != x13_34) l0_0 l0_1 l0_2 l0_3) else (herbariumlaw13_SpaceFinds.j5 kj34 y319 x4_1 t323 x6_3 t329 true l0_0 l0_1 l0_2 l0_3))) else (herbariumlaw13_SpaceFinds.j5 kj34 y319 x4_1 t323 x6_3 t329 true l0_0 l0_1 l0_2 l0_3)) = some true := H
                                                have A54 := Aside0.mk A540
                                                clear A540
                                                by_cases c55 : t348 = x12_34
                                                · rw [if_pos c55] at H
                                                  have c55b0 : (t348 == x12_34) = true := beq_iff_eq.mpr c55
                                                  have c55b1 : (t348 != x12_34) = false := bne_eq_false_iff_eq.mpr c55
                                                  clear c55
                                                  replace H := Option.bind_eq_some_iff.mp H
                                                  obtain ⟨t349, A560, H⟩ := H
                                                  replace H : (if t349 = true then (herbariumlaw13_SpaceFinds.j5 kj34 y319 x4_1 t323 x6_3 t329 (t336 != x13_34) l0_0 l0_1 l0_2 l0_3) else (herbariumlaw13_SpaceFinds.j5 kj34 y319 x4_1 t323 x6_3 t329 true l0_0 l0_1 l0_2 l0_3)) = some true := H
                                                  have A56 := Aside0.mk A560
                                                  clear A560
                                                  by_cases c57 : t349 = true
                                                  · subst c57
                                                    have H1 : (herbariumlaw13_SpaceFinds.j5 kj34 y319 x4_1 t323 x6_3 t329 (t336 != x13_34) l0_0 l0_1 l0_2 l0_3) = some true := by rw [if_pos rfl] at H; exact H
                                                    clear H
                                                    have H := H1
                                                    clear H1
                                                    have H' := Aside0.mk H
                                                    clear H
                                                    have p344 : 0 ≤ (x6_3 : Int) := of_decide_eq_true (by first | (with_reducible assumption) | assumption)
                                                    have q344 : x6_3 < (y319.length : Int) := of_decide_eq_true (by first | (with_reducible assumption) | assumption)
                                                    obtain ⟨ad344, e344, hx344_0⟩ := Kd.at_int (Kd.R_reads' HO_3.out).2.2 x6_3 p344 q344
                                                    obtain rfl : ad328 = ad344 := (by injection e344)
                                                    replace p344 := eq_true p344
                                                    replace q344 := eq_true q344
                                                    go_wp2_with (first | ((with_reducible refine gate_callee (f := 38) rfl ?_); refine goesL_ (some 101) rfl rfl Try.func38 (by kernel_rfl) rfl #[.slice Ao37 t323.length co37, .int .i64 (rd y319 x6_3)] rfl (by (try simp only [List.map_toArray, List.map_cons, List.map_nil]); first | done | rfl | (simp only [List.length_drop, List.length_take]; rfl)) ?_; (with_reducible refine (space_Check.calls kj34 _ _ t323 (rd y319 x6_3) t345 _ ?side1 ?side2 A49.out).mono ?_); (case side1 => repeat (first | exact (Kd.R_reads' HO_5.out).2.2 | (with_reducible refine Kd.C_alloc ?_ _) | (with_reducible refine Kd.C_drewN ?_ _) | (with_reducible refine Kd.C_drew ?_))); (case side2 => exact (Kd.R_reads' HO_5.out).2.1); rintro e w58 ⟨rfl, hb⟩; refine ⟨_, rfl, ?_⟩; have n0_ := Aside0.mk (Kd.R_below (by (with_reducible repeat (first | apply Kd.R_alloc | apply Kd.R_drewN | apply Kd.R_drew)); exact HO_3.out) hb); have n1_ := Aside0.mk (Kd.R_below (by (with_reducible repeat (first | apply Kd.R_alloc | apply Kd.R_drewN | apply Kd.R_drew)); exact HO_5.out) hb); have n2_ := Aside0.mk (Kd.R_below (by (with_reducible repeat (first | apply Kd.R_alloc | apply Kd.R_drewN | apply Kd.R_drew)); exact HO_8.out) hb); have n3_ := Aside0.mk (Kd.R_below (by (with_reducible repeat (first | apply Kd.R_alloc | apply Kd.R_drewN | apply Kd.R_drew)); exact HO_14.out) hb); have n4_ := Aside0.mk (blk_below (g := gb314) (o := .cells #[.slice (some ad322) l0_0.length c0_0, .slice A0_1 l0_1.length c0_1, .slice A0_2 l0_2.length c0_2, .slice A0_3 l0_3.length c0_3] 38 (0, 0)) (by (with_reducible repeat (first | refine blk_drewN ?_ _ | refine blk_drew ?_ | refine blk_alloc ?_ _)); exact BK314.out) hb); have n5_ := Aside0.mk (below_step (by repeat (first | (with_reducible first | exact HB.out | apply below_alloc | apply pw_below_drewN | apply below_drew1 | refine below_set ?_ GE314.out) | exact HB.out)) hb); clear HO_3; clear HO_5; clear HO_8; clear HO_14; clear BK314; clear HB; have HO_3 := n0_; have HO_5 := n1_; have HO_8 := n2_; have HO_14 := n3_; have BK314 := n4_; have HB := n5_; clear n0_ n1_ n2_ n3_ n4_ n5_; (try clear hb); (try clear hb2); (try clear hk); (try clear hi)) | ((with_reducible refine gate_callee (f := 31) rfl ?_); refine goesL_ (some 102) rfl rfl Try.func31 (by kernel_rfl) rfl #[.int .i64 t345] rfl (by (try simp only [List.map_toArray, List.map_cons, List.map_nil]); first | done | rfl | (simp only [List.length_drop, List.length_take]; rfl)) ?_; (with_reducible refine (herbariumlaw13_num.calls t345 t346 _ A50.out).mono ?_); rintro e w' ⟨rfl, ⟨nd, rfl⟩⟩; refine ⟨_, rfl, ?_⟩) | (go_at_call 31; (with_reducible refine (herbariumlaw13_num.calls t332 t347 _ A52.out).mono ?_); rintro e w' ⟨rfl, ⟨nd, rfl⟩⟩) | (go_at_call 31; (with_reducible refine (herbariumlaw13_num.calls t337 t348 _ A54.out).mono ?_); rintro e w' ⟨rfl, ⟨nd, rfl⟩⟩; obtain ⟨Ao59, co59, eo59⟩ := Kd.R_slice HO_8.out; subst eo59; obtain ⟨Ao60, co60, eo60⟩ := Kd.R_slice HO_14.out; subst eo60) | (go_at_call 47; (with_reducible refine (herbariumref0_EqRuns.calls kj34 _ _ t331 _ _ x14_34 true _ ?side1 ?side2 ?side3 ?side4 A56.out).mono ?_); (case side1 => repeat (first | exact (Kd.R_reads' HO_8.out).2.2 | (with_reducible refine Kd.C_alloc ?_ _) | (with_reducible refine Kd.C_drewN ?_ _) | (with_reducible refine Kd.C_drew ?_))); (case side2 => exact (Kd.R_reads' HO_8.out).2.1); (case side3 => repeat (first | exact (Kd.R_reads' HO_14.out).2.2 | (with_reducible refine Kd.C_alloc ?_ _) | (with_reducible refine Kd.C_drewN ?_ _) | (with_reducible refine Kd.C_drew ?_))); (case side4 => exact (Kd.R_reads' HO_14.out).2.1); rintro e w' ⟨rfl, ⟨nd, rfl⟩⟩))
                                                    go_meet
                                                    case rel => exact ⟨_, ((t336 != x13_34)), (by first | rfl | (simp; done) | (simp [*]; done)), H', ⟨by have := HK1.out; have := HJ14.out; have := HK3.out; have := HJ24.out; have := HJ34.out; first | omega | exact Nat.le_refl _⟩, ⟨by (with_reducible repeat (first | apply Kd.R_alloc | apply Kd.R_drewN | apply Kd.R_drew)); exact HO_3.out⟩, ⟨by (with_reducible repeat (first | apply Kd.R_alloc | apply Kd.R_drewN | apply Kd.R_drew)); exact Kd.R_mono HO_5.out (fun _ hk => trivial)⟩, ⟨by (with_reducible repeat (first | refine blk_drewN ?_ _ | refine blk_drew ?_ | refine blk_alloc ?_ _)); exact BK314.out⟩, ⟨by repeat (first | (with_reducible first | exact HB.out | apply below_alloc | apply pw_below_drewN | apply below_drew1 | refine below_set ?_ GE314.out) | exact HB.out)⟩⟩
                                                  · replace c57 := Bool.eq_false_iff.mpr c57
                                                    subst c57
                                                    have H1 : (herbariumlaw13_SpaceFinds.j5 kj34 y319 x4_1 t323 x6_3 t329 true l0_0 l0_1 l0_2 l0_3) = some true := by rw [if_neg (show ¬ (false = true) by decide)] at H; exact H
                                                    clear H
                                                    have H := H1
                                                    clear H1
                                                    have H' := Aside0.mk H
                                                    clear H
                                                    have p344 : 0 ≤ (x6_3 : Int) := of_decide_eq_true (by first | (with_reducible assumption) | assumption)
                                                    have q344 : x6_3 < (y319.length : Int) := of_decide_eq_true (by first | (with_reducible assumption) | assumption)
                                                    obtain ⟨ad344, e344, hx344_0⟩ := Kd.at_int (Kd.R_reads' HO_3.out).2.2 x6_3 p344 q344
                                                    obtain rfl : ad328 = ad344 := (by injection e344)
                                                    replace p344 := eq_true p344
                                                    replace q344 := eq_true q344
                                                    go_wp2_with (first | ((with_reducible refine gate_callee (f := 38) rfl ?_); refine goesL_ (some 101) rfl rfl Try.func38 (by kernel_rfl) rfl #[.slice Ao37 t323.length co37, .int .i64 (rd y319 x6_3)] rfl (by (try simp only [List.map_toArray, List.map_cons, List.map_nil]); first | done | rfl | (simp only [List.length_drop, List.length_take]; rfl)) ?_; (with_reducible refine (space_Check.calls kj34 _ _ t323 (rd y319 x6_3) t345 _ ?side1 ?side2 A49.out).mono ?_); (case side1 => repeat (first | exact (Kd.R_reads' HO_5.out).2.2 | (with_reducible refine Kd.C_alloc ?_ _) | (with_reducible refine Kd.C_drewN ?_ _) | (with_reducible refine Kd.C_drew ?_))); (case side2 => exact (Kd.R_reads' HO_5.out).2.1); rintro e w61 ⟨rfl, hb⟩; refine ⟨_, rfl, ?_⟩; have n0_ := Aside0.mk (Kd.R_below (by (with_reducible repeat (first | apply Kd.R_alloc | apply Kd.R_drewN | apply Kd.R_drew)); exact HO_3.out) hb); have n1_ := Aside0.mk (Kd.R_below (by (with_reducible repeat (first | apply Kd.R_alloc | apply Kd.R_drewN | apply Kd.R_drew)); exact HO_5.out) hb); have n2_ := Aside0.mk (Kd.R_below (by (with_reducible repeat (first | apply Kd.R_alloc | apply Kd.R_drewN | apply Kd.R_drew)); exact HO_8.out) hb); have n3_ := Aside0.mk (Kd.R_below (by (with_reducible repeat (first | apply Kd.R_alloc | apply Kd.R_drewN | apply Kd.R_drew)); exact HO_14.out) hb); have n4_ := Aside0.mk (blk_below (g := gb314) (o := .cells #[.slice (some ad322) l0_0.length c0_0, .slice A0_1 l0_1.length c0_1, .slice A0_2 l0_2.length c0_2, .slice A0_3 l0_3.length c0_3] 38 (0, 0)) (by (with_reducible repeat (first | refine blk_drewN ?_ _ | refine blk_drew ?_ | refine blk_alloc ?_ _)); exact BK314.out) hb); have n5_ := Aside0.mk (below_step (by repeat (first | (with_reducible first | exact HB.out | apply below_alloc | apply pw_below_drewN | apply below_drew1 | refine below_set ?_ GE314.out) | exact HB.out)) hb); clear HO_3; clear HO_5; clear HO_8; clear HO_14; clear BK314; clear HB; have HO_3 := n0_; have HO_5 := n1_; have HO_8 := n2_; have HO_14 := n3_; have BK314 := n4_; have HB := n5_; clear n0_ n1_ n2_ n3_ n4_ n5_; (try clear hb); (try clear hb2); (try clear hk); (try clear hi)) | ((with_reducible refine gate_callee (f := 31) rfl ?_); refine goesL_ (some 102) rfl rfl Try.func31 (by kernel_rfl) rfl #[.int .i64 t345] rfl (by (try simp only [List.map_toArray, List.map_cons, List.map_nil]); first | done | rfl | (simp only [List.length_drop, List.length_take]; rfl)) ?_; (with_reducible refine (herbariumlaw13_num.calls t345 t346 _ A50.out).mono ?_); rintro e w' ⟨rfl, ⟨nd, rfl⟩⟩; refine ⟨_, rfl, ?_⟩) | (go_at_call 31; (with_reducible refine (herbariumlaw13_num.calls t332 t347 _ A52.out).mono ?_); rintro e w' ⟨rfl, ⟨nd, rfl⟩⟩) | (go_at_call 31; (with_reducible refine (herbariumlaw13_num.calls t337 t348 _ A54.out).mono ?_); rintro e w' ⟨rfl, ⟨nd, rfl⟩⟩; obtain ⟨Ao62, co62, eo62⟩ := Kd.R_slice HO_8.out; subst eo62; obtain ⟨Ao63, co63, eo63⟩ := Kd.R_slice HO_14.out; subst eo63) | (go_at_call 47; (with_reducible refine (herbariumref0_EqRuns.calls kj34 _ _ t331 _ _ x14_34 false _ ?side1 ?side2 ?side3 ?side4 A56.out).mono ?_); (case side1 => repeat (first | exact (Kd.R_reads' HO_8.out).2.2 | (with_reducible refine Kd.C_alloc ?_ _) | (with_reducible refine Kd.C_drewN ?_ _) | (with_reducible refine Kd.C_drew ?_))); (case side2 => exact (Kd.R_reads' HO_8.out).2.1); (case side3 => repeat (first | exact (Kd.R_reads' HO_14.out).2.2 | (with_reducible refine Kd.C_alloc ?_ _) | (with_reducible refine Kd.C_drewN ?_ _) | (with_reducible refine Kd.C_drew ?_))); (case side4 => exact (Kd.R_reads' HO_14.out).2.1); rintro e w' ⟨rfl, ⟨nd, rfl⟩⟩))
                                                    go_meet
                                                    case rel => exact ⟨_, (true), (by first | rfl | (simp; done) | (simp [*]; done)), H', ⟨by have := HK1.out; have := HJ14.out; have := HK3.out; have := HJ24.out; have := HJ34.out; first | omega | exact Nat.le_refl _⟩, ⟨by (with_reducible repeat (first | apply Kd.R_alloc | apply Kd.R_drewN | apply Kd.R_drew)); exact HO_3.out⟩, ⟨by (with_reducible repeat (first | apply Kd.R_alloc | apply Kd.R_drewN | apply Kd.R_drew)); exact Kd.R_mono HO_5.out (fun _ hk => trivial)⟩, ⟨by (with_reducible repeat (first | refine blk_drewN ?_ _ | refine blk_drew ?_ | refine blk_alloc ?_ _)); exact BK314.out⟩, ⟨by repeat (first | (with_reducible first | exact HB.out | apply below_alloc | apply pw_below_drewN | apply below_drew1 | refine below_set ?_ GE314.out) | exact HB.out)⟩⟩
                                                · rw [if_neg c55] at H
                                                  have c55b0 : (t348 == x12_34) = false := beq_eq_false_iff_ne.mpr c55
                                                  have c55b1 : (t348 != x12_34) = true := bne_iff_ne.mpr c55
                                                  have H' := Aside0.mk H
                                                  clear H
                                                  have p344 : 0 ≤ (x6_3 : Int) := of_decide_eq_true (by first | (with_reducible assumption) | assumption)
                                                  have q344 : x6_3 < (y319.length : Int) := of_decide_eq_true (by first | (with_reducible assumption) | assumption)
                                                  obtain ⟨ad344, e344, hx344_0⟩ := Kd.at_int (Kd.R_reads' HO_3.out).2.2 x6_3 p344 q344
                                                  obtain rfl : ad328 = ad344 := (by injection e344)
                                                  replace p344 := eq_true p344
                                                  replace q344 := eq_true q344
                                                  go_wp2_with (first | ((with_reducible refine gate_callee (f := 38) rfl ?_); refine goesL_ (some 101) rfl rfl Try.func38 (by kernel_rfl) rfl #[.slice Ao37 t323.length co37, .int .i64 (rd y319 x6_3)] rfl (by (try simp only [List.map_toArray, List.map_cons, List.map_nil]); first | done | rfl | (simp only [List.length_drop, List.length_take]; rfl)) ?_; (with_reducible refine (space_Check.calls kj34 _ _ t323 (rd y319 x6_3) t345 _ ?side1 ?side2 A49.out).mono ?_); (case side1 => repeat (first | exact (Kd.R_reads' HO_5.out).2.2 | (with_reducible refine Kd.C_alloc ?_ _) | (with_reducible refine Kd.C_drewN ?_ _) | (with_reducible refine Kd.C_drew ?_))); (case side2 => exact (Kd.R_reads' HO_5.out).2.1); rintro e w64 ⟨rfl, hb⟩; refine ⟨_, rfl, ?_⟩; have n0_ := Aside0.mk (Kd.R_below (by (with_reducible repeat (first | apply Kd.R_alloc | apply Kd.R_drewN | apply Kd.R_drew)); exact HO_3.out) hb); have n1_ := Aside0.mk (Kd.R_below (by (with_reducible repeat (first | apply Kd.R_alloc | apply Kd.R_drewN | apply Kd.R_drew)); exact HO_5.out) hb); have n2_ := Aside0.mk (Kd.R_below (by (with_reducible repeat (first | apply Kd.R_alloc | apply Kd.R_drewN | apply Kd.R_drew)); exact HO_8.out) hb); have n3_ := Aside0.mk (Kd.R_below (by (with_reducible repeat (first | apply Kd.R_alloc | apply Kd.R_drewN | apply Kd.R_drew)); exact HO_14.out) hb); have n4_ := Aside0.mk (blk_below (g := gb314) (o := .cells #[.slice (some ad322) l0_0.length c0_0, .slice A0_1 l0_1.length c0_1, .slice A0_2 l0_2.length c0_2, .slice A0_3 l0_3.length c0_3] 38 (0, 0)) (by (with_reducible repeat (first | refine blk_drewN ?_ _ | refine blk_drew ?_ | refine blk_alloc ?_ _)); exact BK314.out) hb); have n5_ := Aside0.mk (below_step (by repeat (first | (with_reducible first | exact HB.out | apply below_alloc | apply pw_below_drewN | apply below_drew1 | refine below_set ?_ GE314.out) | exact HB.out)) hb); clear HO_3; clear HO_5; clear HO_8; clear HO_14; clear BK314; clear HB; have HO_3 := n0_; have HO_5 := n1_; have HO_8 := n2_; have HO_14 := n3_; have BK314 := n4_; have HB := n5_; clear n0_ n1_ n2_ n3_ n4_ n5_; (try clear hb); (try clear hb2); (try clear hk); (try clear hi)) | ((with_reducible refine gate_callee (f := 31) rfl ?_); refine goesL_ (some 102) rfl rfl Try.func31 (by kernel_rfl) rfl #[.int .i64 t345] rfl (by (try simp only [List.map_toArray, List.map_cons, List.map_nil]); first | done | rfl | (simp only [List.length_drop, List.length_take]; rfl)) ?_; (with_reducible refine (herbariumlaw13_num.calls t345 t346 _ A50.out).mono ?_); rintro e w' ⟨rfl, ⟨nd, rfl⟩⟩; refine ⟨_, rfl, ?_⟩) | (go_at_call 31; (with_reducible refine (herbariumlaw13_num.calls t332 t347 _ A52.out).mono ?_); rintro e w' ⟨rfl, ⟨nd, rfl⟩⟩) | (go_at_call 31; (with_reducible refine (herbariumlaw13_num.calls t337 t348 _ A54.out).mono ?_); rintro e w' ⟨rfl, ⟨nd, rfl⟩⟩))
                                                  go_meet
                                                  case rel => exact ⟨_, (true), (by first | rfl | (simp; done) | (simp [*]; done)), H', ⟨by have := HK1.out; have := HJ14.out; have := HK3.out; have := HJ24.out; have := HJ34.out; first | omega | exact Nat.le_refl _⟩, ⟨by (with_reducible repeat (first | apply Kd.R_alloc | apply Kd.R_drewN | apply Kd.R_drew)); exact HO_3.out⟩, ⟨by (with_reducible repeat (first | apply Kd.R_alloc | apply Kd.R_drewN | apply Kd.R_drew)); exact Kd.R_mono HO_5.out (fun _ hk => trivial)⟩, ⟨by (with_reducible repeat (first | refine blk_drewN ?_ _ | refine blk_drew ?_ | refine blk_alloc ?_ _)); exact BK314.out⟩, ⟨by repeat (first | (with_reducible first | exact HB.out | apply below_alloc | apply pw_below_drewN | apply below_drew1 | refine below_set ?_ GE314.out) | exact HB.out)⟩⟩
                                              · rw [if_neg c53] at H
                                                have c53b0 : (t347 == x12_34) = false := beq_eq_false_iff_ne.mpr c53
                                                have c53b1 : (t347 != x12_34) = true := bne_iff_ne.mpr c53
                                                have H' := Aside0.mk H
                                                clear H
                                                have p344 : 0 ≤ (x6_3 : Int) := of_decide_eq_true (by first | (with_reducible assumption) | assumption)
                                                have q344 : x6_3 < (y319.length : Int) := of_decide_eq_true (by first | (with_reducible assumption) | assumption)
                                                obtain ⟨ad344, e344, hx344_0⟩ := Kd.at_int (Kd.R_reads' HO_3.out).2.2 x6_3 p344 q344
                                                obtain rfl : ad328 = ad344 := (by injection e344)
                                                replace p344 := eq_true p344
                                                replace q344 := eq_true q344
                                                go_wp2_with (first | ((with_reducible refine gate_callee (f := 38) rfl ?_); refine goesL_ (some 101) rfl rfl Try.func38 (by kernel_rfl) rfl #[.slice Ao37 t323.length co37, .int .i64 (rd y319 x6_3)] rfl (by (try simp only [List.map_toArray, List.map_cons, List.map_nil]); first | done | rfl | (simp only [List.length_drop, List.length_take]; rfl)) ?_; (with_reducible refine (space_Check.calls kj34 _ _ t323 (rd y319 x6_3) t345 _ ?side1 ?side2 A49.out).mono ?_); (case side1 => repeat (first | exact (Kd.R_reads' HO_5.out).2.2 | (with_reducible refine Kd.C_alloc ?_ _) | (with_reducible refine Kd.C_drewN ?_ _) | (with_reducible refine Kd.C_drew ?_))); (case side2 => exact (Kd.R_reads' HO_5.out).2.1); rintro e w65 ⟨rfl, hb⟩; refine ⟨_, rfl, ?_⟩; have n0_ := Aside0.mk (Kd.R_below (by (with_reducible repeat (first | apply Kd.R_alloc | apply Kd.R_drewN | apply Kd.R_drew)); exact HO_3.out) hb); have n1_ := Aside0.mk (Kd.R_below (by (with_reducible repeat (first | apply Kd.R_alloc | apply Kd.R_drewN | apply Kd.R_drew)); exact HO_5.out) hb); have n2_ := Aside0.mk (Kd.R_below (by (with_reducible repeat (first | apply Kd.R_alloc | apply Kd.R_drewN | apply Kd.R_drew)); exact HO_8.out) hb); have n3_ := Aside0.mk (Kd.R_below (by (with_reducible repeat (first | apply Kd.R_alloc | apply Kd.R_drewN | apply Kd.R_drew)); exact HO_14.out) hb); have n4_ := Aside0.mk (blk_below (g := gb314) (o := .cells #[.slice (some ad322) l0_0.length c0_0, .slice A0_1 l0_1.length c0_1, .slice A0_2 l0_2.length c0_2, .slice A0_3 l0_3.length c0_3] 38 (0, 0)) (by (with_reducible repeat (first | refine blk_drewN ?_ _ | refine blk_drew ?_ | refine blk_alloc ?_ _)); exact BK314.out) hb); have n5_ := Aside0.mk (below_step (by repeat (first | (with_reducible first | exact HB.out | apply below_alloc | apply pw_below_drewN | apply below_drew1 | refine below_set ?_ GE314.out) | exact HB.out)) hb); clear HO_3; clear HO_5; clear HO_8; clear HO_14; clear BK314; clear HB; have HO_3 := n0_; have HO_5 := n1_; have HO_8 := n2_; have HO_14 := n3_; have BK314 := n4_; have HB := n5_; clear n0_ n1_ n2_ n3_ n4_ n5_; (try clear hb); (try clear hb2); (try clear hk); (try clear hi)) | ((with_reducible refine gate_callee (f := 31) rfl ?_); refine goesL_ (some 102) rfl rfl Try.func31 (by kernel_rfl) rfl #[.int .i64 t345] rfl (by (try simp only [List.map_toArray, List.map_cons, List.map_nil]); first | done | rfl | (simp only [List.length_drop, List.length_take]; rfl)) ?_; (with_reducible refine (herbariumlaw13_num.calls t345 t346 _ A50.out).mono ?_); rintro e w' ⟨rfl, ⟨nd, rfl⟩⟩; refine ⟨_, rfl, ?_⟩) | (go_at_call 31; (with_reducible refine (herbariumlaw13_num.calls t332 t347 _ A52.out).mono ?_); rintro e w' ⟨rfl, ⟨nd, rfl⟩⟩))
                                                go_meet
                                                case rel => exact ⟨_, (true), (by first | rfl | (simp; done) | (simp [*]; done)), H', ⟨by have := HK1.out; have := HJ14.out; have := HK3.out; have := HJ24.out; have := HJ34.out; first | omega | exact Nat.le_refl _⟩, ⟨by (with_reducible repeat (first | apply Kd.R_alloc | apply Kd.R_drewN | apply Kd.R_drew)); exact HO_3.out⟩, ⟨by (with_reducible repeat (first | apply Kd.R_alloc | apply Kd.R_drewN | apply Kd.R_drew)); exact Kd.R_mono HO_5.out (fun _ hk => trivial)⟩, ⟨by (with_reducible repeat (first | refine blk_drewN ?_ _ | refine blk_drew ?_ | refine blk_alloc ?_ _)); exact BK314.out⟩, ⟨by repeat (first | (with_reducible first | exact HB.out | apply below_alloc | apply pw_below_drewN | apply below_drew1 | refine below_set ?_ GE314.out) | exact HB.out)⟩⟩
                                            · rw [if_neg c51] at H
                                              have c51b0 : (t346 == x12_34) = false := beq_eq_false_iff_ne.mpr c51
                                              have c51b1 : (t346 != x12_34) = true := bne_iff_ne.mpr c51
                                              have H' := Aside0.mk H
                                              clear H
                                              have p344 : 0 ≤ (x6_3 : Int) := of_decide_eq_true (by first | (with_reducible assumption) | assumption)
                                              have q344 : x6_3 < (y319.length : Int) := of_decide_eq_true (by first | (with_reducible assumption) | assumption)
                                              obtain ⟨ad344, e344, hx344_0⟩ := Kd.at_int (Kd.R_reads' HO_3.out).2.2 x6_3 p344 q344
                                              obtain rfl : ad328 = ad344 := (by injection e344)
                                              replace p344 := eq_true p344
                                              replace q344 := eq_true q344
                                              go_wp2_with (first | ((with_reducible refine gate_callee (f := 38) rfl ?_); refine goesL_ (some 101) rfl rfl Try.func38 (by kernel_rfl) rfl #[.slice Ao37 t323.length co37, .int .i64 (rd y319 x6_3)] rfl (by (try simp only [List.map_toArray, List.map_cons, List.map_nil]); first | done | rfl | (simp only [List.length_drop, List.length_take]; rfl)) ?_; (with_reducible refine (space_Check.calls kj34 _ _ t323 (rd y319 x6_3) t345 _ ?side1 ?side2 A49.out).mono ?_); (case side1 => repeat (first | exact (Kd.R_reads' HO_5.out).2.2 | (with_reducible refine Kd.C_alloc ?_ _) | (with_reducible refine Kd.C_drewN ?_ _) | (with_reducible refine Kd.C_drew ?_))); (case side2 => exact (Kd.R_reads' HO_5.out).2.1); rintro e w66 ⟨rfl, hb⟩; refine ⟨_, rfl, ?_⟩; have n0_ := Aside0.mk (Kd.R_below (by (with_reducible repeat (first | apply Kd.R_alloc | apply Kd.R_drewN | apply Kd.R_drew)); exact HO_3.out) hb); have n1_ := Aside0.mk (Kd.R_below (by (with_reducible repeat (first | apply Kd.R_alloc | apply Kd.R_drewN | apply Kd.R_drew)); exact HO_5.out) hb); have n2_ := Aside0.mk (Kd.R_below (by (with_reducible repeat (first | apply Kd.R_alloc | apply Kd.R_drewN | apply Kd.R_drew)); exact HO_8.out) hb); have n3_ := Aside0.mk (Kd.R_below (by (with_reducible repeat (first | apply Kd.R_alloc | apply Kd.R_drewN | apply Kd.R_drew)); exact HO_14.out) hb); have n4_ := Aside0.mk (blk_below (g := gb314) (o := .cells #[.slice (some ad322) l0_0.length c0_0, .slice A0_1 l0_1.length c0_1, .slice A0_2 l0_2.length c0_2, .slice A0_3 l0_3.length c0_3] 38 (0, 0)) (by (with_reducible repeat (first | refine blk_drewN ?_ _ | refine blk_drew ?_ | refine blk_alloc ?_ _)); exact BK314.out) hb); have n5_ := Aside0.mk (below_step (by repeat (first | (with_reducible first | exact HB.out | apply below_alloc | apply pw_below_drewN | apply below_drew1 | refine below_set ?_ GE314.out) | exact HB.out)) hb); clear HO_3; clear HO_5; clear HO_8; clear HO_14; clear BK314; clear HB; have HO_3 := n0_; have HO_5 := n1_; have HO_8 := n2_; have HO_14 := n3_; have BK314 := n4_; have HB := n5_; clear n0_ n1_ n2_ n3_ n4_ n5_; (try clear hb); (try clear hb2); (try clear hk); (try clear hi)) | ((with_reducible refine gate_callee (f := 31) rfl ?_); refine goesL_ (some 102) rfl rfl Try.func31 (by kernel_rfl) rfl #[.int .i64 t345] rfl (by (try simp only [List.map_toArray, List.map_cons, List.map_nil]); first | done | rfl | (simp only [List.length_drop, List.length_take]; rfl)) ?_; (with_reducible refine (herbariumlaw13_num.calls t345 t346 _ A50.out).mono ?_); rintro e w' ⟨rfl, ⟨nd, rfl⟩⟩; refine ⟨_, rfl, ?_⟩))
                                              go_meet
                                              case rel => exact ⟨_, (true), (by first | rfl | (simp; done) | (simp [*]; done)), H', ⟨by have := HK1.out; have := HJ14.out; have := HK3.out; have := HJ24.out; have := HJ34.out; first | omega | exact Nat.le_refl _⟩, ⟨by (with_reducible repeat (first | apply Kd.R_alloc | apply Kd.R_drewN | apply Kd.R_drew)); exact HO_3.out⟩, ⟨by (with_reducible repeat (first | apply Kd.R_alloc | apply Kd.R_drewN | apply Kd.R_drew)); exact Kd.R_mono HO_5.out (fun _ hk => trivial)⟩, ⟨by (with_reducible repeat (first | refine blk_drewN ?_ _ | refine blk_drew ?_ | refine blk_alloc ?_ _)); exact BK314.out⟩, ⟨by repeat (first | (with_reducible first | exact HB.out | apply below_alloc | apply pw_below_drewN | apply below_drew1 | refine below_set ?_ GE314.out) | exact HB.out)⟩⟩
                                          · rw [if_neg c48] at H
                                            exact absurd H (by simp)
                                        · rw [if_neg c47] at H
                                          exact absurd H (by simp)
                                      case rest => as_aux_lemma =>
                                        clear HC46
                                        try clear c1
                                        try clear c2
                                        try clear p2
                                        try clear c3
                                        try clear p3
                                        try clear q3
                                        try clear hx3
                                        try clear c4
                                        try clear c5
                                        try clear c7
                                        try clear c9
                                        try clear c16
                                        try clear c16b0
                                        try clear c19
                                        try clear c20
                                        try clear c20b0
                                        try clear c21
                                        try clear c21b0
                                        try clear c26
                                        try clear c26b0
                                        try clear c29
                                        try clear c30
                                        try clear c30b0
                                        try clear c31
                                        try clear c31b0
                                        try clear c32
                                        try clear p32
                                        try clear q32
                                        try clear hx32
                                        try clear p33
                                        try clear q33
                                        try clear hx33
                                        try clear p34
                                        try clear q34
                                        try clear hx34
                                        try clear c37
                                        try clear c38
                                        try clear c40
                                        try clear c44
                                        try clear c45
                                        try clear c46
                                        try clear c47
                                        try clear c47b0
                                        try clear c48
                                        try clear c48b0
                                        try clear c51
                                        try clear c51b0
                                        try clear c51b1
                                        try clear c53
                                        try clear c53b0
                                        try clear c53b1
                                        try clear c55
                                        try clear c55b0
                                        try clear c55b1
                                        try clear c57
                                        try clear hcz13_0
                                        try clear hcz13_1
                                        try clear hcz13_2
                                        try clear hcz13_3
                                        try clear hcz17_0
                                        try clear hcz17_1
                                        try clear hcz17_2
                                        try clear hcz17_3
                                        try clear hcz18_0
                                        try clear hcz18_1
                                        try clear hcz18_2
                                        try clear hcz18_3
                                        try clear hcz23_0
                                        try clear hcz23_1
                                        try clear hcz23_2
                                        try clear hcz23_3
                                        try clear hcz5_0
                                        try clear hcz5_1
                                        try clear hcz5_2
                                        try clear hcz5_3
                                        try clear hcz9_0
                                        try clear hcz9_1
                                        try clear hcz9_2
                                        try clear hcz9_3
                                        try clear hfz13_0
                                        try clear hfz13_1
                                        try clear hfz13_2
                                        try clear hfz13_3
                                        try clear hfz17_0
                                        try clear hfz17_1
                                        try clear hfz17_2
                                        try clear hfz17_3
                                        try clear hfz18_0
                                        try clear hfz18_1
                                        try clear hfz18_2
                                        try clear hfz18_3
                                        try clear hfz23_0
                                        try clear hfz23_1
                                        try clear hfz23_2
                                        try clear hfz23_3
                                        try clear hfz5_0
                                        try clear hfz5_1
                                        try clear hfz5_2
                                        try clear hfz5_3
                                        try clear hfz9_0
                                        try clear hfz9_1
                                        try clear hfz9_2
                                        try clear hfz9_3
                                        try clear hx322_0
                                        try clear hx328_0
                                        try clear hx330_0
                                        try clear hx335_0
                                        try clear hx338_0
                                        try clear hx342_0
                                        try clear hx344_0
                                        try clear p2
                                        try clear p3
                                        try clear p32
                                        try clear p322
                                        try clear p328
                                        try clear p33
                                        try clear p330
                                        try clear p335
                                        try clear p338
                                        try clear p34
                                        try clear p342
                                        try clear p344
                                        try clear q3
                                        try clear q32
                                        try clear q322
                                        try clear q328
                                        try clear q33
                                        try clear q330
                                        try clear q335
                                        try clear q338
                                        try clear q34
                                        try clear q342
                                        try clear q344
                                        obtain ⟨kq, x127_45, rfl, HA, HJ45, HO_3, HO_5, BK314, HB⟩ := hcut
                                        cases kq with
                                        | zero => exact absurd HA.out (by simp [herbariumlaw13_SpaceFinds.j5])
                                        | succ kj45 =>
                                          have H := HA.out
                                          clear HA
                                          simp only [herbariumlaw13_SpaceFinds.j5] at H
                                          by_cases c67 : x127_45 = true
                                          · subst c67
                                            have H1 : (some false) = some true := by rw [if_pos rfl] at H; exact H
                                            clear H
                                            have H := H1
                                            clear H1
                                            exact absurd (Option.some.inj H) (by decide)
                                          · replace c67 := Bool.eq_false_iff.mpr c67
                                            subst c67
                                            have H1 : (herbariumlaw13_SpaceFinds.l2 kj45 y319 x4_1 t323 x6_3 t329 (-1) l0_0 l0_1 l0_2 l0_3) = some true := by rw [if_neg (show ¬ (false = true) by decide)] at H; exact H
                                            clear H
                                            have H := H1
                                            clear H1
                                            have H' := Aside0.mk H
                                            clear H
                                            go_wp2
                                            go_loopg [15] kj45 (fun kq v15 w' => ∃ (x15_7 : Int), v15 = .int .i64 x15_7 ∧ Aside0 (herbariumlaw13_SpaceFinds.l2 kq y319 x4_1 t323 x6_3 t329 x15_7 l0_0 l0_1 l0_2 l0_3 = some true) ∧ Aside0 (kq ≤ kj45) ∧ Aside0 (Kd.R (Kd.int .i64) 3 w' w.heap.size (fun _ => True) (.slice (some ad328) y319.length co36) y319) ∧ Aside0 (Kd.R k41 41 w' w.heap.size (fun _ => True) (.slice Ao37 t323.length co37) t323) ∧ Aside0 (w'.heap[gb314]? = some (.cells #[(.slice (some ad322) l0_0.length c0_0), (.slice A0_1 l0_1.length c0_1), (.slice A0_2 l0_2.length c0_2), (.slice A0_3 l0_3.length c0_3)] 38 (0, 0))) ∧ Aside0 (Below w.heap.size w w'))
                                            case atStart => exact ⟨((-1)), (by first | rfl | (simp; done) | (simp [*]; done)), H', ⟨Nat.le_refl _⟩, ⟨by (with_reducible repeat (first | apply Kd.R_alloc | apply Kd.R_drewN | apply Kd.R_drew)); exact HO_3.out⟩, ⟨by (with_reducible repeat (first | apply Kd.R_alloc | apply Kd.R_drewN | apply Kd.R_drew)); exact HO_5.out⟩, ⟨by (with_reducible repeat (first | refine blk_drewN ?_ _ | refine blk_drew ?_ | refine blk_alloc ?_ _)); exact BK314.out⟩, ⟨by repeat (first | (with_reducible first | exact HB.out | apply below_alloc | apply pw_below_drewN | apply below_drew1 | refine below_set ?_ GE314.out) | exact HB.out)⟩⟩
                                            case round => as_aux_lemma =>
                                              clear H'
                                              try clear c1
                                              try clear c2
                                              try clear p2
                                              try clear c3
                                              try clear p3
                                              try clear q3
                                              try clear hx3
                                              try clear c4
                                              try clear c5
                                              try clear c6
                                              try clear c7
                                              try clear c9
                                              try clear c16
                                              try clear c16b0
                                              try clear c19
                                              try clear c20
                                              try clear c20b0
                                              try clear c21
                                              try clear c21b0
                                              try clear c26
                                              try clear c26b0
                                              try clear c29
                                              try clear c30
                                              try clear c30b0
                                              try clear c31
                                              try clear c31b0
                                              try clear c32
                                              try clear p32
                                              try clear q32
                                              try clear hx32
                                              try clear p33
                                              try clear q33
                                              try clear hx33
                                              try clear p34
                                              try clear q34
                                              try clear hx34
                                              try clear c37
                                              try clear c38
                                              try clear c40
                                              try clear c44
                                              try clear c45
                                              try clear c46
                                              try clear c47
                                              try clear c47b0
                                              try clear c48
                                              try clear c48b0
                                              try clear c51
                                              try clear c51b0
                                              try clear c51b1
                                              try clear c53
                                              try clear c53b0
                                              try clear c53b1
                                              try clear c55
                                              try clear c55b0
                                              try clear c55b1
                                              try clear c57
                                              try clear c67
                                              try clear hcz13_0
                                              try clear hcz13_1
                                              try clear hcz13_2
                                              try clear hcz13_3
                                              try clear hcz17_0
                                              try clear hcz17_1
                                              try clear hcz17_2
                                              try clear hcz17_3
                                              try clear hcz18_0
                                              try clear hcz18_1
                                              try clear hcz18_2
                                              try clear hcz18_3
                                              try clear hcz23_0
                                              try clear hcz23_1
                                              try clear hcz23_2
                                              try clear hcz23_3
                                              try clear hcz5_0
                                              try clear hcz5_1
                                              try clear hcz5_2
                                              try clear hcz5_3
                                              try clear hcz9_0
                                              try clear hcz9_1
                                              try clear hcz9_2
                                              try clear hcz9_3
                                              try clear hfz13_0
                                              try clear hfz13_1
                                              try clear hfz13_2
                                              try clear hfz13_3
                                              try clear hfz17_0
                                              try clear hfz17_1
                                              try clear hfz17_2
                                              try clear hfz17_3
                                              try clear hfz18_0
                                              try clear hfz18_1
                                              try clear hfz18_2
                                              try clear hfz18_3
                                              try clear hfz23_0
                                              try clear hfz23_1
                                              try clear hfz23_2
                                              try clear hfz23_3
                                              try clear hfz5_0
                                              try clear hfz5_1
                                              try clear hfz5_2
                                              try clear hfz5_3
                                              try clear hfz9_0
                                              try clear hfz9_1
                                              try clear hfz9_2
                                              try clear hfz9_3
                                              try clear hx322_0
                                              try clear hx328_0
                                              try clear hx330_0
                                              try clear hx335_0
                                              try clear hx338_0
                                              try clear hx342_0
                                              try clear hx344_0
                                              try clear p2
                                              try clear p3
                                              try clear p32
                                              try clear p322
                                              try clear p328
                                              try clear p33
                                              try clear p330
                                              try clear p335
                                              try clear p338
                                              try clear p34
                                              try clear p342
                                              try clear p344
                                              try clear q3
                                              try clear q32
                                              try clear q322
                                              try clear q328
                                              try clear q33
                                              try clear q330
                                              try clear q335
                                              try clear q338
                                              try clear q34
                                              try clear q342
                                              try clear q344
                                              obtain ⟨x15_7, rfl, HA, HK7, HO_3, HO_5, BK314, HB⟩ := hrel
                                              cases gk with
                                              | zero => exact absurd HA.out (by simp [herbariumlaw13_SpaceFinds.l2])
                                              | succ k7 =>
                                                have H := HA.out
                                                clear HA
                                                simp only [herbariumlaw13_SpaceFinds.l2] at H
                                                by_cases c68 : x15_7 < 9
                                                · rw [if_pos c68] at H
                                                  have c68b0 : decide (x15_7 < 9) = true := decide_eq_true c68
                                                  clear c68
                                                  by_cases c69 : 0 ≤ x6_3
                                                  · rw [if_pos c69] at H
                                                    have c69b0 : decide (0 ≤ x6_3) = true := decide_eq_true c69
                                                    clear c69
                                                    by_cases c70 : x6_3 < (y319.length : Int)
                                                    · rw [if_pos c70] at H
                                                      have c70b0 : decide (x6_3 < (y319.length : Int)) = true := decide_eq_true c70
                                                      clear c70
                                                      replace H := Option.bind_eq_some_iff.mp H
                                                      obtain ⟨⟨t351, t352⟩, A710, H⟩ := H
                                                      replace H : (if t329 = true then ((herbariumref0_Between.f x15_7 1 100).bind fun t353 => (herbariumlaw13_SpaceFinds.j7 k7 y319 x4_1 t323 x6_3 t329 x15_7 t351 t352 1 0 t353 l0_0 l0_1 l0_2 l0_3)) else (herbariumlaw13_SpaceFinds.j7 k7 y319 x4_1 t323 x6_3 t329 x15_7 t351 t352 1 0 false l0_0 l0_1 l0_2 l0_3)) = some true := H
                                                      have A71 := Aside0.mk A710
                                                      clear A710
                                                      have HC72 := Aside0.mk H
                                                      clear H
                                                      have p350 : 0 ≤ (x6_3 : Int) := of_decide_eq_true (by first | (with_reducible assumption) | assumption)
                                                      have q350 : x6_3 < (y319.length : Int) := of_decide_eq_true (by first | (with_reducible assumption) | assumption)
                                                      obtain ⟨ad350, e350, hx350_0⟩ := Kd.at_int (Kd.R_reads' HO_3.out).2.2 x6_3 p350 q350
                                                      obtain rfl : ad328 = ad350 := (by injection e350)
                                                      replace p350 := eq_true p350
                                                      replace q350 := eq_true q350
                                                      go_upto_region 25 with (first | ((with_reducible refine gate_callee (f := 28) rfl ?_); refine goesL_ (some 139) rfl rfl Try.func28 (by kernel_rfl) rfl #[.slice Ao37 t323.length co37, .int .i64 (rd y319 x6_3), .int .i64 x15_7] rfl (by (try simp only [List.map_toArray, List.map_cons, List.map_nil]); first | done | rfl | (simp only [List.length_drop, List.length_take]; rfl)) ?_; (with_reducible refine (space_Find.calls k7 _ _ t323 (rd y319 x6_3) x15_7 t351 t352 _ ?side1 ?side2 A71.out).mono ?_); (case side1 => repeat (first | exact (Kd.R_reads' HO_5.out).2.2 | (with_reducible refine Kd.C_alloc ?_ _) | (with_reducible refine Kd.C_drewN ?_ _) | (with_reducible refine Kd.C_drew ?_))); (case side2 => exact (Kd.R_reads' HO_5.out).2.1); rintro e w73 ⟨rfl, hb⟩; refine ⟨_, rfl, ?_⟩; have n0_ := Aside0.mk (Kd.R_below (by (with_reducible repeat (first | apply Kd.R_alloc | apply Kd.R_drewN | apply Kd.R_drew)); exact HO_3.out) hb); have n1_ := Aside0.mk (Kd.R_below (by (with_reducible repeat (first | apply Kd.R_alloc | apply Kd.R_drewN | apply Kd.R_drew)); exact HO_5.out) hb); have n2_ := Aside0.mk (blk_below (g := gb314) (o := .cells #[.slice (some ad322) l0_0.length c0_0, .slice A0_1 l0_1.length c0_1, .slice A0_2 l0_2.length c0_2, .slice A0_3 l0_3.length c0_3] 38 (0, 0)) (by (with_reducible repeat (first | refine blk_drewN ?_ _ | refine blk_drew ?_ | refine blk_alloc ?_ _)); exact BK314.out) hb); have n3_ := Aside0.mk (below_step (by repeat (first | (with_reducible first | exact HB.out | apply below_alloc | apply pw_below_drewN | apply below_drew1 | refine below_set ?_ GE314.out) | exact HB.out)) hb); clear HO_3; clear HO_5; clear BK314; clear HB; have HO_3 := n0_; have HO_5 := n1_; have BK314 := n2_; have HB := n3_; clear n0_ n1_ n2_ n3_; (try clear hb); (try clear hb2); (try clear hk); (try clear hi)))
                                                      (try simp only [Act.put, List.setIfInBounds_toArray, List.set_cons_zero, List.set_cons_succ])
                                                      go_cut [146] (fun v146 wc => ∃ (kq : Nat) (x146_71 : Bool), v146 = .bool x146_71 ∧ Aside0 (herbariumlaw13_SpaceFinds.j7 kq y319 x4_1 t323 x6_3 t329 x15_7 t351 t352 1 0 x146_71 l0_0 l0_1 l0_2 l0_3 = some true) ∧ Aside0 (kq ≤ k7) ∧ Aside0 (Kd.R (Kd.int .i64) 3 wc w.heap.size (fun _ => True) (.slice (some ad328) y319.length co36) y319) ∧ Aside0 (Kd.R k41 41 wc w.heap.size (fun _ => True) (.slice Ao37 t323.length co37) t323) ∧ Aside0 (wc.heap[gb314]? = some (.cells #[(.slice (some ad322) l0_0.length c0_0), (.slice A0_1 l0_1.length c0_1), (.slice A0_2 l0_2.length c0_2), (.slice A0_3 l0_3.length c0_3)] 38 (0, 0))) ∧ Aside0 (Below w.heap.size w wc))
                                                      case first => as_aux_lemma =>
                                                        have H := HC72.out
                                                        clear HC72
                                                        by_cases c74 : t329 = true
                                                        · subst c74
                                                          have H1 : ((herbariumref0_Between.f x15_7 1 100).bind fun t353 => (herbariumlaw13_SpaceFinds.j7 k7 y319 x4_1 t323 x6_3 true x15_7 t351 t352 1 0 t353 l0_0 l0_1 l0_2 l0_3)) = some true := by rw [if_pos rfl] at H; exact H
                                                          clear H
                                                          have H := H1
                                                          clear H1
                                                          replace H := Option.bind_eq_some_iff.mp H
                                                          obtain ⟨t353, A750, H⟩ := H
                                                          replace H : (herbariumlaw13_SpaceFinds.j7 k7 y319 x4_1 t323 x6_3 true x15_7 t351 t352 1 0 t353 l0_0 l0_1 l0_2 l0_3) = some true := H
                                                          have A75 := Aside0.mk A750
                                                          clear A750
                                                          have H' := Aside0.mk H
                                                          clear H
                                                          go_wp2_with (first | (go_at_call 48; (with_reducible refine (herbariumref0_Between.calls x15_7 1 100 t353 _ A75.out).mono ?_); rintro e w' ⟨rfl, ⟨nd, rfl⟩⟩))
                                                          go_meet
                                                          case rel => exact ⟨_, (t353), (by first | rfl | (simp; done) | (simp [*]; done)), H', ⟨by have := HK1.out; have := HJ14.out; have := HK3.out; have := HJ24.out; have := HJ34.out; have := HJ45.out; have := HK7.out; first | omega | exact Nat.le_refl _⟩, ⟨by (with_reducible repeat (first | apply Kd.R_alloc | apply Kd.R_drewN | apply Kd.R_drew)); exact HO_3.out⟩, ⟨by (with_reducible repeat (first | apply Kd.R_alloc | apply Kd.R_drewN | apply Kd.R_drew)); exact HO_5.out⟩, ⟨by (with_reducible repeat (first | refine blk_drewN ?_ _ | refine blk_drew ?_ | refine blk_alloc ?_ _)); exact BK314.out⟩, ⟨by repeat (first | (with_reducible first | exact HB.out | apply below_alloc | apply pw_below_drewN | apply below_drew1 | refine below_set ?_ GE314.out) | exact HB.out)⟩⟩
                                                        · replace c74 := Bool.eq_false_iff.mpr c74
                                                          subst c74
                                                          have H1 : (herbariumlaw13_SpaceFinds.j7 k7 y319 x4_1 t323 x6_3 false x15_7 t351 t352 1 0 false l0_0 l0_1 l0_2 l0_3) = some true := by rw [if_neg (show ¬ (false = true) by decide)] at H; exact H
                                                          clear H
                                                          have H := H1
                                                          clear H1
                                                          have H' := Aside0.mk H
                                                          clear H
                                                          go_wp2
                                                          go_meet
                                                          case rel => exact ⟨_, (false), (by first | rfl | (simp; done) | (simp [*]; done)), H', ⟨by have := HK1.out; have := HJ14.out; have := HK3.out; have := HJ24.out; have := HJ34.out; have := HJ45.out; have := HK7.out; first | omega | exact Nat.le_refl _⟩, ⟨by (with_reducible repeat (first | apply Kd.R_alloc | apply Kd.R_drewN | apply Kd.R_drew)); exact HO_3.out⟩, ⟨by (with_reducible repeat (first | apply Kd.R_alloc | apply Kd.R_drewN | apply Kd.R_drew)); exact HO_5.out⟩, ⟨by (with_reducible repeat (first | refine blk_drewN ?_ _ | refine blk_drew ?_ | refine blk_alloc ?_ _)); exact BK314.out⟩, ⟨by repeat (first | (with_reducible first | exact HB.out | apply below_alloc | apply pw_below_drewN | apply below_drew1 | refine below_set ?_ GE314.out) | exact HB.out)⟩⟩
                                                      case rest => as_aux_lemma =>
                                                        clear HC72
                                                        try clear c1
                                                        try clear c2
                                                        try clear p2
                                                        try clear c3
                                                        try clear p3
                                                        try clear q3
                                                        try clear hx3
                                                        try clear c4
                                                        try clear c5
                                                        try clear c6
                                                        try clear c7
                                                        try clear c9
                                                        try clear c16
                                                        try clear c16b0
                                                        try clear c19
                                                        try clear c20
                                                        try clear c20b0
                                                        try clear c21
                                                        try clear c21b0
                                                        try clear c26
                                                        try clear c26b0
                                                        try clear c28
                                                        try clear c29
                                                        try clear c30
                                                        try clear c30b0
                                                        try clear c31
                                                        try clear c31b0
                                                        try clear c32
                                                        try clear p32
                                                        try clear q32
                                                        try clear hx32
                                                        try clear p33
                                                        try clear q33
                                                        try clear hx33
                                                        try clear p34
                                                        try clear q34
                                                        try clear hx34
                                                        try clear p35
                                                        try clear q35
                                                        try clear hx35
                                                        try clear c37
                                                        try clear c38
                                                        try clear c40
                                                        try clear c44
                                                        try clear c45
                                                        try clear c46
                                                        try clear c47
                                                        try clear c47b0
                                                        try clear c48
                                                        try clear c48b0
                                                        try clear c51
                                                        try clear c51b0
                                                        try clear c51b1
                                                        try clear c53
                                                        try clear c53b0
                                                        try clear c53b1
                                                        try clear c55
                                                        try clear c55b0
                                                        try clear c55b1
                                                        try clear c57
                                                        try clear c67
                                                        try clear c68
                                                        try clear c68b0
                                                        try clear c69
                                                        try clear c69b0
                                                        try clear c70
                                                        try clear c70b0
                                                        try clear c74
                                                        try clear hcz13_0
                                                        try clear hcz13_1
                                                        try clear hcz13_2
                                                        try clear hcz13_3
                                                        try clear hcz17_0
                                                        try clear hcz17_1
                                                        try clear hcz17_2
                                                        try clear hcz17_3
                                                        try clear hcz18_0
                                                        try clear hcz18_1
                                                        try clear hcz18_2
                                                        try clear hcz18_3
                                                        try clear hcz23_0
                                                        try clear hcz23_1
                                                        try clear hcz23_2
                                                        try clear hcz23_3
                                                        try clear hcz5_0
                                                        try clear hcz5_1
                                                        try clear hcz5_2
                                                        try clear hcz5_3
                                                        try clear hcz9_0
                                                        try clear hcz9_1
                                                        try clear hcz9_2
                                                        try clear hcz9_3
                                                        try clear hfz13_0
                                                        try clear hfz13_1
                                                        try clear hfz13_2
                                                        try clear hfz13_3
                                                        try clear hfz17_0
                                                        try clear hfz17_1
                                                        try clear hfz17_2
                                                        try clear hfz17_3
                                                        try clear hfz18_0
                                                        try clear hfz18_1
                                                        try clear hfz18_2
                                                        try clear hfz18_3
                                                        try clear hfz23_0
                                                        try clear hfz23_1
                                                        try clear hfz23_2
                                                        try clear hfz23_3
                                                        try clear hfz5_0
                                                        try clear hfz5_1
                                                        try clear hfz5_2
                                                        try clear hfz5_3
                                                        try clear hfz9_0
                                                        try clear hfz9_1
                                                        try clear hfz9_2
                                                        try clear hfz9_3
                                                        try clear hx322_0
                                                        try clear hx328_0
                                                        try clear hx330_0
                                                        try clear hx335_0
                                                        try clear hx338_0
                                                        try clear hx342_0
                                                        try clear hx344_0
                                                        try clear hx350_0
                                                        try clear p2
                                                        try clear p3
                                                        try clear p32
                                                        try clear p322
                                                        try clear p328
                                                        try clear p33
                                                        try clear p330
                                                        try clear p335
                                                        try clear p338
                                                        try clear p34
                                                        try clear p342
                                                        try clear p344
                                                        try clear p350
                                                        try clear q3
                                                        try clear q32
                                                        try clear q322
                                                        try clear q328
                                                        try clear q33
                                                        try clear q330
                                                        try clear q335
                                                        try clear q338
                                                        try clear q34
                                                        try clear q342
                                                        try clear q344
                                                        try clear q350
                                                        obtain ⟨kq, x146_71, rfl, HA, HJ71, HO_3, HO_5, BK314, HB⟩ := hcut
                                                        cases kq with
                                                        | zero => exact absurd HA.out (by simp [herbariumlaw13_SpaceFinds.j7])
                                                        | succ kj71 =>
                                                          have H := HA.out
                                                          clear HA
                                                          simp only [herbariumlaw13_SpaceFinds.j7] at H
                                                          by_cases c76 : x146_71 = true
                                                          · subst c76
                                                            have H1 : (if 0 ≤ x6_3 then (if x6_3 < (y319.length : Int) then ((herbariumref13_Find.f kj71 t323 (rd y319 x6_3) x15_7).bind fun t355 => (if t355 ≥ 0 then ((herbariumlaw13_num.f t352).bind fun t356 => (if t356 = 0 then (if t351 = t355 then (herbariumlaw13_SpaceFinds.l2 kj71 y319 x4_1 t323 x6_3 t329 (wrap64 (x15_7 + 1)) l0_0 l0_1 l0_2 l0_3) else (some false)) else (some false))) else ((herbariumlaw13_num.f t352).bind fun t357 => (if t357 = 5 then (if t351 = 0 then (herbariumlaw13_SpaceFinds.l2 kj71 y319 x4_1 t323 x6_3 t329 (wrap64 (x15_7 + 1)) l0_0 l0_1 l0_2 l0_3) else (some false)) else (some false))))) else (none)) else (none)) = some true := by rw [if_pos rfl] at H; exact H
                                                            clear H
                                                            have H := H1
                                                            clear H1
                                                            by_cases c77 : 0 ≤ x6_3
                                                            · rw [if_pos c77] at H
                                                              have c77b0 : decide (0 ≤ x6_3) = true := decide_eq_true c77
                                                              clear c77
                                                              by_cases c78 : x6_3 < (y319.length : Int)
                                                              · rw [if_pos c78] at H
                                                                have c78b0 : decide (x6_3 < (y319.length : Int)) = true := decide_eq_true c78
                                                                clear c78
                                                                replace H := Option.bind_eq_some_iff.mp H
                                                                obtain ⟨t355, A790, H⟩ := H
                                                                replace H : (if t355 ≥ 0 then ((herbariumlaw13_num.f t352).bind fun t356 => (if t356 = 0 then (if t351 = t355 then (herbariumlaw13_SpaceFinds.l2 kj71 y319 x4_1 t323 x6_3 t329 (wrap64 (x15_7 + 1)) l0_0 l0_1 l0_2 l0_3) else (some false)) else (some false))) else ((herbariumlaw13_num.f t352).bind fun t357 => (if t357 = 5 then (if t351 = 0 then (herbariumlaw13_SpaceFinds.l2 kj71 y319 x4_1 t323 x6_3 t329 (wrap64 (x15_7 + 1)) l0_0 l0_1 l0_2 l0_3) else (some false)) else (some false)))) = some true := H
                                                                have A79 := Aside0.mk A790
                                                                clear A790
                                                                by_cases c80 : t355 ≥ 0
                                                                · rw [if_pos c80] at H
                                                                  have c80b0 : decide (0 ≤ t355) = true := decide_eq_true c80
                                                                  clear c80
                                                                  replace H := Option.bind_eq_some_iff.mp H
                                                                  obtain ⟨t356, A810, H⟩ := H
                                                                  replace H : (if t356 = 0 then (if t351 = t355 then (herbariumlaw13_SpaceFinds.l2 kj71 y319 x4_1 t323 x6_3 t329 (wrap64 (x15_7 + 1)) l0_0 l0_1 l0_2 l0_3) else (some false)) else (some false)) = some true := H
                                                                  have A81 := Aside0.mk A810
                                                                  clear A810
                                                                  by_cases c82 : t356 = 0
                                                                  · rw [if_pos c82] at H
                                                                    have c82b0 : (t356 == 0) = true := beq_iff_eq.mpr c82
                                                                    have c82b1 : (t356 != 0) = false := bne_eq_false_iff_eq.mpr c82
                                                                    clear c82
                                                                    by_cases c83 : t351 = t355
                                                                    · rw [if_pos c83] at H
                                                                      have c83b0 : (t351 == t355) = true := beq_iff_eq.mpr c83
                                                                      have c83b1 : (t351 != t355) = false := bne_eq_false_iff_eq.mpr c83
                                                                      clear c83
                                                                      have H' := Aside0.mk H
                                                                      clear H
                                                                      have p354 : 0 ≤ (x6_3 : Int) := of_decide_eq_true (by first | (with_reducible assumption) | assumption)
                                                                      have q354 : x6_3 < (y319.length : Int) := of_decide_eq_true (by first | (with_reducible assumption) | assumption)
                                                                      obtain ⟨ad354, e354, hx354_0⟩ := Kd.at_int (Kd.R_reads' HO_3.out).2.2 x6_3 p354 q354
                                                                      obtain rfl : ad328 = ad354 := (by injection e354)
                                                                      replace p354 := eq_true p354
                                                                      replace q354 := eq_true q354
                                                                      go_wp2_with (first | ((with_reducible refine gate_callee (f := 49) rfl ?_); refine goesL_ (some 153) rfl rfl Try.func49 (by kernel_rfl) rfl #[.slice Ao37 t323.length co37, .int .i64 (rd y319 x6_3), .int .i64 x15_7] rfl (by (try simp only [List.map_toArray, List.map_cons, List.map_nil]); first | done | rfl | (simp only [List.length_drop, List.length_take]; rfl)) ?_; (with_reducible refine (herbariumref13_Find.calls kj71 _ _ t323 (rd y319 x6_3) x15_7 t355 _ ?side1 ?side2 A79.out).mono ?_); (case side1 => repeat (first | exact (Kd.R_reads' HO_5.out).2.2 | (with_reducible refine Kd.C_alloc ?_ _) | (with_reducible refine Kd.C_drewN ?_ _) | (with_reducible refine Kd.C_drew ?_))); (case side2 => exact (Kd.R_reads' HO_5.out).2.1); rintro e w84 ⟨rfl, hb⟩; refine ⟨_, rfl, ?_⟩; have n0_ := Aside0.mk (Kd.R_below (by (with_reducible repeat (first | apply Kd.R_alloc | apply Kd.R_drewN | apply Kd.R_drew)); exact HO_3.out) hb); have n1_ := Aside0.mk (Kd.R_below (by (with_reducible repeat (first | apply Kd.R_alloc | apply Kd.R_drewN | apply Kd.R_drew)); exact HO_5.out) hb); have n2_ := Aside0.mk (blk_below (g := gb314) (o := .cells #[.slice (some ad322) l0_0.length c0_0, .slice A0_1 l0_1.length c0_1, .slice A0_2 l0_2.length c0_2, .slice A0_3 l0_3.length c0_3] 38 (0, 0)) (by (with_reducible repeat (first | refine blk_drewN ?_ _ | refine blk_drew ?_ | refine blk_alloc ?_ _)); exact BK314.out) hb); have n3_ := Aside0.mk (below_step (by repeat (first | (with_reducible first | exact HB.out | apply below_alloc | apply pw_below_drewN | apply below_drew1 | refine below_set ?_ GE314.out) | exact HB.out)) hb); clear HO_3; clear HO_5; clear BK314; clear HB; have HO_3 := n0_; have HO_5 := n1_; have BK314 := n2_; have HB := n3_; clear n0_ n1_ n2_ n3_; (try clear hb); (try clear hb2); (try clear hk); (try clear hi)) | ((with_reducible refine gate_callee (f := 31) rfl ?_); refine goesL_ (some 158) rfl rfl Try.func31 (by kernel_rfl) rfl #[.int .i64 t352] rfl (by (try simp only [List.map_toArray, List.map_cons, List.map_nil]); first | done | rfl | (simp only [List.length_drop, List.length_take]; rfl)) ?_; (with_reducible refine (herbariumlaw13_num.calls t352 t356 _ A81.out).mono ?_); rintro e w' ⟨rfl, ⟨nd, rfl⟩⟩; refine ⟨_, rfl, ?_⟩))
                                                                      go_roundg kj71
                                                                      case measure => have := HK1.out; have := HJ14.out; have := HK3.out; have := HJ24.out; have := HJ34.out; have := HJ45.out; have := HK7.out; have := HJ71.out; omega
                                                                      case rel => exact ⟨(wrap64 (x15_7 + 1)), (by first | rfl | (simp; done) | (simp [*]; done)), H', ⟨by have := HK1.out; have := HJ14.out; have := HK3.out; have := HJ24.out; have := HJ34.out; have := HJ45.out; have := HK7.out; have := HJ71.out; omega⟩, ⟨by (with_reducible repeat (first | apply Kd.R_alloc | apply Kd.R_drewN | apply Kd.R_drew)); exact HO_3.out⟩, ⟨by (with_reducible repeat (first | apply Kd.R_alloc | apply Kd.R_drewN | apply Kd.R_drew)); exact HO_5.out⟩, ⟨by (with_reducible repeat (first | refine blk_drewN ?_ _ | refine blk_drew ?_ | refine blk_alloc ?_ _)); exact BK314.out⟩, ⟨by repeat (first | (with_reducible first | exact HB.out | apply below_alloc | apply pw_below_drewN | apply below_drew1 | refine below_set ?_ GE314.out) | exact HB.out)⟩⟩
                                                                    · rw [if_neg c83] at H
                                                                      have c83b0 : (t351 == t355) = false := beq_eq_false_iff_ne.mpr c83
                                                                      have c83b1 : (t351 != t355) = true := bne_iff_ne.mpr c83
                                                                      exact absurd (Option.some.inj H) (by decide)
                                                                  · rw [if_neg c82] at H
                                                                    have c82b0 : (t356 == 0) = false := beq_eq_false_iff_ne.mpr c82
                                                                    have c82b1 : (t356 != 0) = true := bne_iff_ne.mpr c82
                                                                    exact absurd (Option.some.inj H) (by decide)
                                                                · rw [if_neg c80] at H
                                                                  have c80b0 : decide (0 ≤ t355) = false := decide_eq_false c80
                                                                  clear c80
                                                                  replace H := Option.bind_eq_some_iff.mp H
                                                                  obtain ⟨t357, A870, H⟩ := H
                                                                  replace H : (if t357 = 5 then (if t351 = 0 then (herbariumlaw13_SpaceFinds.l2 kj71 y319 x4_1 t323 x6_3 t329 (wrap64 (x15_7 + 1)) l0_0 l0_1 l0_2 l0_3) else (some false)) else (some false)) = some true := H
                                                                  have A87 := Aside0.mk A870
                                                                  clear A870
                                                                  by_cases c88 : t357 = 5
                                                                  · rw [if_pos c88] at H
                                                                    have c88b0 : (t357 == 5) = true := beq_iff_eq.mpr c88
                                                                    have c88b1 : (t357 != 5) = false := bne_eq_false_iff_eq.mpr c88
                                                                    clear c88
                                                                    by_cases c89 : t351 = 0
                                                                    · rw [if_pos c89] at H
                                                                      have c89b0 : (t351 == 0) = true := beq_iff_eq.mpr c89
                                                                      have c89b1 : (t351 != 0) = false := bne_eq_false_iff_eq.mpr c89
                                                                      clear c89
                                                                      have H' := Aside0.mk H
                                                                      clear H
                                                                      have p354 : 0 ≤ (x6_3 : Int) := of_decide_eq_true (by first | (with_reducible assumption) | assumption)
                                                                      have q354 : x6_3 < (y319.length : Int) := of_decide_eq_true (by first | (with_reducible assumption) | assumption)
                                                                      obtain ⟨ad354, e354, hx354_0⟩ := Kd.at_int (Kd.R_reads' HO_3.out).2.2 x6_3 p354 q354
                                                                      obtain rfl : ad328 = ad354 := (by injection e354)
                                                                      replace p354 := eq_true p354
                                                                      replace q354 := eq_true q354
                                                                      go_wp2_with (first | ((with_reducible refine gate_callee (f := 49) rfl ?_); refine goesL_ (some 153) rfl rfl Try.func49 (by kernel_rfl) rfl #[.slice Ao37 t323.length co37, .int .i64 (rd y319 x6_3), .int .i64 x15_7] rfl (by (try simp only [List.map_toArray, List.map_cons, List.map_nil]); first | done | rfl | (simp only [List.length_drop, List.length_take]; rfl)) ?_; (with_reducible refine (herbariumref13_Find.calls kj71 _ _ t323 (rd y319 x6_3) x15_7 t355 _ ?side1 ?side2 A79.out).mono ?_); (case side1 => repeat (first | exact (Kd.R_reads' HO_5.out).2.2 | (with_reducible refine Kd.C_alloc ?_ _) | (with_reducible refine Kd.C_drewN ?_ _) | (with_reducible refine Kd.C_drew ?_))); (case side2 => exact (Kd.R_reads' HO_5.out).2.1); rintro e w90 ⟨rfl, hb⟩; refine ⟨_, rfl, ?_⟩; have n0_ := Aside0.mk (Kd.R_below (by (with_reducible repeat (first | apply Kd.R_alloc | apply Kd.R_drewN | apply Kd.R_drew)); exact HO_3.out) hb); have n1_ := Aside0.mk (Kd.R_below (by (with_reducible repeat (first | apply Kd.R_alloc | apply Kd.R_drewN | apply Kd.R_drew)); exact HO_5.out) hb); have n2_ := Aside0.mk (blk_below (g := gb314) (o := .cells #[.slice (some ad322) l0_0.length c0_0, .slice A0_1 l0_1.length c0_1, .slice A0_2 l0_2.length c0_2, .slice A0_3 l0_3.length c0_3] 38 (0, 0)) (by (with_reducible repeat (first | refine blk_drewN ?_ _ | refine blk_drew ?_ | refine blk_alloc ?_ _)); exact BK314.out) hb); have n3_ := Aside0.mk (below_step (by repeat (first | (with_reducible first | exact HB.out | apply below_alloc | apply pw_below_drewN | apply below_drew1 | refine below_set ?_ GE314.out) | exact HB.out)) hb); clear HO_3; clear HO_5; clear BK314; clear HB; have HO_3 := n0_; have HO_5 := n1_; have BK314 := n2_; have HB := n3_; clear n0_ n1_ n2_ n3_; (try clear hb); (try clear hb2); (try clear hk); (try clear hi)) | ((with_reducible refine gate_callee (f := 31) rfl ?_); refine goesL_ (some 158) rfl rfl Try.func31 (by kernel_rfl) rfl #[.int .i64 t352] rfl (by (try simp only [List.map_toArray, List.map_cons, List.map_nil]); first | done | rfl | (simp only [List.length_drop, List.length_take]; rfl)) ?_; (with_reducible refine (herbariumlaw13_num.calls t352 t357 _ A87.out).mono ?_); rintro e w' ⟨rfl, ⟨nd, rfl⟩⟩; refine ⟨_, rfl, ?_⟩))
                                                                      go_roundg kj71
                                                                      case measure => have := HK1.out; have := HJ14.out; have := HK3.out; have := HJ24.out; have := HJ34.out; have := HJ45.out; have := HK7.out; have := HJ71.out; omega
                                                                      case rel => exact ⟨(wrap64 (x15_7 + 1)), (by first | rfl | (simp; done) | (simp [*]; done)), H', ⟨by have := HK1.out; have := HJ14.out; have := HK3.out; have := HJ24.out; have := HJ34.out; have := HJ45.out; have := HK7.out; have := HJ71.out; omega⟩, ⟨by (with_reducible repeat (first | apply Kd.R_alloc | apply Kd.R_drewN | apply Kd.R_drew)); exact HO_3.out⟩, ⟨by (with_reducible repeat (first | apply Kd.R_alloc | apply Kd.R_drewN | apply Kd.R_drew)); exact HO_5.out⟩, ⟨by (with_reducible repeat (first | refine blk_drewN ?_ _ | refine blk_drew ?_ | refine blk_alloc ?_ _)); exact BK314.out⟩, ⟨by repeat (first | (with_reducible first | exact HB.out | apply below_alloc | apply pw_below_drewN | apply below_drew1 | refine below_set ?_ GE314.out) | exact HB.out)⟩⟩
                                                                    · rw [if_neg c89] at H
                                                                      have c89b0 : (t351 == 0) = false := beq_eq_false_iff_ne.mpr c89
                                                                      have c89b1 : (t351 != 0) = true := bne_iff_ne.mpr c89
                                                                      exact absurd (Option.some.inj H) (by decide)
                                                                  · rw [if_neg c88] at H
                                                                    have c88b0 : (t357 == 5) = false := beq_eq_false_iff_ne.mpr c88
                                                                    have c88b1 : (t357 != 5) = true := bne_iff_ne.mpr c88
                                                                    exact absurd (Option.some.inj H) (by decide)
                                                              · rw [if_neg c78] at H
                                                                exact absurd H (by simp)
                                                            · rw [if_neg c77] at H
                                                              exact absurd H (by simp)
                                                          · replace c76 := Bool.eq_false_iff.mpr c76
                                                            subst c76
                                                            have H1 : ((herbariumlaw13_num.f t352).bind fun t358 => (if t358 = 1 then (if t351 = 0 then (herbariumlaw13_SpaceFinds.l2 kj71 y319 x4_1 t323 x6_3 t329 (wrap64 (x15_7 + 1)) l0_0 l0_1 l0_2 l0_3) else (some false)) else (some false))) = some true := by rw [if_neg (show ¬ (false = true) by decide)] at H; exact H
                                                            clear H
                                                            have H := H1
                                                            clear H1
                                                            replace H := Option.bind_eq_some_iff.mp H
                                                            obtain ⟨t358, A930, H⟩ := H
                                                            replace H : (if t358 = 1 then (if t351 = 0 then (herbariumlaw13_SpaceFinds.l2 kj71 y319 x4_1 t323 x6_3 t329 (wrap64 (x15_7 + 1)) l0_0 l0_1 l0_2 l0_3) else (some false)) else (some false)) = some true := H
                                                            have A93 := Aside0.mk A930
                                                            clear A930
                                                            by_cases c94 : t358 = 1
                                                            · rw [if_pos c94] at H
                                                              have c94b0 : (t358 == 1) = true := beq_iff_eq.mpr c94
                                                              have c94b1 : (t358 != 1) = false := bne_eq_false_iff_eq.mpr c94
                                                              clear c94
                                                              by_cases c95 : t351 = 0
                                                              · rw [if_pos c95] at H
                                                                have c95b0 : (t351 == 0) = true := beq_iff_eq.mpr c95
                                                                have c95b1 : (t351 != 0) = false := bne_eq_false_iff_eq.mpr c95
                                                                clear c95
                                                                have H' := Aside0.mk H
                                                                clear H
                                                                go_wp2_with (first | ((with_reducible refine gate_callee (f := 31) rfl ?_); refine goesL_ (some 158) rfl rfl Try.func31 (by kernel_rfl) rfl #[.int .i64 t352] rfl (by (try simp only [List.map_toArray, List.map_cons, List.map_nil]); first | done | rfl | (simp only [List.length_drop, List.length_take]; rfl)) ?_; (with_reducible refine (herbariumlaw13_num.calls t352 t358 _ A93.out).mono ?_); rintro e w' ⟨rfl, ⟨nd, rfl⟩⟩; refine ⟨_, rfl, ?_⟩))
                                                                go_roundg kj71
                                                                case measure => have := HK1.out; have := HJ14.out; have := HK3.out; have := HJ24.out; have := HJ34.out; have := HJ45.out; have := HK7.out; have := HJ71.out; omega
                                                                case rel => exact ⟨(wrap64 (x15_7 + 1)), (by first | rfl | (simp; done) | (simp [*]; done)), H', ⟨by have := HK1.out; have := HJ14.out; have := HK3.out; have := HJ24.out; have := HJ34.out; have := HJ45.out; have := HK7.out; have := HJ71.out; omega⟩, ⟨by (with_reducible repeat (first | apply Kd.R_alloc | apply Kd.R_drewN | apply Kd.R_drew)); exact HO_3.out⟩, ⟨by (with_reducible repeat (first | apply Kd.R_alloc | apply Kd.R_drewN | apply Kd.R_drew)); exact HO_5.out⟩, ⟨by (with_reducible repeat (first | refine blk_drewN ?_ _ | refine blk_drew ?_ | refine blk_alloc ?_ _)); exact BK314.out⟩, ⟨by repeat (first | (with_reducible first | exact HB.out | apply below_alloc | apply pw_below_drewN | apply below_drew1 | refine below_set ?_ GE314.out) | exact HB.out)⟩⟩
                                                              · rw [if_neg c95] at H
                                                                have c95b0 : (t351 == 0) = false := beq_eq_false_iff_ne.mpr c95
                                                                have c95b1 : (t351 != 0) = true := bne_iff_ne.mpr c95
                                                                exact absurd (Option.some.inj H) (by decide)
                                                            · rw [if_neg c94] at H
                                                              have c94b0 : (t358 == 1) = false := beq_eq_false_iff_ne.mpr c94
                                                              have c94b1 : (t358 != 1) = true := bne_iff_ne.mpr c94
                                                              exact absurd (Option.some.inj H) (by decide)
                                                    · rw [if_neg c70] at H
                                                      exact absurd H (by simp)
                                                  · rw [if_neg c69] at H
                                                    exact absurd H (by simp)
                                                · rw [if_neg c68] at H
                                                  have c68b0 : decide (x15_7 < 9) = false := decide_eq_false c68
                                                  clear c68
                                                  have H' := Aside0.mk H
                                                  clear H
                                                  go_wp2
                                                  go_roundg k7
                                                  case measure => have := HK1.out; have := HJ14.out; have := HK3.out; have := HJ24.out; have := HJ34.out; have := HJ45.out; have := HK7.out; omega
                                                  case rel => exact ⟨(wrap64 (x6_3 + 1)), (by first | rfl | (simp; done) | (simp [*]; done)), H', ⟨by have := HK1.out; have := HJ14.out; have := HK3.out; have := HJ24.out; have := HJ34.out; have := HJ45.out; have := HK7.out; omega⟩, ⟨by (with_reducible repeat (first | apply Kd.R_alloc | apply Kd.R_drewN | apply Kd.R_drew)); exact HO_3.out⟩, ⟨by (with_reducible repeat (first | apply Kd.R_alloc | apply Kd.R_drewN | apply Kd.R_drew)); exact HO_5.out⟩, ⟨by (with_reducible repeat (first | refine blk_drewN ?_ _ | refine blk_drew ?_ | refine blk_alloc ?_ _)); exact BK314.out⟩, ⟨by repeat (first | (with_reducible first | exact HB.out | apply below_alloc | apply pw_below_drewN | apply below_drew1 | refine below_set ?_ GE314.out) | exact HB.out)⟩⟩
                                · rw [if_neg c31] at H
                                  exact absurd H (by simp)
                              · rw [if_neg c30] at H
                                exact absurd H (by simp)
                            · replace c29 := Bool.eq_false_iff.mpr c29
                              subst c29
                              have H1 : (if 0 ≤ x4_1 then (if x4_1 < (l0_0.length : Int) then ((herbariumref0_EqRuns.f kj24 t323 (rd_L4 l0_0 x4_1)).bind fun t327 => (if t327 = true then (herbariumlaw13_SpaceFinds.l0 kj24 y319 (wrap64 (x4_1 + 1)) l0_0 l0_1 l0_2 l0_3) else (some false))) else (none)) else (none)) = some true := by rw [if_neg (show ¬ (false = true) by decide)] at H; exact H
                              clear H
                              have H := H1
                              clear H1
                              by_cases c96 : 0 ≤ x4_1
                              · rw [if_pos c96] at H
                                have c96b0 : decide (0 ≤ x4_1) = true := decide_eq_true c96
                                clear c96
                                by_cases c97 : x4_1 < (l0_0.length : Int)
                                · rw [if_pos c97] at H
                                  have c97b0 : decide (x4_1 < (l0_0.length : Int)) = true := decide_eq_true c97
                                  clear c97
                                  replace H := Option.bind_eq_some_iff.mp H
                                  obtain ⟨t327, A980, H⟩ := H
                                  replace H : (if t327 = true then (herbariumlaw13_SpaceFinds.l0 kj24 y319 (wrap64 (x4_1 + 1)) l0_0 l0_1 l0_2 l0_3) else (some false)) = some true := H
                                  have A98 := Aside0.mk A980
                                  clear A980
                                  by_cases c99 : t327 = true
                                  · subst c99
                                    have H1 : (herbariumlaw13_SpaceFinds.l0 kj24 y319 (wrap64 (x4_1 + 1)) l0_0 l0_1 l0_2 l0_3) = some true := by rw [if_pos rfl] at H; exact H
                                    clear H
                                    have H := H1
                                    clear H1
                                    have H' := Aside0.mk H
                                    clear H
                                    have hcz100_0 : wc.cell? ⟨gb314, 0, none⟩ = some (.slice (some ad322) l0_0.length c0_0) := (blk_cell BK314.out 0).trans rfl
                                    have hcz100_1 : wc.cell? ⟨gb314, 1, none⟩ = some (.slice A0_1 l0_1.length c0_1) := (blk_cell BK314.out 1).trans rfl
                                    have hcz100_2 : wc.cell? ⟨gb314, 2, none⟩ = some (.slice A0_2 l0_2.length c0_2) := (blk_cell BK314.out 2).trans rfl
                                    have hcz100_3 : wc.cell? ⟨gb314, 3, none⟩ = some (.slice A0_3 l0_3.length c0_3) := (blk_cell BK314.out 3).trans rfl
                                    have hfz100_0 := blk_frozen BK314.out 0
                                    have hfz100_1 := blk_frozen BK314.out 1
                                    have hfz100_2 := blk_frozen BK314.out 2
                                    have hfz100_3 := blk_frozen BK314.out 3
                                    have p326 : 0 ≤ (x4_1 : Int) := of_decide_eq_true (by first | (with_reducible assumption) | assumption)
                                    have q326 : x4_1 < (l0_0.length : Int) := of_decide_eq_true (by first | (with_reducible assumption) | assumption)
                                    obtain ⟨ad326, A326_0, c326_0, e326, hx326_0, hl326_0, hi326_0⟩ := at_L4 HR0_0.out x4_1 p326 q326
                                    obtain rfl : ad322 = ad326 := (by injection e326)
                                    replace hx326_0 := (HB.out.cell (World.block_lt_of_cell? w _ hx326_0)).trans hx326_0
                                    have HR326_0 := Aside0.mk hi326_0
                                    have HC326_0 := Aside0.mk hl326_0
                                    clear hi326_0 hl326_0
                                    replace p326 := eq_true p326
                                    replace q326 := eq_true q326
                                    obtain ⟨Ao101, co101, eo101⟩ := Kd.R_slice HO_5.out
                                    subst eo101
                                    go_wp2_with (first | ((with_reducible refine gate_callee (f := 47) rfl ?_); refine goesL_ (some 172) rfl rfl Try.func47 (by kernel_rfl) rfl #[.slice Ao101 t323.length co101, .slice A326_0 (rd_L4 l0_0 x4_1).length c326_0] rfl (by (try simp only [List.map_toArray, List.map_cons, List.map_nil]); first | done | rfl | (simp only [List.length_drop, List.length_take]; rfl)) ?_; (with_reducible refine (herbariumref0_EqRuns.calls kj24 _ _ t323 _ _ (rd_L4 l0_0 x4_1) true _ ?side1 ?side2 ?side3 ?side4 A98.out).mono ?_); (case side1 => repeat (first | exact (Kd.R_reads' HO_5.out).2.2 | (with_reducible refine Kd.C_alloc ?_ _) | (with_reducible refine Kd.C_drewN ?_ _) | (with_reducible refine Kd.C_drew ?_))); (case side2 => exact (Kd.R_reads' HO_5.out).2.1); (case side3 => repeat (first | exact (Kd.C_below HR326_0.out HB.out) | (with_reducible refine Kd.C_alloc ?_ _) | (with_reducible refine Kd.C_drewN ?_ _) | (with_reducible refine Kd.C_drew ?_))); (case side4 => exact HC326_0.out); rintro e w' ⟨rfl, ⟨nd, rfl⟩⟩; refine ⟨_, rfl, ?_⟩))
                                    go_roundg kj24
                                    case measure => have := HK1.out; have := HJ14.out; have := HK3.out; have := HJ24.out; omega
                                    case rel => exact ⟨(wrap64 (x4_1 + 1)), (by first | rfl | (simp; done) | (simp [*]; done)), H', ⟨by have := HK1.out; have := HJ14.out; have := HK3.out; have := HJ24.out; omega⟩, ⟨by (with_reducible repeat (first | apply Kd.R_alloc | apply Kd.R_drewN | apply Kd.R_drew)); exact HO_3.out⟩, ⟨by (with_reducible repeat (first | refine blk_drewN ?_ _ | refine blk_drew ?_ | refine blk_alloc ?_ _)); exact BK314.out⟩, ⟨by repeat (first | (with_reducible first | exact HB.out | apply below_alloc | apply pw_below_drewN | apply below_drew1 | refine below_set ?_ GE314.out) | exact HB.out)⟩⟩
                                  · replace c99 := Bool.eq_false_iff.mpr c99
                                    subst c99
                                    have H1 : (some false) = some true := by rw [if_neg (show ¬ (false = true) by decide)] at H; exact H
                                    clear H
                                    have H := H1
                                    clear H1
                                    exact absurd (Option.some.inj H) (by decide)
                                · rw [if_neg c97] at H
                                  exact absurd H (by simp)
                              · rw [if_neg c96] at H
                                exact absurd H (by simp)
                  · rw [if_neg c21] at H
                    exact absurd H (by simp)
                · rw [if_neg c20] at H
                  exact absurd H (by simp)
              · replace c19 := Bool.eq_false_iff.mpr c19
                subst c19
                have H1 : (herbariumlaw13_SpaceFinds.l3 kj14 0 l0_0 l0_1 l0_2 l0_3) = some true := by rw [if_neg (show ¬ (false = true) by decide)] at H; exact H
                clear H
                have H := H1
                clear H1
                have H' := Aside0.mk H
                clear H
                go_wp2
                go_loopg [21] kj14 (fun kq v21 w' => ∃ (x21_3 : Int), v21 = .int .i64 x21_3 ∧ Aside0 (herbariumlaw13_SpaceFinds.l3 kq x21_3 l0_0 l0_1 l0_2 l0_3 = some true) ∧ Aside0 (kq ≤ kj14) ∧ Aside0 (w'.heap[gb314]? = some (.cells #[(.slice A0_0 l0_0.length c0_0), (.slice A0_1 l0_1.length c0_1), (.slice A0_2 l0_2.length c0_2), (.slice A0_3 l0_3.length c0_3)] 38 (0, 0))) ∧ Aside0 (Below w.heap.size w w'))
                case atStart => exact ⟨(0), (by first | rfl | (simp; done) | (simp [*]; done)), H', ⟨Nat.le_refl _⟩, ⟨by (with_reducible repeat (first | refine blk_drewN ?_ _ | refine blk_drew ?_ | refine blk_alloc ?_ _)); exact BK314.out⟩, ⟨by repeat (first | (with_reducible first | exact HB.out | apply below_alloc | apply pw_below_drewN | apply below_drew1 | refine below_set ?_ GE314.out) | exact HB.out)⟩⟩
                case round => as_aux_lemma =>
                  clear H'
                  try clear c1
                  try clear c2
                  try clear p2
                  try clear c3
                  try clear p3
                  try clear q3
                  try clear hx3
                  try clear c4
                  try clear c5
                  try clear c6
                  try clear p6
                  try clear c7
                  try clear c8
                  try clear c9
                  try clear c16
                  try clear c16b0
                  try clear c19
                  try clear c20
                  try clear c20b0
                  try clear c21
                  try clear c21b0
                  try clear c26
                  try clear c26b0
                  try clear c28
                  try clear c29
                  try clear c30
                  try clear c30b0
                  try clear c31
                  try clear c31b0
                  try clear c32
                  try clear p32
                  try clear q32
                  try clear hx32
                  try clear p33
                  try clear q33
                  try clear hx33
                  try clear p34
                  try clear q34
                  try clear hx34
                  try clear p35
                  try clear q35
                  try clear hx35
                  try clear c37
                  try clear c38
                  try clear c40
                  try clear c44
                  try clear c45
                  try clear c46
                  try clear c47
                  try clear c47b0
                  try clear c48
                  try clear c48b0
                  try clear c49
                  try clear c51
                  try clear c51b0
                  try clear c51b1
                  try clear c53
                  try clear c53b0
                  try clear c53b1
                  try clear c55
                  try clear c55b0
                  try clear c55b1
                  try clear c57
                  try clear p64
                  try clear c67
                  try clear c68
                  try clear c68b0
                  try clear c69
                  try clear c69b0
                  try clear c70
                  try clear c70b0
                  try clear c74
                  try clear c76
                  try clear c77
                  try clear c77b0
                  try clear c78
                  try clear c78b0
                  try clear c80
                  try clear c80b0
                  try clear c82
                  try clear c82b0
                  try clear c82b1
                  try clear c83
                  try clear c83b0
                  try clear c83b1
                  try clear c88
                  try clear c88b0
                  try clear c88b1
                  try clear c89
                  try clear c89b0
                  try clear c89b1
                  try clear c94
                  try clear c94b0
                  try clear c94b1
                  try clear c95
                  try clear c95b0
                  try clear c95b1
                  try clear c96
                  try clear c96b0
                  try clear c97
                  try clear c97b0
                  try clear c99
                  try clear hcz100_0
                  try clear hcz100_1
                  try clear hcz100_2
                  try clear hcz100_3
                  try clear hcz102_0
                  try clear hcz102_1
                  try clear hcz102_2
                  try clear hcz102_3
                  try clear hcz13_0
                  try clear hcz13_1
                  try clear hcz13_2
                  try clear hcz13_3
                  try clear hcz17_0
                  try clear hcz17_1
                  try clear hcz17_2
                  try clear hcz17_3
                  try clear hcz18_0
                  try clear hcz18_1
                  try clear hcz18_2
                  try clear hcz18_3
                  try clear hcz23_0
                  try clear hcz23_1
                  try clear hcz23_2
                  try clear hcz23_3
                  try clear hcz5_0
                  try clear hcz5_1
                  try clear hcz5_2
                  try clear hcz5_3
                  try clear hcz9_0
                  try clear hcz9_1
                  try clear hcz9_2
                  try clear hcz9_3
                  try clear hfz100_0
                  try clear hfz100_1
                  try clear hfz100_2
                  try clear hfz100_3
                  try clear hfz102_0
                  try clear hfz102_1
                  try clear hfz102_2
                  try clear hfz102_3
                  try clear hfz13_0
                  try clear hfz13_1
                  try clear hfz13_2
                  try clear hfz13_3
                  try clear hfz17_0
                  try clear hfz17_1
                  try clear hfz17_2
                  try clear hfz17_3
                  try clear hfz18_0
                  try clear hfz18_1
                  try clear hfz18_2
                  try clear hfz18_3
                  try clear hfz23_0
                  try clear hfz23_1
                  try clear hfz23_2
                  try clear hfz23_3
                  try clear hfz5_0
                  try clear hfz5_1
                  try clear hfz5_2
                  try clear hfz5_3
                  try clear hfz9_0
                  try clear hfz9_1
                  try clear hfz9_2
                  try clear hfz9_3
                  try clear hx322_0
                  try clear hx326_0
                  try clear hx328_0
                  try clear hx330_0
                  try clear hx335_0
                  try clear hx338_0
                  try clear hx342_0
                  try clear hx344_0
                  try clear hx350_0
                  try clear hx354_0
                  try clear p2
                  try clear p3
                  try clear p32
                  try clear p322
                  try clear p326
                  try clear p328
                  try clear p33
                  try clear p330
                  try clear p335
                  try clear p338
                  try clear p34
                  try clear p342
                  try clear p344
                  try clear p35
                  try clear p350
                  try clear p354
                  try clear q3
                  try clear q32
                  try clear q322
                  try clear q326
                  try clear q328
                  try clear q33
                  try clear q330
                  try clear q335
                  try clear q338
                  try clear q34
                  try clear q342
                  try clear q344
                  try clear q35
                  try clear q350
                  try clear q354
                  obtain ⟨x21_3, rfl, HA, HK3, BK314, HB⟩ := hrel
                  cases gk with
                  | zero => exact absurd HA.out (by simp [herbariumlaw13_SpaceFinds.l3])
                  | succ k3 =>
                    have H := HA.out
                    clear HA
                    simp only [herbariumlaw13_SpaceFinds.l3] at H
                    have HC104 := Aside0.mk H
                    clear H
                    go_upto_region 35 with (fail)
                    go_cut [183] (fun v183 wc => ∃ (kq : Nat) (x183_103 : Bool), v183 = .bool x183_103 ∧ Aside0 (herbariumlaw13_SpaceFinds.j9 kq x21_3 x183_103 l0_0 l0_1 l0_2 l0_3 = some true) ∧ Aside0 (kq ≤ k3) ∧ Aside0 (wc.heap[gb314]? = some (.cells #[(.slice A0_0 l0_0.length c0_0), (.slice A0_1 l0_1.length c0_1), (.slice A0_2 l0_2.length c0_2), (.slice A0_3 l0_3.length c0_3)] 38 (0, 0))) ∧ Aside0 (Below w.heap.size w wc))
                    case first => as_aux_lemma =>
                      have H := HC104.out
                      clear HC104
                      by_cases c105 : x21_3 < (l0_2.length : Int)
                      · rw [if_pos c105] at H
                        have c105b0 : decide (x21_3 < (l0_2.length : Int)) = true := decide_eq_true c105
                        clear c105
                        (first | rw [c105b0] | (simp only [i64_w, i32_w]; rw [c105b0]) | skip)
                        have H' := Aside0.mk H
                        clear H
                        have hcz106_0 : wr.cell? ⟨gb314, 0, none⟩ = some (.slice A0_0 l0_0.length c0_0) := (blk_cell BK314.out 0).trans rfl
                        have hcz106_1 : wr.cell? ⟨gb314, 1, none⟩ = some (.slice A0_1 l0_1.length c0_1) := (blk_cell BK314.out 1).trans rfl
                        have hcz106_2 : wr.cell? ⟨gb314, 2, none⟩ = some (.slice A0_2 l0_2.length c0_2) := (blk_cell BK314.out 2).trans rfl
                        have hcz106_3 : wr.cell? ⟨gb314, 3, none⟩ = some (.slice A0_3 l0_3.length c0_3) := (blk_cell BK314.out 3).trans rfl
                        have hfz106_0 := blk_frozen BK314.out 0
                        have hfz106_1 := blk_frozen BK314.out 1
                        have hfz106_2 := blk_frozen BK314.out 2
                        have hfz106_3 := blk_frozen BK314.out 3
                        go_wp2
                        go_meet
                        case rel => exact ⟨_, (decide (x21_3 < 6)), (by first | rfl | (simp; done) | (simp [*]; done)), H', ⟨by have := HK1.out; have := HJ14.out; have := HK3.out; first | omega | exact Nat.le_refl _⟩, ⟨by (with_reducible repeat (first | refine blk_drewN ?_ _ | refine blk_drew ?_ | refine blk_alloc ?_ _)); exact BK314.out⟩, ⟨by repeat (first | (with_reducible first | exact HB.out | apply below_alloc | apply pw_below_drewN | apply below_drew1 | refine below_set ?_ GE314.out) | exact HB.out)⟩⟩
                      · rw [if_neg c105] at H
                        have c105b0 : decide (x21_3 < (l0_2.length : Int)) = false := decide_eq_false c105
                        clear c105
                        (first | rw [c105b0] | (simp only [i64_w, i32_w]; rw [c105b0]) | skip)
                        have H' := Aside0.mk H
                        clear H
                        have hcz107_0 : wr.cell? ⟨gb314, 0, none⟩ = some (.slice A0_0 l0_0.length c0_0) := (blk_cell BK314.out 0).trans rfl
                        have hcz107_1 : wr.cell? ⟨gb314, 1, none⟩ = some (.slice A0_1 l0_1.length c0_1) := (blk_cell BK314.out 1).trans rfl
                        have hcz107_2 : wr.cell? ⟨gb314, 2, none⟩ = some (.slice A0_2 l0_2.length c0_2) := (blk_cell BK314.out 2).trans rfl
                        have hcz107_3 : wr.cell? ⟨gb314, 3, none⟩ = some (.slice A0_3 l0_3.length c0_3) := (blk_cell BK314.out 3).trans rfl
                        have hfz107_0 := blk_frozen BK314.out 0
                        have hfz107_1 := blk_frozen BK314.out 1
                        have hfz107_2 := blk_frozen BK314.out 2
                        have hfz107_3 := blk_frozen BK314.out 3
                        go_wp2
                        go_meet
                        case rel => exact ⟨_, (false), (by first | rfl | (simp; done) | (simp [*]; done)), H', ⟨by have := HK1.out; have := HJ14.out; have := HK3.out; first | omega | exact Nat.le_refl _⟩, ⟨by (with_reducible repeat (first | refine blk_drewN ?_ _ | refine blk_drew ?_ | refine blk_alloc ?_ _)); exact BK314.out⟩, ⟨by repeat (first | (with_reducible first | exact HB.out | apply below_alloc | apply pw_below_drewN | apply below_drew1 | refine below_set ?_ GE314.out) | exact HB.out)⟩⟩
                    case rest => as_aux_lemma =>
                      clear HC104
                      try clear c1
                      try clear c2
                      try clear p2
                      try clear c3
                      try clear p3
                      try clear q3
                      try clear hx3
                      try clear c4
                      try clear c5
                      try clear c6
                      try clear p6
                      try clear c7
                      try clear c8
                      try clear c9
                      try clear c10
                      try clear c16
                      try clear c16b0
                      try clear c19
                      try clear c20
                      try clear c20b0
                      try clear c21
                      try clear c21b0
                      try clear c26
                      try clear c26b0
                      try clear c28
                      try clear c29
                      try clear c30
                      try clear c30b0
                      try clear c31
                      try clear c31b0
                      try clear c32
                      try clear p32
                      try clear q32
                      try clear hx32
                      try clear p33
                      try clear q33
                      try clear hx33
                      try clear p34
                      try clear q34
                      try clear hx34
                      try clear p35
                      try clear q35
                      try clear hx35
                      try clear c37
                      try clear c38
                      try clear c40
                      try clear c44
                      try clear c45
                      try clear c46
                      try clear c47
                      try clear c47b0
                      try clear c48
                      try clear c48b0
                      try clear c49
                      try clear c51
                      try clear c51b0
                      try clear c51b1
                      try clear c53
                      try clear c53b0
                      try clear c53b1
                      try clear c55
                      try clear c55b0
                      try clear c55b1
                      try clear c57
                      try clear p64
                      try clear c67
                      try clear c68
                      try clear c68b0
                      try clear c69
                      try clear c69b0
                      try clear c70
                      try clear c70b0
                      try clear c74
                      try clear c76
                      try clear c77
                      try clear c77b0
                      try clear c78
                      try clear c78b0
                      try clear c80
                      try clear c80b0
                      try clear c82
                      try clear c82b0
                      try clear c82b1
                      try clear c83
                      try clear c83b0
                      try clear c83b1
                      try clear c88
                      try clear c88b0
                      try clear c88b1
                      try clear c89
                      try clear c89b0
                      try clear c89b1
                      try clear c94
                      try clear c94b0
                      try clear c94b1
                      try clear c95
                      try clear c95b0
                      try clear c95b1
                      try clear c96
                      try clear c96b0
                      try clear c97
                      try clear c97b0
                      try clear c99
                      try clear c105
                      try clear c105b0
                      try clear hcz100_0
                      try clear hcz100_1
                      try clear hcz100_2
                      try clear hcz100_3
                      try clear hcz102_0
                      try clear hcz102_1
                      try clear hcz102_2
                      try clear hcz102_3
                      try clear hcz106_0
                      try clear hcz106_1
                      try clear hcz106_2
                      try clear hcz106_3
                      try clear hcz107_0
                      try clear hcz107_1
                      try clear hcz107_2
                      try clear hcz107_3
                      try clear hcz13_0
                      try clear hcz13_1
                      try clear hcz13_2
                      try clear hcz13_3
                      try clear hcz17_0
                      try clear hcz17_1
                      try clear hcz17_2
                      try clear hcz17_3
                      try clear hcz18_0
                      try clear hcz18_1
                      try clear hcz18_2
                      try clear hcz18_3
                      try clear hcz23_0
                      try clear hcz23_1
                      try clear hcz23_2
                      try clear hcz23_3
                      try clear hcz5_0
                      try clear hcz5_1
                      try clear hcz5_2
                      try clear hcz5_3
                      try clear hcz9_0
                      try clear hcz9_1
                      try clear hcz9_2
                      try clear hcz9_3
                      try clear hfz100_0
                      try clear hfz100_1
                      try clear hfz100_2
                      try clear hfz100_3
                      try clear hfz102_0
                      try clear hfz102_1
                      try clear hfz102_2
                      try clear hfz102_3
                      try clear hfz106_0
                      try clear hfz106_1
                      try clear hfz106_2
                      try clear hfz106_3
                      try clear hfz107_0
                      try clear hfz107_1
                      try clear hfz107_2
                      try clear hfz107_3
                      try clear hfz13_0
                      try clear hfz13_1
                      try clear hfz13_2
                      try clear hfz13_3
                      try clear hfz17_0
                      try clear hfz17_1
                      try clear hfz17_2
                      try clear hfz17_3
                      try clear hfz18_0
                      try clear hfz18_1
                      try clear hfz18_2
                      try clear hfz18_3
                      try clear hfz23_0
                      try clear hfz23_1
                      try clear hfz23_2
                      try clear hfz23_3
                      try clear hfz5_0
                      try clear hfz5_1
                      try clear hfz5_2
                      try clear hfz5_3
                      try clear hfz9_0
                      try clear hfz9_1
                      try clear hfz9_2
                      try clear hfz9_3
                      try clear hx322_0
                      try clear hx326_0
                      try clear hx328_0
                      try clear hx330_0
                      try clear hx335_0
                      try clear hx338_0
                      try clear hx342_0
                      try clear hx344_0
                      try clear hx350_0
                      try clear hx354_0
                      try clear p2
                      try clear p3
                      try clear p32
                      try clear p322
                      try clear p326
                      try clear p328
                      try clear p33
                      try clear p330
                      try clear p335
                      try clear p338
                      try clear p34
                      try clear p342
                      try clear p344
                      try clear p35
                      try clear p350
                      try clear p354
                      try clear p6
                      try clear p64
                      try clear q3
                      try clear q32
                      try clear q322
                      try clear q326
                      try clear q328
                      try clear q33
                      try clear q330
                      try clear q335
                      try clear q338
                      try clear q34
                      try clear q342
                      try clear q344
                      try clear q35
                      try clear q350
                      try clear q354
                      obtain ⟨kq, x183_103, rfl, HA, HJ103, BK314, HB⟩ := hcut
                      cases kq with
                      | zero => exact absurd HA.out (by simp [herbariumlaw13_SpaceFinds.j9])
                      | succ kj103 =>
                        have H := HA.out
                        clear HA
                        simp only [herbariumlaw13_SpaceFinds.j9] at H
                        by_cases c108 : x183_103 = true
                        · subst c108
                          have H1 : (if 0 ≤ x21_3 then (if x21_3 < (l0_2.length : Int) then ((space_Need.f ((rd_T27 l0_2 x21_3).f0) ((rd_T27 l0_2 x21_3).f1)).bind fun bt362 => ((herbariumref1_Bits.f kj103 ((rd_T27 l0_2 x21_3).f0) ((rd_T27 l0_2 x21_3).f1)).bind fun t365 => (if t365 = true then ((herbariumref13_Need.f ((rd_T27 l0_2 x21_3).f0) ((rd_T27 l0_2 x21_3).f1)).bind fun t367 => ((herbariumlaw13_num.f bt362.2).bind fun t368 => (if t368 = 0 then (if bt362.1 = t367 then (herbariumlaw13_SpaceFinds.l3 kj103 (wrap64 (x21_3 + 1)) l0_0 l0_1 l0_2 l0_3) else (some false)) else (some false)))) else ((herbariumlaw13_num.f bt362.2).bind fun t369 => (if t369 = 1 then (if bt362.1 = 0 then (herbariumlaw13_SpaceFinds.l3 kj103 (wrap64 (x21_3 + 1)) l0_0 l0_1 l0_2 l0_3) else (some false)) else (some false)))))) else (none)) else (none)) = some true := by rw [if_pos rfl] at H; exact H
                          clear H
                          have H := H1
                          clear H1
                          by_cases c109 : 0 ≤ x21_3
                          · rw [if_pos c109] at H
                            have c109b0 : decide (0 ≤ x21_3) = true := decide_eq_true c109
                            clear c109
                            by_cases c110 : x21_3 < (l0_2.length : Int)
                            · rw [if_pos c110] at H
                              have c110b0 : decide (x21_3 < (l0_2.length : Int)) = true := decide_eq_true c110
                              clear c110
                              replace H := Option.bind_eq_some_iff.mp H
                              obtain ⟨⟨t362, t363⟩, A1110, H⟩ := H
                              replace H : ((herbariumref1_Bits.f kj103 ((rd_T27 l0_2 x21_3).f0) ((rd_T27 l0_2 x21_3).f1)).bind fun t365 => (if t365 = true then ((herbariumref13_Need.f ((rd_T27 l0_2 x21_3).f0) ((rd_T27 l0_2 x21_3).f1)).bind fun t367 => ((herbariumlaw13_num.f t363).bind fun t368 => (if t368 = 0 then (if t362 = t367 then (herbariumlaw13_SpaceFinds.l3 kj103 (wrap64 (x21_3 + 1)) l0_0 l0_1 l0_2 l0_3) else (some false)) else (some false)))) else ((herbariumlaw13_num.f t363).bind fun t369 => (if t369 = 1 then (if t362 = 0 then (herbariumlaw13_SpaceFinds.l3 kj103 (wrap64 (x21_3 + 1)) l0_0 l0_1 l0_2 l0_3) else (some false)) else (some false))))) = some true := H
                              have A111 := Aside0.mk A1110
                              clear A1110
                              replace H := Option.bind_eq_some_iff.mp H
                              obtain ⟨t365, A1120, H⟩ := H
                              replace H : (if t365 = true then ((herbariumref13_Need.f ((rd_T27 l0_2 x21_3).f0) ((rd_T27 l0_2 x21_3).f1)).bind fun t367 => ((herbariumlaw13_num.f t363).bind fun t368 => (if t368 = 0 then (if t362 = t367 then (herbariumlaw13_SpaceFinds.l3 kj103 (wrap64 (x21_3 + 1)) l0_0 l0_1 l0_2 l0_3) else (some false)) else (some false)))) else ((herbariumlaw13_num.f t363).bind fun t369 => (if t369 = 1 then (if t362 = 0 then (herbariumlaw13_SpaceFinds.l3 kj103 (wrap64 (x21_3 + 1)) l0_0 l0_1 l0_2 l0_3) else (some false)) else (some false)))) = some true := H
                              have A112 := Aside0.mk A1120
                              clear A1120
                              by_cases c113 : t365 = true
                              · subst c113
                                have H1 : ((herbariumref13_Need.f ((rd_T27 l0_2 x21_3).f0) ((rd_T27 l0_2 x21_3).f1)).bind fun t367 => ((herbariumlaw13_num.f t363).bind fun t368 => (if t368 = 0 then (if t362 = t367 then (herbariumlaw13_SpaceFinds.l3 kj103 (wrap64 (x21_3 + 1)) l0_0 l0_1 l0_2 l0_3) else (some false)) else (some false)))) = some true := by rw [if_pos rfl] at H; exact H
                                clear H
                                have H := H1
                                clear H1
                                replace H := Option.bind_eq_some_iff.mp H
                                obtain ⟨t367, A1140, H⟩ := H
                                replace H : ((herbariumlaw13_num.f t363).bind fun t368 => (if t368 = 0 then (if t362 = t367 then (herbariumlaw13_SpaceFinds.l3 kj103 (wrap64 (x21_3 + 1)) l0_0 l0_1 l0_2 l0_3) else (some false)) else (some false))) = some true := H
                                have A114 := Aside0.mk A1140
                                clear A1140
                                replace H := Option.bind_eq_some_iff.mp H
                                obtain ⟨t368, A1150, H⟩ := H
                                replace H : (if t368 = 0 then (if t362 = t367 then (herbariumlaw13_SpaceFinds.l3 kj103 (wrap64 (x21_3 + 1)) l0_0 l0_1 l0_2 l0_3) else (some false)) else (some false)) = some true := H
                                have A115 := Aside0.mk A1150
                                clear A1150
                                by_cases c116 : t368 = 0
                                · rw [if_pos c116] at H
                                  have c116b0 : (t368 == 0) = true := beq_iff_eq.mpr c116
                                  have c116b1 : (t368 != 0) = false := bne_eq_false_iff_eq.mpr c116
                                  clear c116
                                  by_cases c117 : t362 = t367
                                  · rw [if_pos c117] at H
                                    have c117b0 : (t362 == t367) = true := beq_iff_eq.mpr c117
                                    have c117b1 : (t362 != t367) = false := bne_eq_false_iff_eq.mpr c117
                                    clear c117
                                    have H' := Aside0.mk H
                                    clear H
                                    have hcz118_0 : wc.cell? ⟨gb314, 0, none⟩ = some (.slice A0_0 l0_0.length c0_0) := (blk_cell BK314.out 0).trans rfl
                                    have hcz118_1 : wc.cell? ⟨gb314, 1, none⟩ = some (.slice A0_1 l0_1.length c0_1) := (blk_cell BK314.out 1).trans rfl
                                    have hcz118_2 : wc.cell? ⟨gb314, 2, none⟩ = some (.slice A0_2 l0_2.length c0_2) := (blk_cell BK314.out 2).trans rfl
                                    have hcz118_3 : wc.cell? ⟨gb314, 3, none⟩ = some (.slice A0_3 l0_3.length c0_3) := (blk_cell BK314.out 3).trans rfl
                                    have hfz118_0 := blk_frozen BK314.out 0
                                    have hfz118_1 := blk_frozen BK314.out 1
                                    have hfz118_2 := blk_frozen BK314.out 2
                                    have hfz118_3 := blk_frozen BK314.out 3
                                    have p361 : 0 ≤ (x21_3 : Int) := of_decide_eq_true (by first | (with_reducible assumption) | assumption)
                                    have q361 : x21_3 < (l0_2.length : Int) := of_decide_eq_true (by first | (with_reducible assumption) | assumption)
                                    obtain ⟨ad361, e361, hx361_0, hx361_1⟩ := at_T27 HR0_2.out x21_3 p361 q361
                                    cases e361
                                    replace hx361_0 := (HB.out.cell (World.block_lt_of_cell? w _ hx361_0)).trans hx361_0
                                    replace hx361_1 := (HB.out.cell (World.block_lt_of_cell? w _ hx361_1)).trans hx361_1
                                    replace p361 := eq_true p361
                                    replace q361 := eq_true q361
                                    go_wp2_with (first | ((with_reducible refine gate_callee (f := 34) rfl ?_); refine goesL_ (some 193) rfl rfl Try.func34 (by kernel_rfl) rfl #[.agg #[.string ((rd_T27 l0_2 x21_3).f0), .int .i64 ((rd_T27 l0_2 x21_3).f1)]] rfl (by (try simp only [List.map_toArray, List.map_cons, List.map_nil]); first | done | rfl | (simp only [List.length_drop, List.length_take]; rfl)) ?_; (with_reducible refine (space_Need.calls ((rd_T27 l0_2 x21_3).f0) ((rd_T27 l0_2 x21_3).f1) t362 t363 _ A111.out).mono ?_); rintro e w119 ⟨rfl, hb⟩; refine ⟨_, rfl, ?_⟩; have n0_ := Aside0.mk (blk_below (g := gb314) (o := .cells #[.slice A0_0 l0_0.length c0_0, .slice A0_1 l0_1.length c0_1, .slice (some ad361) l0_2.length c0_2, .slice A0_3 l0_3.length c0_3] 38 (0, 0)) (by (with_reducible repeat (first | refine blk_drewN ?_ _ | refine blk_drew ?_ | refine blk_alloc ?_ _)); exact BK314.out) hb); have n1_ := Aside0.mk (below_step (by repeat (first | (with_reducible first | exact HB.out | apply below_alloc | apply pw_below_drewN | apply below_drew1 | refine below_set ?_ GE314.out) | exact HB.out)) hb); clear BK314; clear HB; have BK314 := n0_; have HB := n1_; clear n0_ n1_; (try clear hb); (try clear hb2); (try clear hk); (try clear hi); have hcz120_0 : w119.cell? ⟨gb314, 0, none⟩ = some (.slice A0_0 l0_0.length c0_0) := (blk_cell BK314.out 0).trans rfl; have hcz120_1 : w119.cell? ⟨gb314, 1, none⟩ = some (.slice A0_1 l0_1.length c0_1) := (blk_cell BK314.out 1).trans rfl; have hcz120_2 : w119.cell? ⟨gb314, 2, none⟩ = some (.slice (some ad361) l0_2.length c0_2) := (blk_cell BK314.out 2).trans rfl; have hcz120_3 : w119.cell? ⟨gb314, 3, none⟩ = some (.slice A0_3 l0_3.length c0_3) := (blk_cell BK314.out 3).trans rfl; have hfz120_0 := blk_frozen BK314.out 0; have hfz120_1 := blk_frozen BK314.out 1; have hfz120_2 := blk_frozen BK314.out 2; have hfz120_3 := blk_frozen BK314.out 3; have p364 : 0 ≤ (x21_3 : Int) := of_decide_eq_true (by first | (with_reducible assumption) | assumption); have q364 : x21_3 < (l0_2.length : Int) := of_decide_eq_true (by first | (with_reducible assumption) | assumption); obtain ⟨ad364, e364, hx364_0, hx364_1⟩ := at_T27 HR0_2.out x21_3 p364 q364; obtain rfl : ad361 = ad364 := (by injection e364); replace hx364_0 := (HB.out.cell (World.block_lt_of_cell? w _ hx364_0)).trans hx364_0; replace hx364_1 := (HB.out.cell (World.block_lt_of_cell? w _ hx364_1)).trans hx364_1; replace p364 := eq_true p364; replace q364 := eq_true q364) | ((with_reducible refine gate_callee (f := 50) rfl ?_); refine goesL_ (some 202) rfl rfl Try.func50 (by kernel_rfl) rfl #[.agg #[.string ((rd_T27 l0_2 x21_3).f0), .int .i64 ((rd_T27 l0_2 x21_3).f1)]] rfl (by (try simp only [List.map_toArray, List.map_cons, List.map_nil]); first | done | rfl | (simp only [List.length_drop, List.length_take]; rfl)) ?_; (with_reducible refine (herbariumref1_Bits.calls kj103 ((rd_T27 l0_2 x21_3).f0) ((rd_T27 l0_2 x21_3).f1) true _ A112.out).mono ?_); rintro e w121 ⟨rfl, hb⟩; refine ⟨_, rfl, ?_⟩; have n0_ := Aside0.mk (blk_below (g := gb314) (o := .cells #[.slice A0_0 l0_0.length c0_0, .slice A0_1 l0_1.length c0_1, .slice (some ad361) l0_2.length c0_2, .slice A0_3 l0_3.length c0_3] 38 (0, 0)) (by (with_reducible repeat (first | refine blk_drewN ?_ _ | refine blk_drew ?_ | refine blk_alloc ?_ _)); exact BK314.out) hb); have n1_ := Aside0.mk (below_step (by repeat (first | (with_reducible first | exact HB.out | apply below_alloc | apply pw_below_drewN | apply below_drew1 | refine below_set ?_ GE314.out) | exact HB.out)) hb); clear BK314; clear HB; have BK314 := n0_; have HB := n1_; clear n0_ n1_; (try clear hb); (try clear hb2); (try clear hk); (try clear hi); have hcz122_0 : w121.cell? ⟨gb314, 0, none⟩ = some (.slice A0_0 l0_0.length c0_0) := (blk_cell BK314.out 0).trans rfl; have hcz122_1 : w121.cell? ⟨gb314, 1, none⟩ = some (.slice A0_1 l0_1.length c0_1) := (blk_cell BK314.out 1).trans rfl; have hcz122_2 : w121.cell? ⟨gb314, 2, none⟩ = some (.slice (some ad361) l0_2.length c0_2) := (blk_cell BK314.out 2).trans rfl; have hcz122_3 : w121.cell? ⟨gb314, 3, none⟩ = some (.slice A0_3 l0_3.length c0_3) := (blk_cell BK314.out 3).trans rfl; have hfz122_0 := blk_frozen BK314.out 0; have hfz122_1 := blk_frozen BK314.out 1; have hfz122_2 := blk_frozen BK314.out 2; have hfz122_3 := blk_frozen BK314.out 3; have p366 : 0 ≤ (x21_3 : Int) := of_decide_eq_true (by first | (with_reducible assumption) | assumption); have q366 : x21_3 < (l0_2.length : Int) := of_decide_eq_true (by first | (with_reducible assumption) | assumption); obtain ⟨ad366, e366, hx366_0, hx366_1⟩ := at_T27 HR0_2.out x21_3 p366 q366; obtain rfl : ad361 = ad366 := (by injection e366); replace hx366_0 := (HB.out.cell (World.block_lt_of_cell? w _ hx366_0)).trans hx366_0; replace hx366_1 := (HB.out.cell (World.block_lt_of_cell? w _ hx366_1)).trans hx366_1; replace p366 := eq_true p366; replace q366 := eq_true q366) | ((with_reducible refine gate_callee (f := 51) rfl ?_); refine goesL_ (some 209) rfl rfl Try.func51 (by kernel_rfl) rfl #[.agg #[.string ((rd_T27 l0_2 x21_3).f0), .int .i64 ((rd_T27 l0_2 x21_3).f1)]] rfl (by (try simp only [List.map_toArray, List.map_cons, List.map_nil]); first | done | rfl | (simp only [List.length_drop, List.length_take]; rfl)) ?_; (with_reducible refine (herbariumref13_Need.calls ((rd_T27 l0_2 x21_3).f0) ((rd_T27 l0_2 x21_3).f1) t367 _ A114.out).mono ?_); rintro e w123 ⟨rfl, hb⟩; refine ⟨_, rfl, ?_⟩; have n0_ := Aside0.mk (blk_below (g := gb314) (o := .cells #[.slice A0_0 l0_0.length c0_0, .slice A0_1 l0_1.length c0_1, .slice (some ad361) l0_2.length c0_2, .slice A0_3 l0_3.length c0_3] 38 (0, 0)) (by (with_reducible repeat (first | refine blk_drewN ?_ _ | refine blk_drew ?_ | refine blk_alloc ?_ _)); exact BK314.out) hb); have n1_ := Aside0.mk (below_step (by repeat (first | (with_reducible first | exact HB.out | apply below_alloc | apply pw_below_drewN | apply below_drew1 | refine below_set ?_ GE314.out) | exact HB.out)) hb); clear BK314; clear HB; have BK314 := n0_; have HB := n1_; clear n0_ n1_; (try clear hb); (try clear hb2); (try clear hk); (try clear hi)) | ((with_reducible refine gate_callee (f := 31) rfl ?_); refine goesL_ (some 211) rfl rfl Try.func31 (by kernel_rfl) rfl #[.int .i64 t363] rfl (by (try simp only [List.map_toArray, List.map_cons, List.map_nil]); first | done | rfl | (simp only [List.length_drop, List.length_take]; rfl)) ?_; (with_reducible refine (herbariumlaw13_num.calls t363 t368 _ A115.out).mono ?_); rintro e w' ⟨rfl, ⟨nd, rfl⟩⟩; refine ⟨_, rfl, ?_⟩))
                                    go_roundg kj103
                                    case measure => have := HK1.out; have := HJ14.out; have := HK3.out; have := HJ103.out; omega
                                    case rel => exact ⟨(wrap64 (x21_3 + 1)), (by first | rfl | (simp; done) | (simp [*]; done)), H', ⟨by have := HK1.out; have := HJ14.out; have := HK3.out; have := HJ103.out; omega⟩, ⟨by (with_reducible repeat (first | refine blk_drewN ?_ _ | refine blk_drew ?_ | refine blk_alloc ?_ _)); exact BK314.out⟩, ⟨by repeat (first | (with_reducible first | exact HB.out | apply below_alloc | apply pw_below_drewN | apply below_drew1 | refine below_set ?_ GE314.out) | exact HB.out)⟩⟩
                                  · rw [if_neg c117] at H
                                    have c117b0 : (t362 == t367) = false := beq_eq_false_iff_ne.mpr c117
                                    have c117b1 : (t362 != t367) = true := bne_iff_ne.mpr c117
                                    exact absurd (Option.some.inj H) (by decide)
                                · rw [if_neg c116] at H
                                  have c116b0 : (t368 == 0) = false := beq_eq_false_iff_ne.mpr c116
                                  have c116b1 : (t368 != 0) = true := bne_iff_ne.mpr c116
                                  exact absurd (Option.some.inj H) (by decide)
                              · replace c113 := Bool.eq_false_iff.mpr c113
                                subst c113
                                have H1 : ((herbariumlaw13_num.f t363).bind fun t369 => (if t369 = 1 then (if t362 = 0 then (herbariumlaw13_SpaceFinds.l3 kj103 (wrap64 (x21_3 + 1)) l0_0 l0_1 l0_2 l0_3) else (some false)) else (some false))) = some true := by rw [if_neg (show ¬ (false = true) by decide)] at H; exact H
                                clear H
                                have H := H1
                                clear H1
                                replace H := Option.bind_eq_some_iff.mp H
                                obtain ⟨t369, A1360, H⟩ := H
                                replace H : (if t369 = 1 then (if t362 = 0 then (herbariumlaw13_SpaceFinds.l3 kj103 (wrap64 (x21_3 + 1)) l0_0 l0_1 l0_2 l0_3) else (some false)) else (some false)) = some true := H
                                have A136 := Aside0.mk A1360
                                clear A1360
                                by_cases c137 : t369 = 1
                                · rw [if_pos c137] at H
                                  have c137b0 : (t369 == 1) = true := beq_iff_eq.mpr c137
                                  have c137b1 : (t369 != 1) = false := bne_eq_false_iff_eq.mpr c137
                                  clear c137
                                  by_cases c138 : t362 = 0
                                  · rw [if_pos c138] at H
                                    have c138b0 : (t362 == 0) = true := beq_iff_eq.mpr c138
                                    have c138b1 : (t362 != 0) = false := bne_eq_false_iff_eq.mpr c138
                                    clear c138
                                    have H' := Aside0.mk H
                                    clear H
                                    have hcz139_0 : wc.cell? ⟨gb314, 0, none⟩ = some (.slice A0_0 l0_0.length c0_0) := (blk_cell BK314.out 0).trans rfl
                                    have hcz139_1 : wc.cell? ⟨gb314, 1, none⟩ = some (.slice A0_1 l0_1.length c0_1) := (blk_cell BK314.out 1).trans rfl
                                    have hcz139_2 : wc.cell? ⟨gb314, 2, none⟩ = some (.slice A0_2 l0_2.length c0_2) := (blk_cell BK314.out 2).trans rfl
                                    have hcz139_3 : wc.cell? ⟨gb314, 3, none⟩ = some (.slice A0_3 l0_3.length c0_3) := (blk_cell BK314.out 3).trans rfl
                                    have hfz139_0 := blk_frozen BK314.out 0
                                    have hfz139_1 := blk_frozen BK314.out 1
                                    have hfz139_2 := blk_frozen BK314.out 2
                                    have hfz139_3 := blk_frozen BK314.out 3
                                    have p361 : 0 ≤ (x21_3 : Int) := of_decide_eq_true (by first | (with_reducible assumption) | assumption)
                                    have q361 : x21_3 < (l0_2.length : Int) := of_decide_eq_true (by first | (with_reducible assumption) | assumption)
                                    obtain ⟨ad361, e361, hx361_0, hx361_1⟩ := at_T27 HR0_2.out x21_3 p361 q361
                                    cases e361
                                    replace hx361_0 := (HB.out.cell (World.block_lt_of_cell? w _ hx361_0)).trans hx361_0
                                    replace hx361_1 := (HB.out.cell (World.block_lt_of_cell? w _ hx361_1)).trans hx361_1
                                    replace p361 := eq_true p361
                                    replace q361 := eq_true q361
                                    go_wp2_with (first | ((with_reducible refine gate_callee (f := 34) rfl ?_); refine goesL_ (some 193) rfl rfl Try.func34 (by kernel_rfl) rfl #[.agg #[.string ((rd_T27 l0_2 x21_3).f0), .int .i64 ((rd_T27 l0_2 x21_3).f1)]] rfl (by (try simp only [List.map_toArray, List.map_cons, List.map_nil]); first | done | rfl | (simp only [List.length_drop, List.length_take]; rfl)) ?_; (with_reducible refine (space_Need.calls ((rd_T27 l0_2 x21_3).f0) ((rd_T27 l0_2 x21_3).f1) t362 t363 _ A111.out).mono ?_); rintro e w140 ⟨rfl, hb⟩; refine ⟨_, rfl, ?_⟩; have n0_ := Aside0.mk (blk_below (g := gb314) (o := .cells #[.slice A0_0 l0_0.length c0_0, .slice A0_1 l0_1.length c0_1, .slice (some ad361) l0_2.length c0_2, .slice A0_3 l0_3.length c0_3] 38 (0, 0)) (by (with_reducible repeat (first | refine blk_drewN ?_ _ | refine blk_drew ?_ | refine blk_alloc ?_ _)); exact BK314.out) hb); have n1_ := Aside0.mk (below_step (by repeat (first | (with_reducible first | exact HB.out | apply below_alloc | apply pw_below_drewN | apply below_drew1 | refine below_set ?_ GE314.out) | exact HB.out)) hb); clear BK314; clear HB; have BK314 := n0_; have HB := n1_; clear n0_ n1_; (try clear hb); (try clear hb2); (try clear hk); (try clear hi); have hcz141_0 : w140.cell? ⟨gb314, 0, none⟩ = some (.slice A0_0 l0_0.length c0_0) := (blk_cell BK314.out 0).trans rfl; have hcz141_1 : w140.cell? ⟨gb314, 1, none⟩ = some (.slice A0_1 l0_1.length c0_1) := (blk_cell BK314.out 1).trans rfl; have hcz141_2 : w140.cell? ⟨gb314, 2, none⟩ = some (.slice (some ad361) l0_2.length c0_2) := (blk_cell BK314.out 2).trans rfl; have hcz141_3 : w140.cell? ⟨gb314, 3, none⟩ = some (.slice A0_3 l0_3.length c0_3) := (blk_cell BK314.out 3).trans rfl; have hfz141_0 := blk_frozen BK314.out 0; have hfz141_1 := blk_frozen BK314.out 1; have hfz141_2 := blk_frozen BK314.out 2; have hfz141_3 := blk_frozen BK314.out 3; have p364 : 0 ≤ (x21_3 : Int) := of_decide_eq_true (by first | (with_reducible assumption) | assumption); have q364 : x21_3 < (l0_2.length : Int) := of_decide_eq_true (by first | (with_reducible assumption) | assumption); obtain ⟨ad364, e364, hx364_0, hx364_1⟩ := at_T27 HR0_2.out x21_3 p364 q364; obtain rfl : ad361 = ad364 := (by injection e364); replace hx364_0 := (HB.out.cell (World.block_lt_of_cell? w _ hx364_0)).trans hx364_0; replace hx364_1 := (HB.out.cell (World.block_lt_of_cell? w _ hx364_1)).trans hx364_1; replace p364 := eq_true p364; replace q364 := eq_true q364) | ((with_reducible refine gate_callee (f := 50) rfl ?_); refine goesL_ (some 202) rfl rfl Try.func50 (by kernel_rfl) rfl #[.agg #[.string ((rd_T27 l0_2 x21_3).f0), .int .i64 ((rd_T27 l0_2 x21_3).f1)]] rfl (by (try simp only [List.map_toArray, List.map_cons, List.map_nil]); first | done | rfl | (simp only [List.length_drop, List.length_take]; rfl)) ?_; (with_reducible refine (herbariumref1_Bits.calls kj103 ((rd_T27 l0_2 x21_3).f0) ((rd_T27 l0_2 x21_3).f1) false _ A112.out).mono ?_); rintro e w142 ⟨rfl, hb⟩; refine ⟨_, rfl, ?_⟩; have n0_ := Aside0.mk (blk_below (g := gb314) (o := .cells #[.slice A0_0 l0_0.length c0_0, .slice A0_1 l0_1.length c0_1, .slice (some ad361) l0_2.length c0_2, .slice A0_3 l0_3.length c0_3] 38 (0, 0)) (by (with_reducible repeat (first | refine blk_drewN ?_ _ | refine blk_drew ?_ | refine blk_alloc ?_ _)); exact BK314.out) hb); have n1_ := Aside0.mk (below_step (by repeat (first | (with_reducible first | exact HB.out | apply below_alloc | apply pw_below_drewN | apply below_drew1 | refine below_set ?_ GE314.out) | exact HB.out)) hb); clear BK314; clear HB; have BK314 := n0_; have HB := n1_; clear n0_ n1_; (try clear hb); (try clear hb2); (try clear hk); (try clear hi)) | ((with_reducible refine gate_callee (f := 31) rfl ?_); refine goesL_ (some 211) rfl rfl Try.func31 (by kernel_rfl) rfl #[.int .i64 t363] rfl (by (try simp only [List.map_toArray, List.map_cons, List.map_nil]); first | done | rfl | (simp only [List.length_drop, List.length_take]; rfl)) ?_; (with_reducible refine (herbariumlaw13_num.calls t363 t369 _ A136.out).mono ?_); rintro e w' ⟨rfl, ⟨nd, rfl⟩⟩; refine ⟨_, rfl, ?_⟩))
                                    go_roundg kj103
                                    case measure => have := HK1.out; have := HJ14.out; have := HK3.out; have := HJ103.out; omega
                                    case rel => exact ⟨(wrap64 (x21_3 + 1)), (by first | rfl | (simp; done) | (simp [*]; done)), H', ⟨by have := HK1.out; have := HJ14.out; have := HK3.out; have := HJ103.out; omega⟩, ⟨by (with_reducible repeat (first | refine blk_drewN ?_ _ | refine blk_drew ?_ | refine blk_alloc ?_ _)); exact BK314.out⟩, ⟨by repeat (first | (with_reducible first | exact HB.out | apply below_alloc | apply pw_below_drewN | apply below_drew1 | refine below_set ?_ GE314.out) | exact HB.out)⟩⟩
                                  · rw [if_neg c138] at H
                                    have c138b0 : (t362 == 0) = false := beq_eq_false_iff_ne.mpr c138
                                    have c138b1 : (t362 != 0) = true := bne_iff_ne.mpr c138
                                    exact absurd (Option.some.inj H) (by decide)
                                · rw [if_neg c137] at H
                                  have c137b0 : (t369 == 1) = false := beq_eq_false_iff_ne.mpr c137
                                  have c137b1 : (t369 != 1) = true := bne_iff_ne.mpr c137
                                  exact absurd (Option.some.inj H) (by decide)
                            · rw [if_neg c110] at H
                              exact absurd H (by simp)
                          · rw [if_neg c109] at H
                            exact absurd H (by simp)
                        · replace c108 := Bool.eq_false_iff.mpr c108
                          subst c108
                          have H1 : ((herbariumlaw0_Within.f 3 2).bind fun t359 => (if t359 = 1 then ((herbariumlaw13_wakes.f kj103).bind fun t360 => (some t360)) else (some false))) = some true := by rw [if_neg (show ¬ (false = true) by decide)] at H; exact H
                          clear H
                          have H := H1
                          clear H1
                          replace H := Option.bind_eq_some_iff.mp H
                          obtain ⟨t359, A1510, H⟩ := H
                          replace H : (if t359 = 1 then ((herbariumlaw13_wakes.f kj103).bind fun t360 => (some t360)) else (some false)) = some true := H
                          have A151 := Aside0.mk A1510
                          clear A1510
                          by_cases c152 : t359 = 1
                          · rw [if_pos c152] at H
                            have c152b0 : (t359 == 1) = true := beq_iff_eq.mpr c152
                            have c152b1 : (t359 != 1) = false := bne_eq_false_iff_eq.mpr c152
                            clear c152
                            replace H := Option.bind_eq_some_iff.mp H
                            obtain ⟨t360, A1530, H⟩ := H
                            replace H : (some t360) = some true := H
                            have A153 := Aside0.mk A1530
                            clear A1530
                            obtain rfl := Option.some.inj H
                            go_wp2_with (first | ((with_reducible refine gate_callee (f := 41) rfl ?_); refine goesL_ (some 219) rfl rfl Try.func41 (by kernel_rfl) rfl #[.int .i64 3, .int .i64 2] rfl (by (try simp only [List.map_toArray, List.map_cons, List.map_nil]); first | done | rfl | (simp only [List.length_drop, List.length_take]; rfl)) ?_; (with_reducible refine (herbariumlaw0_Within.calls 3 2 t359 _ A151.out).mono ?_); rintro e w' ⟨rfl, ⟨nd, rfl⟩⟩; refine ⟨_, rfl, ?_⟩) | (go_at_call 32; (with_reducible refine (herbariumlaw13_wakes.calls kj103  true _ A153.out).mono ?_); rintro e w154 ⟨rfl, hb⟩; have n0_ := Aside0.mk (blk_below (g := gb314) (o := .cells #[.slice A0_0 l0_0.length c0_0, .slice A0_1 l0_1.length c0_1, .slice A0_2 l0_2.length c0_2, .slice A0_3 l0_3.length c0_3] 38 (0, 0)) (by (with_reducible repeat (first | refine blk_drewN ?_ _ | refine blk_drew ?_ | refine blk_alloc ?_ _)); exact BK314.out) hb); have n1_ := Aside0.mk (below_step (by repeat (first | (with_reducible first | exact HB.out | apply below_alloc | apply pw_below_drewN | apply below_drew1 | refine below_set ?_ GE314.out) | exact HB.out)) hb); clear BK314; clear HB; have BK314 := n0_; have HB := n1_; clear n0_ n1_; (try clear hb); (try clear hb2); (try clear hk); (try clear hi)))
                            go_ret
                            exact ⟨by first | rfl | (simp [errW_none, errW_some] <;> rfl) | (simp [*, errW_none, errW_some] <;> rfl), by repeat (first | (with_reducible first | exact HB.out | apply below_alloc | apply pw_below_drewN | apply below_drew1 | refine below_set ?_ GE314.out) | exact HB.out)⟩
                          · rw [if_neg c152] at H
                            have c152b0 : (t359 == 1) = false := beq_eq_false_iff_ne.mpr c152
                            have c152b1 : (t359 != 1) = true := bne_iff_ne.mpr c152
                            exact absurd (Option.some.inj H) (by decide)
    · rw [if_neg c7] at H
      exact absurd H (by simp)

end Go.Proofs.Ytnpghcikhpglkaa.Q
