/- What the row of CodeAny rests on, part 5 of 6: functions, contracts, plain laws. -/
import Derived.Test.YtnpghcikhpglkaaCCodeAny3
namespace Go.Proofs.Ytnpghcikhpglkaa.Q
open Go.RowKit Go.Proofs.YtnpghcikhpglkaaW.PrintWords Go.Proofs.YtnpghcikhpglkaaW.PrintLast Go.Proofs.YtnpghcikhpglkaaW.PrintMore
attribute [local go_sem] max2_int min2_int max_two min_two max_three min_three max_four min_four   -- for this text's walks alone
set_option linter.unusedVariables false
set_option linter.unusedSimpArgs false

attribute [local go_sem high] eqA27
/-! ### herbariumlaw2_kinds: function 63 -/
mutual
def herbariumlaw2_kinds.j0 : Nat → List Int → List Int → List (S27) → List Int → Option (Bool)
 | 0, _, _, _, _ => none
 | k + 1, x1, x5, x819000, x819001 => (some (([(⟨(⟨#[]⟩ : ByteArray), 0⟩ : S27)] : List (S27)) : List (S27))).bind fun y829 => (if y829.length + x819000.length < 5864062014805 then (herbariumlaw2_kinds.l0 k x1 x5 (y829 ++ x819000) 0) else (none))
def herbariumlaw2_kinds.l0 : Nat → List Int → List Int → List (S27) → Int → Option (Bool)
 | 0, _, _, _, _ => none
 | k + 1, x1, x5, x6, x7 => if x7 < (x1.length : Int) then (if 0 ≤ x7 then (herbariumlaw2_kinds.l1 k x1 x5 x6 x7 (rd x1 x7) 0) else (none)) else ((herbariumlaw2_wakes.f k).bind fun t835 => (some t835))
def herbariumlaw2_kinds.l1 : Nat → List Int → List Int → List (S27) → Int → Int → Int → Option (Bool)
 | 0, _, _, _, _, _, _ => none
 | k + 1, x1, x5, x6, x7, x8, x9 => if x9 < (x6.length : Int) then (herbariumlaw2_kinds.j3 k x1 x5 x6 x7 x8 x9 (decide (x9 < 6))) else (herbariumlaw2_kinds.j3 k x1 x5 x6 x7 x8 x9 false)
def herbariumlaw2_kinds.j3 : Nat → List Int → List Int → List (S27) → Int → Int → Int → Bool → Option (Bool)
 | 0, _, _, _, _, _, _, _ => none
 | k + 1, x1, x5, x6, x7, x8, x9, x65 => if x65 = true then (if 0 ≤ x9 then (if x9 < (x6.length : Int) then ((herbariumref1_Bits.f k ((rd_T27 x6 x9).f0) ((rd_T27 x6 x9).f1)).bind fun t839 => (if t839 = true then ((herbariumref1_Of.f k ((rd_T27 x6 x9).f0) ((rd_T27 x6 x9).f1)).bind fun t840 => (herbariumlaw2_kinds.j4 k x1 x5 x6 x7 x8 x9 t839 t840 ((rd_T27 x6 x9).f0) ((rd_T27 x6 x9).f1))) else (herbariumlaw2_kinds.j4 k x1 x5 x6 x7 x8 x9 t839 ([] : List Int) ((rd_T27 x6 x9).f0) ((rd_T27 x6 x9).f1)))) else (none)) else (none)) else (herbariumlaw2_kinds.l0 k x1 x5 x6 (wrap64 (x7 + 1)))
def herbariumlaw2_kinds.j4 : Nat → List Int → List Int → List (S27) → Int → Int → Int → Bool → List Int → ByteArray → Int → Option (Bool)
 | 0, _, _, _, _, _, _, _, _, _, _ => none
 | k + 1, x1, x5, x6, x7, x8, x9, x11, x12, x839000, x839001 => herbariumlaw2_kinds.l2 k x1 x5 x6 x7 x8 x9 x11 x12 0 x839000 x839001
def herbariumlaw2_kinds.l2 : Nat → List Int → List Int → List (S27) → Int → Int → Int → Bool → List Int → Int → ByteArray → Int → Option (Bool)
 | 0, _, _, _, _, _, _, _, _, _, _, _ => none
 | k + 1, x1, x5, x6, x7, x8, x9, x11, x12, x13, x839000, x839001 => if x13 < (x5.length : Int) then (if 0 ≤ x13 then ((code_Put.f x839000 x839001 x8 (rd x5 x13)).bind fun bt844 => ((code_Size.f x8 (rd x5 x13)).bind fun bt849 => ((herbariumref1_Code.f x8 (rd x5 x13)).bind fun t853 => (if t853 = true then ((herbariumref1_List_Write.f k ([] : List Int) x8 (rd x5 x13)).bind fun t855 => (if x11 = true then (if (wrap64 (x839001 + (t855.length : Int))) ≤ 6000 then ((some (([] : List Int) : List Int)).bind fun y858 => (if y858.length + x12.length < 140737488355328 then ((some (y858 ++ x12 : List Int)).bind fun y861 => (if y861.length + t855.length < 140737488355328 then ((herbariumref1_List_Pack.f k (y861 ++ t855)).bind fun bt867 => (herbariumlaw2_kinds.j6 k x1 x5 x6 x7 x8 x9 x11 x12 x13 bt844.2.2 bt849.1 bt849.2 0 0 (t855.length : Int) x839000 x839001 bt844.1 bt844.2.1 bt867.1 bt867.2)) else (none))) else (none))) else (herbariumlaw2_kinds.j6 k x1 x5 x6 x7 x8 x9 x11 x12 x13 bt844.2.2 bt849.1 bt849.2 2 0 (t855.length : Int) x839000 x839001 bt844.1 bt844.2.1 (⟨#[]⟩ : ByteArray) 0)) else (herbariumlaw2_kinds.j6 k x1 x5 x6 x7 x8 x9 x11 x12 x13 bt844.2.2 bt849.1 bt849.2 1 0 (t855.length : Int) x839000 x839001 bt844.1 bt844.2.1 (⟨#[]⟩ : ByteArray) 0))) else (herbariumlaw2_kinds.j6 k x1 x5 x6 x7 x8 x9 x11 x12 x13 bt844.2.2 bt849.1 bt849.2 1 1 0 x839000 x839001 bt844.1 bt844.2.1 (⟨#[]⟩ : ByteArray) 0))))) else (none)) else (herbariumlaw2_kinds.l3 k x1 x5 x6 x7 x8 x9 x11 x12 (-1) x839000 x839001)
def herbariumlaw2_kinds.j6 : Nat → List Int → List Int → List (S27) → Int → Int → Int → Bool → List Int → Int → Int → Int → Int → Int → Int → Int → ByteArray → Int → ByteArray → Int → ByteArray → Int → Option (Bool)
 | 0, _, _, _, _, _, _, _, _, _, _, _, _, _, _, _, _, _, _, _, _, _ => none
 | k + 1, x1, x5, x6, x7, x8, x9, x11, x12, x13, x15, x16, x17, x18, x19, x20, x839000, x839001, x848000, x848001, x852000, x852001 => (herbariumlaw2_num.f x15).bind fun t869 => (if t869 = x18 then (if (!(x848000.toList == x852000.toList) || (!(x848001 == x852001))) = true then (some false) else ((herbariumlaw2_num.f x17).bind fun t870 => (if t870 = x19 then (if x16 = x20 then (herbariumlaw2_kinds.l2 k x1 x5 x6 x7 x8 x9 x11 x12 (wrap64 (x13 + 1)) x839000 x839001) else (some false)) else (some false)))) else (some false))
def herbariumlaw2_kinds.l3 : Nat → List Int → List Int → List (S27) → Int → Int → Int → Bool → List Int → Int → ByteArray → Int → Option (Bool)
 | 0, _, _, _, _, _, _, _, _, _, _, _ => none
 | k + 1, x1, x5, x6, x7, x8, x9, x11, x12, x23, x839000, x839001 => if x23 ≤ (wrap64 (x839001 + 1)) then (herbariumlaw2_kinds.j8 k x1 x5 x6 x7 x8 x9 x11 x12 x23 (decide (x23 < 60)) x839000 x839001) else (herbariumlaw2_kinds.j8 k x1 x5 x6 x7 x8 x9 x11 x12 x23 false x839000 x839001)
def herbariumlaw2_kinds.j8 : Nat → List Int → List Int → List (S27) → Int → Int → Int → Bool → List Int → Int → Bool → ByteArray → Int → Option (Bool)
 | 0, _, _, _, _, _, _, _, _, _, _, _, _ => none
 | k + 1, x1, x5, x6, x7, x8, x9, x11, x12, x23, x157, x839000, x839001 => if x157 = true then ((code_Take.f k x839000 x839001 x23 x8).bind fun bt871 => (if x11 = true then ((herbariumref0_Num.f x23 x839001).bind fun t874 => (if t874 = true then ((herbariumref0_Between.f x8 1 5).bind fun t875 => (herbariumlaw2_kinds.j9 k x1 x5 x6 x7 x8 x9 x11 x12 x23 bt871.1 bt871.2.1 bt871.2.2 1 0 0 t875 x839000 x839001)) else (herbariumlaw2_kinds.j9 k x1 x5 x6 x7 x8 x9 x11 x12 x23 bt871.1 bt871.2.1 bt871.2.2 1 0 0 false x839000 x839001))) else (herbariumlaw2_kinds.j9 k x1 x5 x6 x7 x8 x9 x11 x12 x23 bt871.1 bt871.2.1 bt871.2.2 1 0 0 false x839000 x839001))) else (herbariumlaw2_kinds.l1 k x1 x5 x6 x7 x8 (wrap64 (x9 + 1)))
def herbariumlaw2_kinds.j9 : Nat → List Int → List Int → List (S27) → Int → Int → Int → Bool → List Int → Int → Int → Int → Int → Int → Int → Int → Bool → ByteArray → Int → Option (Bool)
 | 0, _, _, _, _, _, _, _, _, _, _, _, _, _, _, _, _, _, _ => none
 | k + 1, x1, x5, x6, x7, x8, x9, x11, x12, x23, x24, x25, x26, x27, x28, x29, x178, x839000, x839001 => if x178 = true then ((herbariumref1_List_Read.f k x12 x23 x8).bind fun bt876 => (if bt876.1 ≥ 0 then ((herbariumlaw2_num.f x26).bind fun t878 => (if t878 = 0 then (if x24 = bt876.1 then (if x25 = bt876.2 then (herbariumlaw2_kinds.l3 k x1 x5 x6 x7 x8 x9 x11 x12 (wrap64 (x23 + 1)) x839000 x839001) else (some false)) else (some false)) else (some false))) else ((herbariumlaw2_num.f x26).bind fun t879 => (if t879 = 9 then (if x24 = x28 then (if x25 = x29 then (herbariumlaw2_kinds.l3 k x1 x5 x6 x7 x8 x9 x11 x12 (wrap64 (x23 + 1)) x839000 x839001) else (some false)) else (some false)) else (some false))))) else ((herbariumlaw2_num.f x26).bind fun t880 => (if t880 = x27 then (if x24 = x28 then (if x25 = x29 then (herbariumlaw2_kinds.l3 k x1 x5 x6 x7 x8 x9 x11 x12 (wrap64 (x23 + 1)) x839000 x839001) else (some false)) else (some false)) else (some false)))
end
def herbariumlaw2_kinds.f (k : Nat) (l0_0 : List (S27)) (l0_1 : List Int) (l1 : List Int) : Option (Bool) := (herbariumlaw1_Heavy.f k l0_0 l0_1).bind fun t819 => (if t819 = true then (some true) else ((some (([1, 2, 3, 4, 7, 8, 15, 1000, 1001, 1073741824, 1073741825, 0, (-1)] : List Int) : List Int)).bind fun y820 => (if y820.length + l0_1.length < 17592186044416 then ((some (y820 ++ l0_1 : List Int)).bind fun y823 => (if (y823.length : Int) > 18 then (if 18 ≤ (y823.length : Int) then (herbariumlaw2_kinds.j0 k l1 (y823.take (18 : Int).toNat) l0_0 l0_1) else (none)) else (herbariumlaw2_kinds.j0 k l1 y823 l0_0 l0_1))) else (none))))
theorem herbariumlaw2_kinds.mono_l : ∀ k, (∀ y0 y1 y2 y3, LeO (herbariumlaw2_kinds.j0 k y0 y1 y2 y3) (herbariumlaw2_kinds.j0 (k + 1) y0 y1 y2 y3)) ∧ (∀ y0 y1 y2 y3, LeO (herbariumlaw2_kinds.l0 k y0 y1 y2 y3) (herbariumlaw2_kinds.l0 (k + 1) y0 y1 y2 y3)) ∧ (∀ y0 y1 y2 y3 y4 y5, LeO (herbariumlaw2_kinds.l1 k y0 y1 y2 y3 y4 y5) (herbariumlaw2_kinds.l1 (k + 1) y0 y1 y2 y3 y4 y5)) ∧ (∀ y0 y1 y2 y3 y4 y5 y6, LeO (herbariumlaw2_kinds.j3 k y0 y1 y2 y3 y4 y5 y6) (herbariumlaw2_kinds.j3 (k + 1) y0 y1 y2 y3 y4 y5 y6)) ∧ (∀ y0 y1 y2 y3 y4 y5 y6 y7 y8 y9, LeO (herbariumlaw2_kinds.j4 k y0 y1 y2 y3 y4 y5 y6 y7 y8 y9) (herbariumlaw2_kinds.j4 (k + 1) y0 y1 y2 y3 y4 y5 y6 y7 y8 y9)) ∧ (∀ y0 y1 y2 y3 y4 y5 y6 y7 y8 y9 y10, LeO (herbariumlaw2_kinds.l2 k y0 y1 y2 y3 y4 y5 y6 y7 y8 y9 y10) (herbariumlaw2_kinds.l2 (k + 1) y0 y1 y2 y3 y4 y5 y6 y7 y8 y9 y10)) ∧ (∀ y0 y1 y2 y3 y4 y5 y6 y7 y8 y9 y10 y11 y12 y13 y14 y15 y16 y17 y18 y19 y20, LeO (herbariumlaw2_kinds.j6 k y0 y1 y2 y3 y4 y5 y6 y7 y8 y9 y10 y11 y12 y13 y14 y15 y16 y17 y18 y19 y20) (herbariumlaw2_kinds.j6 (k + 1) y0 y1 y2 y3 y4 y5 y6 y7 y8 y9 y10 y11 y12 y13 y14 y15 y16 y17 y18 y19 y20)) ∧ (∀ y0 y1 y2 y3 y4 y5 y6 y7 y8 y9 y10, LeO (herbariumlaw2_kinds.l3 k y0 y1 y2 y3 y4 y5 y6 y7 y8 y9 y10) (herbariumlaw2_kinds.l3 (k + 1) y0 y1 y2 y3 y4 y5 y6 y7 y8 y9 y10)) ∧ (∀ y0 y1 y2 y3 y4 y5 y6 y7 y8 y9 y10 y11, LeO (herbariumlaw2_kinds.j8 k y0 y1 y2 y3 y4 y5 y6 y7 y8 y9 y10 y11) (herbariumlaw2_kinds.j8 (k + 1) y0 y1 y2 y3 y4 y5 y6 y7 y8 y9 y10 y11)) ∧ (∀ y0 y1 y2 y3 y4 y5 y6 y7 y8 y9 y10 y11 y12 y13 y14 y15 y16 y17, LeO (herbariumlaw2_kinds.j9 k y0 y1 y2 y3 y4 y5 y6 y7 y8 y9 y10 y11 y12 y13 y14 y15 y16 y17) (herbariumlaw2_kinds.j9 (k + 1) y0 y1 y2 y3 y4 y5 y6 y7 y8 y9 y10 y11 y12 y13 y14 y15 y16 y17))
 | 0 => ⟨fun _ _ _ _ r h => by simp [herbariumlaw2_kinds.j0] at h, fun _ _ _ _ r h => by simp [herbariumlaw2_kinds.l0] at h, fun _ _ _ _ _ _ r h => by simp [herbariumlaw2_kinds.l1] at h, fun _ _ _ _ _ _ _ r h => by simp [herbariumlaw2_kinds.j3] at h, fun _ _ _ _ _ _ _ _ _ _ r h => by simp [herbariumlaw2_kinds.j4] at h, fun _ _ _ _ _ _ _ _ _ _ _ r h => by simp [herbariumlaw2_kinds.l2] at h, fun _ _ _ _ _ _ _ _ _ _ _ _ _ _ _ _ _ _ _ _ _ r h => by simp [herbariumlaw2_kinds.j6] at h, fun _ _ _ _ _ _ _ _ _ _ _ r h => by simp [herbariumlaw2_kinds.l3] at h, fun _ _ _ _ _ _ _ _ _ _ _ _ r h => by simp [herbariumlaw2_kinds.j8] at h, fun _ _ _ _ _ _ _ _ _ _ _ _ _ _ _ _ _ _ r h => by simp [herbariumlaw2_kinds.j9] at h⟩
 | k + 1 => by
  obtain ⟨ih0, ih1, ih2, ih3, ih4, ih5, ih6, ih7, ih8, ih9⟩ := herbariumlaw2_kinds.mono_l k
  refine ⟨?_, ?_, ?_, ?_, ?_, ?_, ?_, ?_, ?_, ?_⟩
  ·
   intro y0 y1 y2 y3
   unfold herbariumlaw2_kinds.j0
   repeat' first
   | (with_reducible exact ih0 _ _ _ _)
   | (with_reducible exact ih1 _ _ _ _)
   | (with_reducible exact ih2 _ _ _ _ _ _)
   | (with_reducible exact ih3 _ _ _ _ _ _ _)
   | (with_reducible exact ih4 _ _ _ _ _ _ _ _ _ _)
   | (with_reducible exact ih5 _ _ _ _ _ _ _ _ _ _ _)
   | (with_reducible exact ih6 _ _ _ _ _ _ _ _ _ _ _ _ _ _ _ _ _ _ _ _ _)
   | (with_reducible exact ih7 _ _ _ _ _ _ _ _ _ _ _)
   | (with_reducible exact ih8 _ _ _ _ _ _ _ _ _ _ _ _)
   | (with_reducible exact ih9 _ _ _ _ _ _ _ _ _ _ _ _ _ _ _ _ _ _)
   | (with_reducible exact code_Take.mono _ _ _ _ _)
   | (with_reducible exact herbariumlaw1_Heavy.mono _ _ _)
   | (with_reducible exact herbariumlaw2_wakes.mono _)
   | (with_reducible exact herbariumref1_Bits.mono _ _ _)
   | (with_reducible exact herbariumref1_List_Pack.mono _ _)
   | (with_reducible exact herbariumref1_List_Read.mono _ _ _ _)
   | (with_reducible exact herbariumref1_List_Write.mono _ _ _ _)
   | (with_reducible exact herbariumref1_Of.mono _ _ _)
   | (with_reducible exact LeO.refl _)
   | (with_reducible exact LeO.none _)
   | (with_reducible refine LeO.ite ?_ ?_)
   | (with_reducible refine LeO.bind ?_ (fun _ => ?_))
   | exact ih0 _ _ _ _
   | exact ih1 _ _ _ _
   | exact ih2 _ _ _ _ _ _
   | exact ih3 _ _ _ _ _ _ _
   | exact ih4 _ _ _ _ _ _ _ _ _ _
   | exact ih5 _ _ _ _ _ _ _ _ _ _ _
   | exact ih6 _ _ _ _ _ _ _ _ _ _ _ _ _ _ _ _ _ _ _ _ _
   | exact ih7 _ _ _ _ _ _ _ _ _ _ _
   | exact ih8 _ _ _ _ _ _ _ _ _ _ _ _
   | exact ih9 _ _ _ _ _ _ _ _ _ _ _ _ _ _ _ _ _ _
   | exact code_Take.mono _ _ _ _ _
   | exact herbariumlaw1_Heavy.mono _ _ _
   | exact herbariumlaw2_wakes.mono _
   | exact herbariumref1_Bits.mono _ _ _
   | exact herbariumref1_List_Pack.mono _ _
   | exact herbariumref1_List_Read.mono _ _ _ _
   | exact herbariumref1_List_Write.mono _ _ _ _
   | exact herbariumref1_Of.mono _ _ _
   | exact LeO.none _
   | refine LeO.ite ?_ ?_
   | refine LeO.bind ?_ (fun _ => ?_)
  ·
   intro y0 y1 y2 y3
   unfold herbariumlaw2_kinds.l0
   repeat' first
   | (with_reducible exact ih0 _ _ _ _)
   | (with_reducible exact ih1 _ _ _ _)
   | (with_reducible exact ih2 _ _ _ _ _ _)
   | (with_reducible exact ih3 _ _ _ _ _ _ _)
   | (with_reducible exact ih4 _ _ _ _ _ _ _ _ _ _)
   | (with_reducible exact ih5 _ _ _ _ _ _ _ _ _ _ _)
   | (with_reducible exact ih6 _ _ _ _ _ _ _ _ _ _ _ _ _ _ _ _ _ _ _ _ _)
   | (with_reducible exact ih7 _ _ _ _ _ _ _ _ _ _ _)
   | (with_reducible exact ih8 _ _ _ _ _ _ _ _ _ _ _ _)
   | (with_reducible exact ih9 _ _ _ _ _ _ _ _ _ _ _ _ _ _ _ _ _ _)
   | (with_reducible exact code_Take.mono _ _ _ _ _)
   | (with_reducible exact herbariumlaw1_Heavy.mono _ _ _)
   | (with_reducible exact herbariumlaw2_wakes.mono _)
   | (with_reducible exact herbariumref1_Bits.mono _ _ _)
   | (with_reducible exact herbariumref1_List_Pack.mono _ _)
   | (with_reducible exact herbariumref1_List_Read.mono _ _ _ _)
   | (with_reducible exact herbariumref1_List_Write.mono _ _ _ _)
   | (with_reducible exact herbariumref1_Of.mono _ _ _)
   | (with_reducible exact LeO.refl _)
   | (with_reducible exact LeO.none _)
   | (with_reducible refine LeO.ite ?_ ?_)
   | (with_reducible refine LeO.bind ?_ (fun _ => ?_))
   | exact ih0 _ _ _ _
   | exact ih1 _ _ _ _
   | exact ih2 _ _ _ _ _ _
   | exact ih3 _ _ _ _ _ _ _
   | exact ih4 _ _ _ _ _ _ _ _ _ _
   | exact ih5 _ _ _ _ _ _ _ _ _ _ _
   | exact ih6 _ _ _ _ _ _ _ _ _ _ _ _ _ _ _ _ _ _ _ _ _
   | exact ih7 _ _ _ _ _ _ _ _ _ _ _
   | exact ih8 _ _ _ _ _ _ _ _ _ _ _ _
   | exact ih9 _ _ _ _ _ _ _ _ _ _ _ _ _ _ _ _ _ _
   | exact code_Take.mono _ _ _ _ _
   | exact herbariumlaw1_Heavy.mono _ _ _
   | exact herbariumlaw2_wakes.mono _
   | exact herbariumref1_Bits.mono _ _ _
   | exact herbariumref1_List_Pack.mono _ _
   | exact herbariumref1_List_Read.mono _ _ _ _
   | exact herbariumref1_List_Write.mono _ _ _ _
   | exact herbariumref1_Of.mono _ _ _
   | exact LeO.none _
   | refine LeO.ite ?_ ?_
   | refine LeO.bind ?_ (fun _ => ?_)
  ·
   intro y0 y1 y2 y3 y4 y5
   unfold herbariumlaw2_kinds.l1
   repeat' first
   | (with_reducible exact ih0 _ _ _ _)
   | (with_reducible exact ih1 _ _ _ _)
   | (with_reducible exact ih2 _ _ _ _ _ _)
   | (with_reducible exact ih3 _ _ _ _ _ _ _)
   | (with_reducible exact ih4 _ _ _ _ _ _ _ _ _ _)
   | (with_reducible exact ih5 _ _ _ _ _ _ _ _ _ _ _)
   | (with_reducible exact ih6 _ _ _ _ _ _ _ _ _ _ _ _ _ _ _ _ _ _ _ _ _)
   | (with_reducible exact ih7 _ _ _ _ _ _ _ _ _ _ _)
   | (with_reducible exact ih8 _ _ _ _ _ _ _ _ _ _ _ _)
   | (with_reducible exact ih9 _ _ _ _ _ _ _ _ _ _ _ _ _ _ _ _ _ _)
   | (with_reducible exact code_Take.mono _ _ _ _ _)
   | (with_reducible exact herbariumlaw1_Heavy.mono _ _ _)
   | (with_reducible exact herbariumlaw2_wakes.mono _)
   | (with_reducible exact herbariumref1_Bits.mono _ _ _)
   | (with_reducible exact herbariumref1_List_Pack.mono _ _)
   | (with_reducible exact herbariumref1_List_Read.mono _ _ _ _)
   | (with_reducible exact herbariumref1_List_Write.mono _ _ _ _)
   | (with_reducible exact herbariumref1_Of.mono _ _ _)
   | (with_reducible exact LeO.refl _)
   | (with_reducible exact LeO.none _)
   | (with_reducible refine LeO.ite ?_ ?_)
   | (with_reducible refine LeO.bind ?_ (fun _ => ?_))
   | exact ih0 _ _ _ _
   | exact ih1 _ _ _ _
   | exact ih2 _ _ _ _ _ _
   | exact ih3 _ _ _ _ _ _ _
   | exact ih4 _ _ _ _ _ _ _ _ _ _
   | exact ih5 _ _ _ _ _ _ _ _ _ _ _
   | exact ih6 _ _ _ _ _ _ _ _ _ _ _ _ _ _ _ _ _ _ _ _ _
   | exact ih7 _ _ _ _ _ _ _ _ _ _ _
   | exact ih8 _ _ _ _ _ _ _ _ _ _ _ _
   | exact ih9 _ _ _ _ _ _ _ _ _ _ _ _ _ _ _ _ _ _
   | exact code_Take.mono _ _ _ _ _
   | exact herbariumlaw1_Heavy.mono _ _ _
   | exact herbariumlaw2_wakes.mono _
   | exact herbariumref1_Bits.mono _ _ _
   | exact herbariumref1_List_Pack.mono _ _
   | exact herbariumref1_List_Read.mono _ _ _ _
   | exact herbariumref1_List_Write.mono _ _ _ _
   | exact herbariumref1_Of.mono _ _ _
   | exact LeO.none _
   | refine LeO.ite ?_ ?_
   | refine LeO.bind ?_ (fun _ => ?_)
  ·
   intro y0 y1 y2 y3 y4 y5 y6
   unfold herbariumlaw2_kinds.j3
   repeat' first
   | (with_reducible exact ih0 _ _ _ _)
   | (with_reducible exact ih1 _ _ _ _)
   | (with_reducible exact ih2 _ _ _ _ _ _)
   | (with_reducible exact ih3 _ _ _ _ _ _ _)
   | (with_reducible exact ih4 _ _ _ _ _ _ _ _ _ _)
   | (with_reducible exact ih5 _ _ _ _ _ _ _ _ _ _ _)
   | (with_reducible exact ih6 _ _ _ _ _ _ _ _ _ _ _ _ _ _ _ _ _ _ _ _ _)
   | (with_reducible exact ih7 _ _ _ _ _ _ _ _ _ _ _)
   | (with_reducible exact ih8 _ _ _ _ _ _ _ _ _ _ _ _)
   | (with_reducible exact ih9 _ _ _ _ _ _ _ _ _ _ _ _ _ _ _ _ _ _)
   | (with_reducible exact code_Take.mono _ _ _ _ _)
   | (with_reducible exact herbariumlaw1_Heavy.mono _ _ _)
   | (with_reducible exact herbariumlaw2_wakes.mono _)
   | (with_reducible exact herbariumref1_Bits.mono _ _ _)
   | (with_reducible exact herbariumref1_List_Pack.mono _ _)
   | (with_reducible exact herbariumref1_List_Read.mono _ _ _ _)
   | (with_reducible exact herbariumref1_List_Write.mono _ _ _ _)
   | (with_reducible exact herbariumref1_Of.mono _ _ _)
   | (with_reducible exact LeO.refl _)
   | (with_reducible exact LeO.none _)
   | (with_reducible refine LeO.ite ?_ ?_)
   | (with_reducible refine LeO.bind ?_ (fun _ => ?_))
   | exact ih0 _ _ _ _
   | exact ih1 _ _ _ _
   | exact ih2 _ _ _ _ _ _
   | exact ih3 _ _ _ _ _ _ _
   | exact ih4 _ _ _ _ _ _ _ _ _ _
   | exact ih5 _ _ _ _ _ _ _ _ _ _ _
   | exact ih6 _ _ _ _ _ _ _ _ _ _ _ _ _ _ _ _ _ _ _ _ _
   | exact ih7 _ _ _ _ _ _ _ _ _ _ _
   | exact ih8 _ _ _ _ _ _ _ _ _ _ _ _
   | exact ih9 _ _ _ _ _ _ _ _ _ _ _ _ _ _ _ _ _ _
   | exact code_Take.mono _ _ _ _ _
   | exact herbariumlaw1_Heavy.mono _ _ _
   | exact herbariumlaw2_wakes.mono _
   | exact herbariumref1_Bits.mono _ _ _
   | exact herbariumref1_List_Pack.mono _ _
   | exact herbariumref1_List_Read.mono _ _ _ _
   | exact herbariumref1_List_Write.mono _ _ _ _
   | exact herbariumref1_Of.mono _ _ _
   | exact LeO.none _
   | refine LeO.ite ?_ ?_
   | refine LeO.bind ?_ (fun _ => ?_)
  ·
   intro y0 y1 y2 y3 y4 y5 y6 y7 y8 y9
   unfold herbariumlaw2_kinds.j4
   repeat' first
   | (with_reducible exact ih0 _ _ _ _)
   | (with_reducible exact ih1 _ _ _ _)
   | (with_reducible exact ih2 _ _ _ _ _ _)
   | (with_reducible exact ih3 _ _ _ _ _ _ _)
   | (with_reducible exact ih4 _ _ _ _ _ _ _ _ _ _)
   | (with_reducible exact ih5 _ _ _ _ _ _ _ _ _ _ _)
   | (with_reducible exact ih6 _ _ _ _ _ _ _ _ _ _ _ _ _ _ _ _ _ _ _ _ _)
   | (with_reducible exact ih7 _ _ _ _ _ _ _ _ _ _ _)
   | (with_reducible exact ih8 _ _ _ _ _ _ _ _ _ _ _ _)
   | (with_reducible exact ih9 _ _ _ _ _ _ _ _ _ _ _ _ _ _ _ _ _ _)
   | (with_reducible exact code_Take.mono _ _ _ _ _)
   | (with_reducible exact herbariumlaw1_Heavy.mono _ _ _)
   | (with_reducible exact herbariumlaw2_wakes.mono _)
   | (with_reducible exact herbariumref1_Bits.mono _ _ _)
   | (with_reducible exact herbariumref1_List_Pack.mono _ _)
   | (with_reducible exact herbariumref1_List_Read.mono _ _ _ _)
   | (with_reducible exact herbariumref1_List_Write.mono _ _ _ _)
   | (with_reducible exact herbariumref1_Of.mono _ _ _)
   | (with_reducible exact LeO.refl _)
   | (with_reducible exact LeO.none _)
   | (with_reducible refine LeO.ite ?_ ?_)
   | (with_reducible refine LeO.bind ?_ (fun _ => ?_))
   | exact ih0 _ _ _ _
   | exact ih1 _ _ _ _
   | exact ih2 _ _ _ _ _ _
   | exact ih3 _ _ _ _ _ _ _
   | exact ih4 _ _ _ _ _ _ _ _ _ _
   | exact ih5 _ _ _ _ _ _ _ _ _ _ _
   | exact ih6 _ _ _ _ _ _ _ _ _ _ _ _ _ _ _ _ _ _ _ _ _
   | exact ih7 _ _ _ _ _ _ _ _ _ _ _
   | exact ih8 _ _ _ _ _ _ _ _ _ _ _ _
   | exact ih9 _ _ _ _ _ _ _ _ _ _ _ _ _ _ _ _ _ _
   | exact code_Take.mono _ _ _ _ _
   | exact herbariumlaw1_Heavy.mono _ _ _
   | exact herbariumlaw2_wakes.mono _
   | exact herbariumref1_Bits.mono _ _ _
   | exact herbariumref1_List_Pack.mono _ _
   | exact herbariumref1_List_Read.mono _ _ _ _
   | exact herbariumref1_List_Write.mono _ _ _ _
   | exact herbariumref1_Of.mono _ _ _
   | exact LeO.none _
   | refine LeO.ite ?_ ?_
   | refine LeO.bind ?_ (fun _ => ?_)
  ·
   intro y0 y1 y2 y3 y4 y5 y6 y7 y8 y9 y10
   unfold herbariumlaw2_kinds.l2
   repeat' first
   | (with_reducible exact ih0 _ _ _ _)
   | (with_reducible exact ih1 _ _ _ _)
   | (with_reducible exact ih2 _ _ _ _ _ _)
   | (with_reducible exact ih3 _ _ _ _ _ _ _)
   | (with_reducible exact ih4 _ _ _ _ _ _ _ _ _ _)
   | (with_reducible exact ih5 _ _ _ _ _ _ _ _ _ _ _)
   | (with_reducible exact ih6 _ _ _ _ _ _ _ _ _ _ _ _ _ _ _ _ _ _ _ _ _)
   | (with_reducible exact ih7 _ _ _ _ _ _ _ _ _ _ _)
   | (with_reducible exact ih8 _ _ _ _ _ _ _ _ _ _ _ _)
   | (with_reducible exact ih9 _ _ _ _ _ _ _ _ _ _ _ _ _ _ _ _ _ _)
   | (with_reducible exact code_Take.mono _ _ _ _ _)
   | (with_reducible exact herbariumlaw1_Heavy.mono _ _ _)
   | (with_reducible exact herbariumlaw2_wakes.mono _)
   | (with_reducible exact herbariumref1_Bits.mono _ _ _)
   | (with_reducible exact herbariumref1_List_Pack.mono _ _)
   | (with_reducible exact herbariumref1_List_Read.mono _ _ _ _)
   | (with_reducible exact herbariumref1_List_Write.mono _ _ _ _)
   | (with_reducible exact herbariumref1_Of.mono _ _ _)
   | (with_reducible exact LeO.refl _)
   | (with_reducible exact LeO.none _)
   | (with_reducible refine LeO.ite ?_ ?_)
   | (with_reducible refine LeO.bind ?_ (fun _ => ?_))
   | exact ih0 _ _ _ _
   | exact ih1 _ _ _ _
   | exact ih2 _ _ _ _ _ _
   | exact ih3 _ _ _ _ _ _ _
   | exact ih4 _ _ _ _ _ _ _ _ _ _
   | exact ih5 _ _ _ _ _ _ _ _ _ _ _
   | exact ih6 _ _ _ _ _ _ _ _ _ _ _ _ _ _ _ _ _ _ _ _ _
   | exact ih7 _ _ _ _ _ _ _ _ _ _ _
   | exact ih8 _ _ _ _ _ _ _ _ _ _ _ _
   | exact ih9 _ _ _ _ _ _ _ _ _ _ _ _ _ _ _ _ _ _
   | exact code_Take.mono _ _ _ _ _
   | exact herbariumlaw1_Heavy.mono _ _ _
   | exact herbariumlaw2_wakes.mono _
   | exact herbariumref1_Bits.mono _ _ _
   | exact herbariumref1_List_Pack.mono _ _
   | exact herbariumref1_List_Read.mono _ _ _ _
   | exact herbariumref1_List_Write.mono _ _ _ _
   | exact herbariumref1_Of.mono _ _ _
   | exact LeO.none _
   | refine LeO.ite ?_ ?_
   | refine LeO.bind ?_ (fun _ => ?_)
  ·
   intro y0 y1 y2 y3 y4 y5 y6 y7 y8 y9 y10 y11 y12 y13 y14 y15 y16 y17 y18 y19 y20
   unfold herbariumlaw2_kinds.j6
   repeat' first
   | (with_reducible exact ih0 _ _ _ _)
   | (with_reducible exact ih1 _ _ _ _)
   | (with_reducible exact ih2 _ _ _ _ _ _)
   | (with_reducible exact ih3 _ _ _ _ _ _ _)
   | (with_reducible exact ih4 _ _ _ _ _ _ _ _ _ _)
   | (with_reducible exact ih5 _ _ _ _ _ _ _ _ _ _ _)
   | (with_reducible exact ih6 _ _ _ _ _ _ _ _ _ _ _ _ _ _ _ _ _ _ _ _ _)
   | (with_reducible exact ih7 _ _ _ _ _ _ _ _ _ _ _)
   | (with_reducible exact ih8 _ _ _ _ _ _ _ _ _ _ _ _)
   | (with_reducible exact ih9 _ _ _ _ _ _ _ _ _ _ _ _ _ _ _ _ _ _)
   | (with_reducible exact code_Take.mono _ _ _ _ _)
   | (with_reducible exact herbariumlaw1_Heavy.mono _ _ _)
   | (with_reducible exact herbariumlaw2_wakes.mono _)
   | (with_reducible exact herbariumref1_Bits.mono _ _ _)
   | (with_reducible exact herbariumref1_List_Pack.mono _ _)
   | (with_reducible exact herbariumref1_List_Read.mono _ _ _ _)
   | (with_reducible exact herbariumref1_List_Write.mono _ _ _ _)
   | (with_reducible exact herbariumref1_Of.mono _ _ _)
   | (with_reducible exact LeO.refl _)
   | (with_reducible exact LeO.none _)
   | (with_reducible refine LeO.ite ?_ ?_)
   | (with_reducible refine LeO.bind ?_ (fun _ => ?_))
   | exact ih0 _ _ _ _
   | exact ih1 _ _ _ _
   | exact ih2 _ _ _ _ _ _
   | exact ih3 _ _ _ _ _ _ _
   | exact ih4 _ _ _ _ _ _ _ _ _ _
   | exact ih5 _ _ _ _ _ _ _ _ _ _ _
   | exact ih6 _ _ _ _ _ _ _ _ _ _ _ _ _ _ _ _ _ _ _ _ _
   | exact ih7 _ _ _ _ _ _ _ _ _ _ _
   | exact ih8 _ _ _ _ _ _ _ _ _ _ _ _
   | exact ih9 _ _ _ _ _ _ _ _ _ _ _ _ _ _ _ _ _ _
   | exact code_Take.mono _ _ _ _ _
   | exact herbariumlaw1_Heavy.mono _ _ _
   | exact herbariumlaw2_wakes.mono _
   | exact herbariumref1_Bits.mono _ _ _
   | exact herbariumref1_List_Pack.mono _ _
   | exact herbariumref1_List_Read.mono _ _ _ _
   | exact herbariumref1_List_Write.mono _ _ _ _
   | exact herbariumref1_Of.mono _ _ _
   | exact LeO.none _
   | refine LeO.ite ?_ ?_
   | refine LeO.bind ?_ (fun _ => ?_)
  ·
   intro y0 y1 y2 y3 y4 y5 y6 y7 y8 y9 y10
   unfold herbariumlaw2_kinds.l3
   repeat' first
   | (with_reducible exact ih0 _ _ _ _)
   | (with_reducible exact ih1 _ _ _ _)
   | (with_reducible exact ih2 _ _ _ _ _ _)
   | (with_reducible exact ih3 _ _ _ _ _ _ _)
   | (with_reducible exact ih4 _ _ _ _ _ _ _ _ _ _)
   | (with_reducible exact ih5 _ _ _ _ _ _ _ _ _ _ _)
   | (with_reducible exact ih6 _ _ _ _ _ _ _ _ _ _ _ _ _ _ _ _ _ _ _ _ _)
   | (with_reducible exact ih7 _ _ _ _ _ _ _ _ _ _ _)
   | (with_reducible exact ih8 _ _ _ _ _ _ _ _ _ _ _ _)
   | (with_reducible exact ih9 _ _ _ _ _ _ _ _ _ _ _ _ _ _ _ _ _ _)
   | (with_reducible exact code_Take.mono _ _ _ _ _)
   | (with_reducible exact herbariumlaw1_Heavy.mono _ _ _)
   | (with_reducible exact herbariumlaw2_wakes.mono _)
   | (with_reducible exact herbariumref1_Bits.mono _ _ _)
   | (with_reducible exact herbariumref1_List_Pack.mono _ _)
   | (with_reducible exact herbariumref1_List_Read.mono _ _ _ _)
   | (with_reducible exact herbariumref1_List_Write.mono _ _ _ _)
   | (with_reducible exact herbariumref1_Of.mono _ _ _)
   | (with_reducible exact LeO.refl _)
   | (with_reducible exact LeO.none _)
   | (with_reducible refine LeO.ite ?_ ?_)
   | (with_reducible refine LeO.bind ?_ (fun _ => ?_))
   | exact ih0 _ _ _ _
   | exact ih1 _ _ _ _
   | exact ih2 _ _ _ _ _ _
   | exact ih3 _ _ _ _ _ _ _
   | exact ih4 _ _ _ _ _ _ _ _ _ _
   | exact ih5 _ _ _ _ _ _ _ _ _ _ _
   | exact ih6 _ _ _ _ _ _ _ _ _ _ _ _ _ _ _ _ _ _ _ _ _
   | exact ih7 _ _ _ _ _ _ _ _ _ _ _
   | exact ih8 _ _ _ _ _ _ _ _ _ _ _ _
   | exact ih9 _ _ _ _ _ _ _ _ _ _ _ _ _ _ _ _ _ _
   | exact code_Take.mono _ _ _ _ _
   | exact herbariumlaw1_Heavy.mono _ _ _
   | exact herbariumlaw2_wakes.mono _
   | exact herbariumref1_Bits.mono _ _ _
   | exact herbariumref1_List_Pack.mono _ _
   | exact herbariumref1_List_Read.mono _ _ _ _
   | exact herbariumref1_List_Write.mono _ _ _ _
   | exact herbariumref1_Of.mono _ _ _
   | exact LeO.none _
   | refine LeO.ite ?_ ?_
   | refine LeO.bind ?_ (fun _ => ?_)
  ·
   intro y0 y1 y2 y3 y4 y5 y6 y7 y8 y9 y10 y11
   unfold herbariumlaw2_kinds.j8
   repeat' first
   | (with_reducible exact ih0 _ _ _ _)
   | (with_reducible exact ih1 _ _ _ _)
   | (with_reducible exact ih2 _ _ _ _ _ _)
   | (with_reducible exact ih3 _ _ _ _ _ _ _)
   | (with_reducible exact ih4 _ _ _ _ _ _ _ _ _ _)
   | (with_reducible exact ih5 _ _ _ _ _ _ _ _ _ _ _)
   | (with_reducible exact ih6 _ _ _ _ _ _ _ _ _ _ _ _ _ _ _ _ _ _ _ _ _)
   | (with_reducible exact ih7 _ _ _ _ _ _ _ _ _ _ _)
   | (with_reducible exact ih8 _ _ _ _ _ _ _ _ _ _ _ _)
   | (with_reducible exact ih9 _ _ _ _ _ _ _ _ _ _ _ _ _ _ _ _ _ _)
   | (with_reducible exact code_Take.mono _ _ _ _ _)
   | (with_reducible exact herbariumlaw1_Heavy.mono _ _ _)
   | (with_reducible exact herbariumlaw2_wakes.mono _)
   | (with_reducible exact herbariumref1_Bits.mono _ _ _)
   | (with_reducible exact herbariumref1_List_Pack.mono _ _)
   | (with_reducible exact herbariumref1_List_Read.mono _ _ _ _)
   | (with_reducible exact herbariumref1_List_Write.mono _ _ _ _)
   | (with_reducible exact herbariumref1_Of.mono _ _ _)
   | (with_reducible exact LeO.refl _)
   | (with_reducible exact LeO.none _)
   | (with_reducible refine LeO.ite ?_ ?_)
   | (with_reducible refine LeO.bind ?_ (fun _ => ?_))
   | exact ih0 _ _ _ _
   | exact ih1 _ _ _ _
   | exact ih2 _ _ _ _ _ _
   | exact ih3 _ _ _ _ _ _ _
   | exact ih4 _ _ _ _ _ _ _ _ _ _
   | exact ih5 _ _ _ _ _ _ _ _ _ _ _
   | exact ih6 _ _ _ _ _ _ _ _ _ _ _ _ _ _ _ _ _ _ _ _ _
   | exact ih7 _ _ _ _ _ _ _ _ _ _ _
   | exact ih8 _ _ _ _ _ _ _ _ _ _ _ _
   | exact ih9 _ _ _ _ _ _ _ _ _ _ _ _ _ _ _ _ _ _
   | exact code_Take.mono _ _ _ _ _
   | exact herbariumlaw1_Heavy.mono _ _ _
   | exact herbariumlaw2_wakes.mono _
   | exact herbariumref1_Bits.mono _ _ _
   | exact herbariumref1_List_Pack.mono _ _
   | exact herbariumref1_List_Read.mono _ _ _ _
   | exact herbariumref1_List_Write.mono _ _ _ _
   | exact herbariumref1_Of.mono _ _ _
   | exact LeO.none _
   | refine LeO.ite ?_ ?_
   | refine LeO.bind ?_ (fun _ => ?_)
  ·
   intro y0 y1 y2 y3 y4 y5 y6 y7 y8 y9 y10 y11 y12 y13 y14 y15 y16 y17
   unfold herbariumlaw2_kinds.j9
   repeat' first
   | (with_reducible exact ih0 _ _ _ _)
   | (with_reducible exact ih1 _ _ _ _)
   | (with_reducible exact ih2 _ _ _ _ _ _)
   | (with_reducible exact ih3 _ _ _ _ _ _ _)
   | (with_reducible exact ih4 _ _ _ _ _ _ _ _ _ _)
   | (with_reducible exact ih5 _ _ _ _ _ _ _ _ _ _ _)
   | (with_reducible exact ih6 _ _ _ _ _ _ _ _ _ _ _ _ _ _ _ _ _ _ _ _ _)
   | (with_reducible exact ih7 _ _ _ _ _ _ _ _ _ _ _)
   | (with_reducible exact ih8 _ _ _ _ _ _ _ _ _ _ _ _)
   | (with_reducible exact ih9 _ _ _ _ _ _ _ _ _ _ _ _ _ _ _ _ _ _)
   | (with_reducible exact code_Take.mono _ _ _ _ _)
   | (with_reducible exact herbariumlaw1_Heavy.mono _ _ _)
   | (with_reducible exact herbariumlaw2_wakes.mono _)
   | (with_reducible exact herbariumref1_Bits.mono _ _ _)
   | (with_reducible exact herbariumref1_List_Pack.mono _ _)
   | (with_reducible exact herbariumref1_List_Read.mono _ _ _ _)
   | (with_reducible exact herbariumref1_List_Write.mono _ _ _ _)
   | (with_reducible exact herbariumref1_Of.mono _ _ _)
   | (with_reducible exact LeO.refl _)
   | (with_reducible exact LeO.none _)
   | (with_reducible refine LeO.ite ?_ ?_)
   | (with_reducible refine LeO.bind ?_ (fun _ => ?_))
   | exact ih0 _ _ _ _
   | exact ih1 _ _ _ _
   | exact ih2 _ _ _ _ _ _
   | exact ih3 _ _ _ _ _ _ _
   | exact ih4 _ _ _ _ _ _ _ _ _ _
   | exact ih5 _ _ _ _ _ _ _ _ _ _ _
   | exact ih6 _ _ _ _ _ _ _ _ _ _ _ _ _ _ _ _ _ _ _ _ _
   | exact ih7 _ _ _ _ _ _ _ _ _ _ _
   | exact ih8 _ _ _ _ _ _ _ _ _ _ _ _
   | exact ih9 _ _ _ _ _ _ _ _ _ _ _ _ _ _ _ _ _ _
   | exact code_Take.mono _ _ _ _ _
   | exact herbariumlaw1_Heavy.mono _ _ _
   | exact herbariumlaw2_wakes.mono _
   | exact herbariumref1_Bits.mono _ _ _
   | exact herbariumref1_List_Pack.mono _ _
   | exact herbariumref1_List_Read.mono _ _ _ _
   | exact herbariumref1_List_Write.mono _ _ _ _
   | exact herbariumref1_Of.mono _ _ _
   | exact LeO.none _
   | refine LeO.ite ?_ ?_
   | refine LeO.bind ?_ (fun _ => ?_)
theorem herbariumlaw2_kinds.mono : ∀ a0 a1 a2 k, LeO (herbariumlaw2_kinds.f k a0 a1 a2) (herbariumlaw2_kinds.f (k + 1) a0 a1 a2) := by
 intro a0 a1 a2 k
 obtain ⟨ih0, ih1, ih2, ih3, ih4, ih5, ih6, ih7, ih8, ih9⟩ := herbariumlaw2_kinds.mono_l k
 unfold herbariumlaw2_kinds.f
 repeat' first
   | (with_reducible exact ih0 _ _ _ _)
   | (with_reducible exact ih1 _ _ _ _)
   | (with_reducible exact ih2 _ _ _ _ _ _)
   | (with_reducible exact ih3 _ _ _ _ _ _ _)
   | (with_reducible exact ih4 _ _ _ _ _ _ _ _ _ _)
   | (with_reducible exact ih5 _ _ _ _ _ _ _ _ _ _ _)
   | (with_reducible exact ih6 _ _ _ _ _ _ _ _ _ _ _ _ _ _ _ _ _ _ _ _ _)
   | (with_reducible exact ih7 _ _ _ _ _ _ _ _ _ _ _)
   | (with_reducible exact ih8 _ _ _ _ _ _ _ _ _ _ _ _)
   | (with_reducible exact ih9 _ _ _ _ _ _ _ _ _ _ _ _ _ _ _ _ _ _)
   | (with_reducible exact code_Take.mono _ _ _ _ _)
   | (with_reducible exact herbariumlaw1_Heavy.mono _ _ _)
   | (with_reducible exact herbariumlaw2_wakes.mono _)
   | (with_reducible exact herbariumref1_Bits.mono _ _ _)
   | (with_reducible exact herbariumref1_List_Pack.mono _ _)
   | (with_reducible exact herbariumref1_List_Read.mono _ _ _ _)
   | (with_reducible exact herbariumref1_List_Write.mono _ _ _ _)
   | (with_reducible exact herbariumref1_Of.mono _ _ _)
   | (with_reducible exact LeO.refl _)
   | (with_reducible exact LeO.none _)
   | (with_reducible refine LeO.ite ?_ ?_)
   | (with_reducible refine LeO.bind ?_ (fun _ => ?_))
   | exact ih0 _ _ _ _
   | exact ih1 _ _ _ _
   | exact ih2 _ _ _ _ _ _
   | exact ih3 _ _ _ _ _ _ _
   | exact ih4 _ _ _ _ _ _ _ _ _ _
   | exact ih5 _ _ _ _ _ _ _ _ _ _ _
   | exact ih6 _ _ _ _ _ _ _ _ _ _ _ _ _ _ _ _ _ _ _ _ _
   | exact ih7 _ _ _ _ _ _ _ _ _ _ _
   | exact ih8 _ _ _ _ _ _ _ _ _ _ _ _
   | exact ih9 _ _ _ _ _ _ _ _ _ _ _ _ _ _ _ _ _ _
   | exact code_Take.mono _ _ _ _ _
   | exact herbariumlaw1_Heavy.mono _ _ _
   | exact herbariumlaw2_wakes.mono _
   | exact herbariumref1_Bits.mono _ _ _
   | exact herbariumref1_List_Pack.mono _ _
   | exact herbariumref1_List_Read.mono _ _ _ _
   | exact herbariumref1_List_Write.mono _ _ _ _
   | exact herbariumref1_Of.mono _ _ _
   | exact LeO.none _
   | refine LeO.ite ?_ ?_
   | refine LeO.bind ?_ (fun _ => ?_)
def herbariumlaw2_kinds.T22 : Bool × List (List Nat × List Nat) := (true, [([], []), ([], []), ([], []), ([], []), ([2, 3], [2, 3]), ([4], [4]), ([0, 1, 5], [0, 1, 5]), ([6], [6]), ([7], [7]), ([7], [7]), ([], []), ([10, 8, 6, 0, 1, 2, 3, 4, 5, 6, 7, 8, 10], [8, 10]), ([9, 11, 0, 1, 2, 3, 4, 5, 6, 7, 8, 9, 10, 11], [9])])
def herbariumlaw2_kinds.B22 : List Nat := [0, 0, 0, 0, 12, 28, 63, 127, 255, 255, 0, 1535, 4095]
theorem herbariumlaw2_kinds.tab22 : rtab .any (opsOf Try.f63 22) = herbariumlaw2_kinds.T22 := by kernel_rfl
theorem herbariumlaw2_kinds.bits22 : waitsOk herbariumlaw2_kinds.T22.2 herbariumlaw2_kinds.B22 = true := by kernel_rfl
set_option maxHeartbeats 8000000 in
set_option maxRecDepth 100000 in
theorem herbariumlaw2_kinds.calls (k : Nat) (A0_0 : Option Addr) (c0_0 : Nat) (l0_0 : List (S27)) (A0_1 : Option Addr) (c0_1 : Nat) (l0_1 : List Int) (A1 : Option Addr) (c1 : Nat) (l1 : List Int) (w : World) (hr0_0 : Kd.C k27 w A0_0 l0_0.length l0_0) (hc0_0 : l0_0.length ≤ c0_0) (hr0_1 : Kd.C (Kd.int .i64) w A0_1 l0_1.length l0_1) (hc0_1 : l0_1.length ≤ c0_1) (hr1 : Kd.C (Kd.int .i64) w A1 l1.length l1) (hc1 : l1.length ≤ c1) (h : herbariumlaw2_kinds.f k l0_0 l0_1 l1 = some true) :
  Calls Try.prog 63 #[.agg #[.slice A0_0 l0_0.length c0_0, .slice A0_1 l0_1.length c0_1], .slice A1 l1.length c1] w fun e w' => e = .returned (.bool true) ∧ Below w.heap.size w w' := by
 have hu25 := Try.underlying25
 have hu27 := Try.underlying27
 have HR0_0 := Aside0.mk hr0_0
 have HC0_0 := Aside0.mk hc0_0
 clear hr0_0 hc0_0
 have HR0_1 := Aside0.mk hr0_1
 have HC0_1 := Aside0.mk hc0_1
 clear hr0_1 hc0_1
 have HR1 := Aside0.mk hr1
 have HC1 := Aside0.mk hc1
 clear hr1 hc1
 have HB := Aside0.mk (Below.refl w.heap.size w)
 have H : ((herbariumlaw1_Heavy.f k l0_0 l0_1).bind fun t819 => (if t819 = true then (some true) else ((some (([1, 2, 3, 4, 7, 8, 15, 1000, 1001, 1073741824, 1073741825, 0, (-1)] : List Int) : List Int)).bind fun y820 => (if y820.length + l0_1.length < 17592186044416 then ((some (y820 ++ l0_1 : List Int)).bind fun y823 => (if (y823.length : Int) > 18 then (if 18 ≤ (y823.length : Int) then (herbariumlaw2_kinds.j0 k l1 (y823.take (18 : Int).toNat) l0_0 l0_1) else (none)) else (herbariumlaw2_kinds.j0 k l1 y823 l0_0 l0_1))) else (none))))) = some true := h
 clear h
 replace H := Option.bind_eq_some_iff.mp H
 obtain ⟨t819, A30, H⟩ := H
 replace H : (if t819 = true then (some true) else ((some (([1, 2, 3, 4, 7, 8, 15, 1000, 1001, 1073741824, 1073741825, 0, (-1)] : List Int) : List Int)).bind fun y820 => (if y820.length + l0_1.length < 17592186044416 then ((some (y820 ++ l0_1 : List Int)).bind fun y823 => (if (y823.length : Int) > 18 then (if 18 ≤ (y823.length : Int) then (herbariumlaw2_kinds.j0 k l1 (y823.take (18 : Int).toNat) l0_0 l0_1) else (none)) else (herbariumlaw2_kinds.j0 k l1 y823 l0_0 l0_1))) else (none)))) = some true := H
 have A3 := Aside0.mk A30
 clear A30
 by_cases c4 : t819 = true
 ·
  subst c4
  have H1 : (some true) = some true := rfl
  clear H
  have H := H1
  clear H1
  clear H
  go_enter Try.func63, Try.ntmps63
  go_wp2_with (first | ((with_reducible refine gate_dst (N := 2) rfl ?_); refine box_event ?hg (N := 2) ?hd (cs := #[.slice A0_0 l0_0.length c0_0, .slice A0_1 l0_1.length c0_1]) (t := 25) ?hr ?_; (case hd => rfl); (case hg => rfl); (case hr => first | (go_simp; done) | (go_simp; rfl)); intro gb818 hg w5 hbox hb; have n0_ := Aside0.mk (below_step (by repeat (first | (with_reducible first | exact HB.out | apply below_alloc | apply pw_below_drewN | apply below_drew1) | exact HB.out)) hb); have n1_ := Aside0.mk (hbox); have n2_ := Aside0.mk ((by rw [hg]; exact (below_size (by repeat (first | (with_reducible first | exact HB.out | apply below_alloc | apply pw_below_drewN | apply below_drew1) | exact HB.out))) : w.heap.size ≤ gb818)); have n3_ := Aside0.mk ((by rw [hg]; exact (below_size (by repeat (first | (with_reducible first | exact HB.out | apply below_alloc | apply pw_below_drewN | apply below_drew1) | exact HB.out))) : w.heap.size ≤ gb818)); clear HB; have HB := n0_; have BK818 := n1_; have GW818 := n2_; have GE818 := n3_; clear n0_ n1_ n2_ n3_; clear hb hbox hg; have hcz6_0 : w5.cell? ⟨gb818, 0, none⟩ = some (.slice A0_0 l0_0.length c0_0) := (blk_cell BK818.out 0).trans rfl; have hcz6_1 : w5.cell? ⟨gb818, 1, none⟩ = some (.slice A0_1 l0_1.length c0_1) := (blk_cell BK818.out 1).trans rfl; have hfz6_0 := blk_frozen BK818.out 0; have hfz6_1 := blk_frozen BK818.out 1) | ((with_reducible refine gate_callee (f := 39) rfl ?_); refine goesL_ (some 33) rfl rfl Try.func39 (by kernel_rfl) rfl #[.agg #[.slice A0_0 l0_0.length c0_0, .slice A0_1 l0_1.length c0_1]] rfl (by (try simp only [List.map_toArray, List.map_cons, List.map_nil]); first | done | rfl | (simp only [List.length_drop, List.length_take]; rfl)) ?_; (with_reducible refine (herbariumlaw1_Heavy.calls k _ _ l0_0 _ _ l0_1 true _ ?side1 ?side2 ?side3 ?side4 A3.out).mono ?_); (case side1 => repeat (first | exact (Kd.C_below HR0_0.out HB.out) | (with_reducible refine Kd.C_alloc ?_ _) | (with_reducible refine Kd.C_drewN ?_ _) | (with_reducible refine Kd.C_drew ?_))); (case side2 => exact HC0_0.out); (case side3 => repeat (first | exact (Kd.C_below HR0_1.out HB.out) | (with_reducible refine Kd.C_alloc ?_ _) | (with_reducible refine Kd.C_drewN ?_ _) | (with_reducible refine Kd.C_drew ?_))); (case side4 => exact HC0_1.out); rintro e w7 ⟨rfl, hb⟩; refine ⟨_, rfl, ?_⟩; have n0_ := Aside0.mk (blk_below (g := gb818) (o := .cells #[.slice A0_0 l0_0.length c0_0, .slice A0_1 l0_1.length c0_1] 25 (0, 0)) (by (with_reducible repeat (first | refine blk_drewN ?_ _ | refine blk_drew ?_ | refine blk_alloc ?_ _)); exact BK818.out) hb); have n1_ := Aside0.mk (below_step (by repeat (first | (with_reducible first | exact HB.out | apply below_alloc | apply pw_below_drewN | apply below_drew1 | refine below_set ?_ GE818.out) | exact HB.out)) hb); clear BK818; clear HB; have BK818 := n0_; have HB := n1_; clear n0_ n1_; (try clear hb); (try clear hb2); (try clear hk); (try clear hi)))
  go_ret
  exact ⟨by first | rfl | (simp [errW_none, errW_some] <;> rfl) | (simp [*, errW_none, errW_some] <;> rfl), by repeat (first | (with_reducible first | exact HB.out | apply below_alloc | apply pw_below_drewN | apply below_drew1 | refine below_set ?_ GE818.out) | exact HB.out)⟩
 ·
  replace c4 := Bool.eq_false_iff.mpr c4
  subst c4
  have H1 : ((some (([1, 2, 3, 4, 7, 8, 15, 1000, 1001, 1073741824, 1073741825, 0, (-1)] : List Int) : List Int)).bind fun y820 => (if y820.length + l0_1.length < 17592186044416 then ((some (y820 ++ l0_1 : List Int)).bind fun y823 => (if (y823.length : Int) > 18 then (if 18 ≤ (y823.length : Int) then (herbariumlaw2_kinds.j0 k l1 (y823.take (18 : Int).toNat) l0_0 l0_1) else (none)) else (herbariumlaw2_kinds.j0 k l1 y823 l0_0 l0_1))) else (none))) = some true := by rw [if_neg (show ¬ (false = true) by decide)] at H; exact H
  clear H
  have H := H1
  clear H1
  obtain ⟨y820, hy820⟩ : ∃ y_ : List Int, y_ = (([1, 2, 3, 4, 7, 8, 15, 1000, 1001, 1073741824, 1073741825, 0, (-1)] : List Int)) := ⟨_, rfl⟩
  replace H : (if y820.length + l0_1.length < 17592186044416 then ((some (y820 ++ l0_1 : List Int)).bind fun y823 => (if (y823.length : Int) > 18 then (if 18 ≤ (y823.length : Int) then (herbariumlaw2_kinds.j0 k l1 (y823.take (18 : Int).toNat) l0_0 l0_1) else (none)) else (herbariumlaw2_kinds.j0 k l1 y823 l0_0 l0_1))) else (none)) = some true := by first | (rw [hy820]; with_reducible exact H) | (have H2_ := (Option.bind_some _ _).symm.trans H; rw [hy820]; with_reducible exact H2_) | (have H2_ := (Option.bind_some _ _).symm.trans H; with_reducible exact H2_) | with_reducible exact H | (rw [hy820]; exact H) | exact H
  have Ny820 := Aside0.mk hy820
  clear hy820
  by_cases c8 : y820.length + l0_1.length < 17592186044416
  ·
   rw [if_pos c8] at H
   have LMc8 := Aside0.mk c8
   clear c8
   obtain ⟨y823, hy823⟩ : ∃ y_ : List Int, y_ = (y820 ++ l0_1) := ⟨_, rfl⟩
   replace H : (if (y823.length : Int) > 18 then (if 18 ≤ (y823.length : Int) then (herbariumlaw2_kinds.j0 k l1 (y823.take (18 : Int).toNat) l0_0 l0_1) else (none)) else (herbariumlaw2_kinds.j0 k l1 y823 l0_0 l0_1)) = some true := by first | (rw [hy823]; with_reducible exact H) | (have H2_ := (Option.bind_some _ _).symm.trans H; rw [hy823]; with_reducible exact H2_) | (have H2_ := (Option.bind_some _ _).symm.trans H; with_reducible exact H2_) | with_reducible exact H | (rw [hy823]; exact H) | exact H
   have Ny823 := Aside0.mk hy823
   clear hy823
   have HC9 := Aside0.mk H
   clear H
   go_enter Try.func63, Try.ntmps63
   go_upto_if 40 with (first | ((with_reducible refine gate_dst (N := 2) rfl ?_); refine box_event ?hg (N := 2) ?hd (cs := #[.slice A0_0 l0_0.length c0_0, .slice A0_1 l0_1.length c0_1]) (t := 25) ?hr ?_; (case hd => rfl); (case hg => rfl); (case hr => first | (go_simp; done) | (go_simp; rfl)); intro gb818 hg w10 hbox hb; have n0_ := Aside0.mk (below_step (by repeat (first | (with_reducible first | exact HB.out | apply below_alloc | apply pw_below_drewN | apply below_drew1) | exact HB.out)) hb); have n1_ := Aside0.mk (hbox); have n2_ := Aside0.mk ((by rw [hg]; exact (below_size (by repeat (first | (with_reducible first | exact HB.out | apply below_alloc | apply pw_below_drewN | apply below_drew1) | exact HB.out))) : w.heap.size ≤ gb818)); have n3_ := Aside0.mk ((by rw [hg]; exact (below_size (by repeat (first | (with_reducible first | exact HB.out | apply below_alloc | apply pw_below_drewN | apply below_drew1) | exact HB.out))) : w.heap.size ≤ gb818)); clear HB; have HB := n0_; have BK818 := n1_; have GW818 := n2_; have GE818 := n3_; clear n0_ n1_ n2_ n3_; clear hb hbox hg; have hcz11_0 : w10.cell? ⟨gb818, 0, none⟩ = some (.slice A0_0 l0_0.length c0_0) := (blk_cell BK818.out 0).trans rfl; have hcz11_1 : w10.cell? ⟨gb818, 1, none⟩ = some (.slice A0_1 l0_1.length c0_1) := (blk_cell BK818.out 1).trans rfl; have hfz11_0 := blk_frozen BK818.out 0; have hfz11_1 := blk_frozen BK818.out 1) | ((with_reducible refine gate_callee (f := 39) rfl ?_); refine goesL_ (some 33) rfl rfl Try.func39 (by kernel_rfl) rfl #[.agg #[.slice A0_0 l0_0.length c0_0, .slice A0_1 l0_1.length c0_1]] rfl (by (try simp only [List.map_toArray, List.map_cons, List.map_nil]); first | done | rfl | (simp only [List.length_drop, List.length_take]; rfl)) ?_; (with_reducible refine (herbariumlaw1_Heavy.calls k _ _ l0_0 _ _ l0_1 false _ ?side1 ?side2 ?side3 ?side4 A3.out).mono ?_); (case side1 => repeat (first | exact (Kd.C_below HR0_0.out HB.out) | (with_reducible refine Kd.C_alloc ?_ _) | (with_reducible refine Kd.C_drewN ?_ _) | (with_reducible refine Kd.C_drew ?_))); (case side2 => exact HC0_0.out); (case side3 => repeat (first | exact (Kd.C_below HR0_1.out HB.out) | (with_reducible refine Kd.C_alloc ?_ _) | (with_reducible refine Kd.C_drewN ?_ _) | (with_reducible refine Kd.C_drew ?_))); (case side4 => exact HC0_1.out); rintro e w12 ⟨rfl, hb⟩; refine ⟨_, rfl, ?_⟩; have n0_ := Aside0.mk (blk_below (g := gb818) (o := .cells #[.slice A0_0 l0_0.length c0_0, .slice A0_1 l0_1.length c0_1] 25 (0, 0)) (by (with_reducible repeat (first | refine blk_drewN ?_ _ | refine blk_drew ?_ | refine blk_alloc ?_ _)); exact BK818.out) hb); have n1_ := Aside0.mk (below_step (by repeat (first | (with_reducible first | exact HB.out | apply below_alloc | apply pw_below_drewN | apply below_drew1 | refine below_set ?_ GE818.out) | exact HB.out)) hb); clear BK818; clear HB; have BK818 := n0_; have HB := n1_; clear n0_ n1_; (try clear hb); (try clear hb2); (try clear hk); (try clear hi)) | ((with_reducible refine gate_dst (N := 34) rfl ?_); refine Kd.R_lit (Kd.int .i64) _ 3 ?hg (N := 34) ?hd (xs := ([1, 2, 3, 4, 7, 8, 15, 1000, 1001, 1073741824, 1073741825, 0, (-1)] : List Int)) (inner := [.int .i64 1, .int .i64 2, .int .i64 3, .int .i64 4, .int .i64 7, .int .i64 8, .int .i64 15, .int .i64 1000, .int .i64 1001, .int .i64 1073741824, .int .i64 1073741825, .int .i64 0, .int .i64 (-1)]) (ok := fun _ => True) (okp := fun _ => True) ?hr ?hp (fun _ hk => hk) trivial (Below.refl _ _) (Nat.le_refl _) (by simp) ?_; (case hd => rfl); (case hg => rfl); (case hr => first | (go_simp; done) | (go_simp; rfl)); (case hp => exact (Reps.one (show Kd.M (Kd.int .i64) _ _ _ 1 [.int .i64 1] from rfl) (Reps.one (show Kd.M (Kd.int .i64) _ _ _ 2 [.int .i64 2] from rfl) (Reps.one (show Kd.M (Kd.int .i64) _ _ _ 3 [.int .i64 3] from rfl) (Reps.one (show Kd.M (Kd.int .i64) _ _ _ 4 [.int .i64 4] from rfl) (Reps.one (show Kd.M (Kd.int .i64) _ _ _ 7 [.int .i64 7] from rfl) (Reps.one (show Kd.M (Kd.int .i64) _ _ _ 8 [.int .i64 8] from rfl) (Reps.one (show Kd.M (Kd.int .i64) _ _ _ 15 [.int .i64 15] from rfl) (Reps.one (show Kd.M (Kd.int .i64) _ _ _ 1000 [.int .i64 1000] from rfl) (Reps.one (show Kd.M (Kd.int .i64) _ _ _ 1001 [.int .i64 1001] from rfl) (Reps.one (show Kd.M (Kd.int .i64) _ _ _ 1073741824 [.int .i64 1073741824] from rfl) (Reps.one (show Kd.M (Kd.int .i64) _ _ _ 1073741825 [.int .i64 1073741825] from rfl) (Reps.one (show Kd.M (Kd.int .i64) _ _ _ 0 [.int .i64 0] from rfl) (Reps.one (show Kd.M (Kd.int .i64) _ _ _ (-1) [.int .i64 (-1)] from rfl) (Reps.none _ _))))))))))))))); intro v821 w13 ho14 hb hg_ hnew_; clear hg_ hnew_; (first | rw [← Ny820.out] at ho14 | (simp only [Int.reduceToNat] at ho14; rw [← Ny820.out] at ho14)); have n0_ := Aside0.mk (Kd.R_lower ho14 (below_size (by repeat (first | (with_reducible first | exact HB.out | apply below_alloc | apply pw_below_drewN | apply below_drew1 | refine below_set ?_ GE818.out) | exact HB.out)))); have n1_ := Aside0.mk (blk_below (g := gb818) (o := .cells #[.slice A0_0 l0_0.length c0_0, .slice A0_1 l0_1.length c0_1] 25 (0, 0)) (by (with_reducible repeat (first | refine blk_drewN ?_ _ | refine blk_drew ?_ | refine blk_alloc ?_ _)); exact BK818.out) hb); have n2_ := Aside0.mk (below_step (by repeat (first | (with_reducible first | exact HB.out | apply below_alloc | apply pw_below_drewN | apply below_drew1 | refine below_set ?_ GE818.out) | exact HB.out)) hb); clear BK818; clear HB; have HO822 := n0_; have BK818 := n1_; have HB := n2_; clear n0_ n1_ n2_; clear hb ho14; have hcz15_0 : w13.cell? ⟨gb818, 0, none⟩ = some (.slice A0_0 l0_0.length c0_0) := (blk_cell BK818.out 0).trans rfl; have hcz15_1 : w13.cell? ⟨gb818, 1, none⟩ = some (.slice A0_1 l0_1.length c0_1) := (blk_cell BK818.out 1).trans rfl; have hfz15_0 := blk_frozen BK818.out 0; have hfz15_1 := blk_frozen BK818.out 1) | ((with_reducible refine gate_builtin (b := .append) (xs := #[.tmp 34, .tmp 36]) rfl ?_); at_builtin; refine Kd.R_append_rows (Kd.int .i64) (w0 := w) w.heap.size rfl (.tmp 34) (.tmp 36) 23 3 (.int .i64 0) 8 rfl Try.underlying23 info3 rfl (by decide) (by omega) v821 y820 l0_1 _ _ _ (fun _ => True) (fun _ => False) rfl rfl ?aO ?aR (fun _ _ h => h) (fun _ h => h.elim) ?aF ?aB ?aS ?aL ?_; (case aR => repeat (first | exact (Kd.C_below HR0_1.out HB.out) | (with_reducible refine Kd.C_alloc ?_ _) | (with_reducible refine Kd.C_drewN ?_ _) | (with_reducible refine Kd.C_drew ?_))); (case aB => exact (by repeat (first | (with_reducible first | exact HB.out | apply below_alloc | apply pw_below_drewN | apply below_drew1 | refine below_set ?_ GE818.out) | exact HB.out))); (case aF => exact (fun _ _ => trivial)); (case aO => exact (by (with_reducible repeat (first | apply Kd.R_alloc | apply Kd.R_drewN | apply Kd.R_drew)); exact HO822.out)); (case aS => exact (below_size (by repeat (first | (with_reducible first | exact HB.out | apply below_alloc | apply pw_below_drewN | apply below_drew1 | refine below_set ?_ GE818.out) | exact HB.out)))); (case aL => have := LMc8.out; omega); intro v824 w16 ho hb hg hat; rw [← Ny823.out] at ho; have n0_ := Aside0.mk (blk_grown (g := gb818) (o := .cells #[.slice A0_0 l0_0.length c0_0, .slice A0_1 l0_1.length c0_1] 25 (0, 0)) (by (with_reducible repeat (first | refine blk_drewN ?_ _ | refine blk_drew ?_ | refine blk_alloc ?_ _)); exact BK818.out) hg (Kd.R_ne HO822.out BK818.out (by decide))); have n1_ := Aside0.mk (hb); have n2_ := Aside0.mk (ho); clear BK818; clear HB; clear HO822; have BK818 := n0_; have HB := n1_; have HO825 := n2_; clear n0_ n1_ n2_; clear ho hb hg hat; obtain ⟨Ao17, co17, eo17⟩ := Kd.R_slice HO825.out; subst eo17))
   (try simp only [Act.put, List.setIfInBounds_toArray, List.set_cons_zero, List.set_cons_succ])
   go_cut [5] (fun v5 wc => ∃ (kq : Nat) (x5_8 : List Int), Aside0 (herbariumlaw2_kinds.j0 kq l1 x5_8 l0_0 l0_1 = some true) ∧ Aside0 (kq ≤ k) ∧ Aside0 (Kd.R (Kd.int .i64) 3 wc w.heap.size (fun _ => True) v5 x5_8) ∧ Aside0 (wc.heap[gb818]? = some (.cells #[(.slice A0_0 l0_0.length c0_0), (.slice A0_1 l0_1.length c0_1)] 25 (0, 0))) ∧ Aside0 (Below w.heap.size w wc))
   case first => as_aux_lemma =>
    have H := HC9.out
    clear HC9
    by_cases c18 : (y823.length : Int) > 18
    ·
     rw [if_pos c18] at H
     have c18b0 : decide (18 < (y823.length : Int)) = true := decide_eq_true c18
     have c18b1 : decide (18 < y823.length) = true := decide_eq_true (by omega)
     clear c18
     (first | rw [c18b0] | (simp only [i64_w, i32_w]; rw [c18b0]) | skip)
     by_cases c19 : 18 ≤ (y823.length : Int)
     ·
      rw [if_pos c19] at H
      have c19b0 := eq_true c19
      have c19b1 : decide (18 ≤ (y823.length : Int)) = true := decide_eq_true c19
      clear c19
      obtain ⟨y826, hy826⟩ : ∃ y_ : List Int, y_ = (y823.take (18 : Int).toNat) := ⟨_, rfl⟩
      replace H : (herbariumlaw2_kinds.j0 k l1 y826 l0_0 l0_1) = some true := by first | (rw [hy826]; with_reducible exact H) | (have H2_ := (Option.bind_some _ _).symm.trans H; rw [hy826]; with_reducible exact H2_) | (have H2_ := (Option.bind_some _ _).symm.trans H; with_reducible exact H2_) | with_reducible exact H | (rw [hy826]; exact H) | exact H
      have Ny826 := Aside0.mk hy826
      clear hy826
      have H' := Aside0.mk H
      clear H
      have q20 : (18 : Int) ≤ ((y823.length : Int) : Int) := of_decide_eq_true (by first | (with_reducible assumption) | assumption)
      obtain ⟨i020, hi020, _, hsz20, _⟩ := info_parts info3
      have hcut20 := cut_to (P := Try.prog) 23 3 .i64 Try.underlying23 hi020 Ao17 y823.length co17 18 (by omega) q20 (Kd.R_reads' HO825.out).2.1
      have hr20 := Kd.R_take (m := (18 : Int).toNat) HO825.out (by omega)
      have hy20 : y826.length = (18 : Int).toNat := (by rw [Ny826.out, List.length_take]; omega)
      rw [← Ny826.out] at hr20
      rw [← hy20] at hr20 hcut20
      clear hy20 hi020 hsz20 HO825
      have HO828 := Aside0.mk hr20
      clear hr20
      replace q20 := eq_true q20
      go_wp2
      go_meet
      case rel => exact ⟨_, (y826), H', ⟨by first | omega | exact Nat.le_refl _⟩, ⟨by (with_reducible repeat (first | apply Kd.R_alloc | apply Kd.R_drewN | apply Kd.R_drew)); exact HO828.out⟩, ⟨by (with_reducible repeat (first | refine blk_drewN ?_ _ | refine blk_drew ?_ | refine blk_alloc ?_ _)); exact BK818.out⟩, ⟨by repeat (first | (with_reducible first | exact HB.out | apply below_alloc | apply pw_below_drewN | apply below_drew1 | refine below_set ?_ GE818.out) | exact HB.out)⟩⟩
     ·
      rw [if_neg c19] at H
      exact absurd H (by simp)
    ·
     rw [if_neg c18] at H
     have c18b0 : decide (18 < (y823.length : Int)) = false := decide_eq_false c18
     have c18b1 : decide (18 < y823.length) = false := decide_eq_false (by omega)
     clear c18
     (first | rw [c18b0] | (simp only [i64_w, i32_w]; rw [c18b0]) | skip)
     have H' := Aside0.mk H
     clear H
     go_wp2
     go_meet
     case rel => exact ⟨_, (y823), H', ⟨by first | omega | exact Nat.le_refl _⟩, ⟨by (with_reducible repeat (first | apply Kd.R_alloc | apply Kd.R_drewN | apply Kd.R_drew)); exact HO825.out⟩, ⟨by (with_reducible repeat (first | refine blk_drewN ?_ _ | refine blk_drew ?_ | refine blk_alloc ?_ _)); exact BK818.out⟩, ⟨by repeat (first | (with_reducible first | exact HB.out | apply below_alloc | apply pw_below_drewN | apply below_drew1 | refine below_set ?_ GE818.out) | exact HB.out)⟩⟩
   case rest => as_aux_lemma =>
    clear HC9
    (try clear c1); (try clear p2); (try clear q2); (try clear c3); (try clear c4); (try clear c6); (try clear c8); (try clear c18); (try clear c18b0); (try clear c18b1); (try clear c19); (try clear c19b0); (try clear c19b1); (try clear q20); (try clear hcz11_0); (try clear hcz11_1); (try clear hcz15_0); (try clear hcz15_1); (try clear hcz6_0); (try clear hcz6_1); (try clear hfz11_0); (try clear hfz11_1); (try clear hfz15_0); (try clear hfz15_1); (try clear hfz6_0); (try clear hfz6_1); (try clear q20); (try clear HA); (try clear HJ8); (try clear HO_5); (try clear BK818); (try clear HB)
    obtain ⟨kq, x5_8, HA, HJ8, HO_5, BK818, HB⟩ := hcut
    cases kq with
    | zero => exact absurd HA.out (by simp [herbariumlaw2_kinds.j0])
    | succ kj8 =>
     have H := HA.out
     clear HA
     simp only [herbariumlaw2_kinds.j0] at H
     obtain ⟨y829, hy829⟩ : ∃ y_ : List (S27), y_ = (([(⟨(⟨#[]⟩ : ByteArray), 0⟩ : S27)] : List (S27))) := ⟨_, rfl⟩
     replace H : (if y829.length + l0_0.length < 5864062014805 then (herbariumlaw2_kinds.l0 kj8 l1 x5_8 (y829 ++ l0_0) 0) else (none)) = some true := by first | (rw [hy829]; with_reducible exact H) | (have H2_ := (Option.bind_some _ _).symm.trans H; rw [hy829]; with_reducible exact H2_) | (have H2_ := (Option.bind_some _ _).symm.trans H; with_reducible exact H2_) | with_reducible exact H | (rw [hy829]; exact H) | exact H
     have Ny829 := Aside0.mk hy829
     clear hy829
     by_cases c21 : y829.length + l0_0.length < 5864062014805
     ·
      rw [if_pos c21] at H
      have LMc21 := Aside0.mk c21
      clear c21
      obtain ⟨y832, hy832⟩ : ∃ y_ : List (S27), y_ = (y829 ++ l0_0) := ⟨_, rfl⟩
      replace H : (herbariumlaw2_kinds.l0 kj8 l1 x5_8 y832 0) = some true := by first | (rw [hy832]; with_reducible exact H) | (have H2_ := (Option.bind_some _ _).symm.trans H; rw [hy832]; with_reducible exact H2_) | (have H2_ := (Option.bind_some _ _).symm.trans H; with_reducible exact H2_) | with_reducible exact H | (rw [hy832]; exact H) | exact H
      have Ny832 := Aside0.mk hy832
      clear hy832
      have H' := Aside0.mk H
      clear H
      go_wp2_with (first | ((with_reducible refine gate_dst (N := 44) rfl ?_); refine Kd.R_lit k27 _ 27 ?hg (N := 44) ?hd (xs := ([(⟨(⟨#[]⟩ : ByteArray), 0⟩ : S27)] : List (S27))) (inner := [.string (⟨#[]⟩ : ByteArray), .int .i64 0]) (ok := fun _ => True) (okp := fun _ => True) ?hr ?hp (fun _ hk => hk) trivial (Below.refl _ _) (Nat.le_refl _) (by simp) ?_; (case hd => rfl); (case hg => rfl); (case hr => first | (go_simp; done) | (go_simp; rfl)); (case hp => exact (Reps.c2 (show Kd.M k27 _ _ _ (⟨(⟨#[]⟩ : ByteArray), 0⟩ : S27) [.string (⟨#[]⟩ : ByteArray), .int .i64 0] from (k27_mkM _ _ _ (⟨(⟨#[]⟩ : ByteArray), 0⟩ : S27) )) (Reps.none _ _))); intro v830 w22 ho23 hb hg_ hnew_; clear hg_ hnew_; (first | rw [← Ny829.out] at ho23 | (simp only [Int.reduceToNat] at ho23; rw [← Ny829.out] at ho23)); have n0_ := Aside0.mk (Kd.R_below (by (with_reducible repeat (first | apply Kd.R_alloc | apply Kd.R_drewN | apply Kd.R_drew)); exact HO_5.out) hb); have n1_ := Aside0.mk (Kd.R_lower ho23 (below_size (by repeat (first | (with_reducible first | exact HB.out | apply below_alloc | apply pw_below_drewN | apply below_drew1 | refine below_set ?_ GE818.out) | exact HB.out)))); have n2_ := Aside0.mk (blk_below (g := gb818) (o := .cells #[.slice A0_0 l0_0.length c0_0, .slice A0_1 l0_1.length c0_1] 25 (0, 0)) (by (with_reducible repeat (first | refine blk_drewN ?_ _ | refine blk_drew ?_ | refine blk_alloc ?_ _)); exact BK818.out) hb); have n3_ := Aside0.mk (below_step (by repeat (first | (with_reducible first | exact HB.out | apply below_alloc | apply pw_below_drewN | apply below_drew1 | refine below_set ?_ GE818.out) | exact HB.out)) hb); clear HO_5; clear BK818; clear HB; have HO_5 := n0_; have HO831 := n1_; have BK818 := n2_; have HB := n3_; clear n0_ n1_ n2_ n3_; clear hb ho23; have hcz24_0 : w22.cell? ⟨gb818, 0, none⟩ = some (.slice A0_0 l0_0.length c0_0) := (blk_cell BK818.out 0).trans rfl; have hcz24_1 : w22.cell? ⟨gb818, 1, none⟩ = some (.slice A0_1 l0_1.length c0_1) := (blk_cell BK818.out 1).trans rfl; have hfz24_0 := blk_frozen BK818.out 0; have hfz24_1 := blk_frozen BK818.out 1) | ((with_reducible refine gate_builtin (b := .append) (xs := #[.tmp 44, .tmp 46]) rfl ?_); at_builtin; refine Kd.R_append_rows k27 (w0 := w) w.heap.size rfl (.tmp 44) (.tmp 46) 22 27 (.agg #[(.string ⟨#[]⟩), (.int .i64 0)]) 24 rfl Try.underlying22 info27 rfl (by decide) (by omega) v830 y829 l0_0 _ _ _ (fun _ => True) (fun _ => False) rfl rfl ?aO ?aR (fun _ _ h => h) (fun _ h => h.elim) ?aF ?aB ?aS ?aL ?_; (case aR => repeat (first | exact (Kd.C_below HR0_0.out HB.out) | (with_reducible refine Kd.C_alloc ?_ _) | (with_reducible refine Kd.C_drewN ?_ _) | (with_reducible refine Kd.C_drew ?_))); (case aB => exact (by repeat (first | (with_reducible first | exact HB.out | apply below_alloc | apply pw_below_drewN | apply below_drew1 | refine below_set ?_ GE818.out) | exact HB.out))); (case aF => exact (fun _ _ => trivial)); (case aO => exact (by (with_reducible repeat (first | apply Kd.R_alloc | apply Kd.R_drewN | apply Kd.R_drew)); exact HO831.out)); (case aS => exact (below_size (by repeat (first | (with_reducible first | exact HB.out | apply below_alloc | apply pw_below_drewN | apply below_drew1 | refine below_set ?_ GE818.out) | exact HB.out)))); (case aL => have := LMc21.out; omega); intro v833 w25 ho hb hg hat; rw [← Ny832.out] at ho; have n0_ := Aside0.mk (Kd.R_over' (by (with_reducible repeat (first | apply Kd.R_alloc | apply Kd.R_drewN | apply Kd.R_drew)); exact HO_5.out) (Kd.R_typed (by (with_reducible repeat (first | apply Kd.R_alloc | apply Kd.R_drewN | apply Kd.R_drew)); exact HO831.out)) (by decide) hg); have n1_ := Aside0.mk (blk_grown (g := gb818) (o := .cells #[.slice A0_0 l0_0.length c0_0, .slice A0_1 l0_1.length c0_1] 25 (0, 0)) (by (with_reducible repeat (first | refine blk_drewN ?_ _ | refine blk_drew ?_ | refine blk_alloc ?_ _)); exact BK818.out) hg (Kd.R_ne HO831.out BK818.out (by decide))); have n2_ := Aside0.mk (hb); have n3_ := Aside0.mk (ho); clear HO_5; clear BK818; clear HB; clear HO831; have HO_5 := n0_; have BK818 := n1_; have HB := n2_; have HO834 := n3_; clear n0_ n1_ n2_ n3_; clear ho hb hg hat))
      go_loopg [7] kj8 (fun kq v7 w' => ∃ (x7_2 : Int), v7 = .int .i64 x7_2 ∧ Aside0 (herbariumlaw2_kinds.l0 kq l1 x5_8 y832 x7_2 = some true) ∧ Aside0 (kq ≤ kj8) ∧ Aside0 (Kd.R (Kd.int .i64) 3 w' w.heap.size (fun _ => True) u5 x5_8) ∧ Aside0 (Kd.R k27 27 w' w.heap.size (fun _ => True) v833 y832) ∧ Aside0 (w'.heap[gb818]? = some (.cells #[(.slice A0_0 l0_0.length c0_0), (.slice A0_1 l0_1.length c0_1)] 25 (0, 0))) ∧ Aside0 (Below w.heap.size w w'))
      case atStart => exact ⟨(0), (by first | rfl | (simp; done) | (simp [*]; done)), H', ⟨Nat.le_refl _⟩, ⟨by (with_reducible repeat (first | apply Kd.R_alloc | apply Kd.R_drewN | apply Kd.R_drew)); exact HO_5.out⟩, ⟨by (with_reducible repeat (first | apply Kd.R_alloc | apply Kd.R_drewN | apply Kd.R_drew)); exact HO834.out⟩, ⟨by (with_reducible repeat (first | refine blk_drewN ?_ _ | refine blk_drew ?_ | refine blk_alloc ?_ _)); exact BK818.out⟩, ⟨by repeat (first | (with_reducible first | exact HB.out | apply below_alloc | apply pw_below_drewN | apply below_drew1 | refine below_set ?_ GE818.out) | exact HB.out)⟩⟩
      case round => as_aux_lemma =>
       clear H'
       (try clear c1); (try clear c2); (try clear p2); (try clear q2); (try clear c3); (try clear c4); (try clear c6); (try clear c8); (try clear c18); (try clear c18b0); (try clear c18b1); (try clear c19); (try clear c19b0); (try clear c19b1); (try clear q20); (try clear c21); (try clear hcz11_0); (try clear hcz11_1); (try clear hcz15_0); (try clear hcz15_1); (try clear hcz24_0); (try clear hcz24_1); (try clear hcz6_0); (try clear hcz6_1); (try clear hfz11_0); (try clear hfz11_1); (try clear hfz15_0); (try clear hfz15_1); (try clear hfz24_0); (try clear hfz24_1); (try clear hfz6_0); (try clear hfz6_1)
       (try clear p2); (try clear q2); (try clear q20); (try clear HA); (try clear HK2); (try clear HO_5); (try clear HO_6); (try clear BK818); (try clear HB)
       obtain ⟨x7_2, rfl, HA, HK2, HO_5, HO_6, BK818, HB⟩ := hrel
       cases gk with
       | zero => exact absurd HA.out (by simp [herbariumlaw2_kinds.l0])
       | succ k2 =>
        have H := HA.out
        clear HA
        simp only [herbariumlaw2_kinds.l0] at H
        by_cases c26 : x7_2 < (l1.length : Int)
        ·
         rw [if_pos c26] at H
         have c26b0 : decide (x7_2 < (l1.length : Int)) = true := decide_eq_true c26
         clear c26
         by_cases c27 : 0 ≤ x7_2
         ·
          rw [if_pos c27] at H
          have c27b0 : decide (0 ≤ x7_2) = true := decide_eq_true c27
          clear c27
          have H' := Aside0.mk H
          clear H
          have p836 : 0 ≤ (x7_2 : Int) := of_decide_eq_true (by first | (with_reducible assumption) | assumption)
          have q836 : x7_2 < (l1.length : Int) := of_decide_eq_true (by first | (with_reducible assumption) | assumption)
          obtain ⟨ad836, e836, hx836_0⟩ := Kd.at_int HR1.out x7_2 p836 q836
          cases e836
          replace hx836_0 := (HB.out.cell (World.block_lt_of_cell? w _ hx836_0)).trans hx836_0
          replace p836 := eq_true p836
          replace q836 := eq_true q836
          go_wp2
          go_loopg [9] k2 (fun kq v9 w' => ∃ (x9_3 : Int), v9 = .int .i64 x9_3 ∧ Aside0 (herbariumlaw2_kinds.l1 kq l1 x5_8 y832 x7_2 (rd l1 x7_2) x9_3 = some true) ∧ Aside0 (kq ≤ k2) ∧ Aside0 (Kd.R (Kd.int .i64) 3 w' w.heap.size (fun _ => True) u5 x5_8) ∧ Aside0 (Kd.R k27 27 w' w.heap.size (fun _ => True) v833 y832) ∧ Aside0 (w'.heap[gb818]? = some (.cells #[(.slice A0_0 l0_0.length c0_0), (.slice A0_1 l0_1.length c0_1)] 25 (0, 0))) ∧ Aside0 (Below w.heap.size w w'))
          case atStart => exact ⟨(0), (by first | rfl | (simp; done) | (simp [*]; done)), H', ⟨Nat.le_refl _⟩, ⟨by (with_reducible repeat (first | apply Kd.R_alloc | apply Kd.R_drewN | apply Kd.R_drew)); exact HO_5.out⟩, ⟨by (with_reducible repeat (first | apply Kd.R_alloc | apply Kd.R_drewN | apply Kd.R_drew)); exact HO_6.out⟩, ⟨by (with_reducible repeat (first | refine blk_drewN ?_ _ | refine blk_drew ?_ | refine blk_alloc ?_ _)); exact BK818.out⟩, ⟨by repeat (first | (with_reducible first | exact HB.out | apply below_alloc | apply pw_below_drewN | apply below_drew1 | refine below_set ?_ GE818.out) | exact HB.out)⟩⟩
          case round => as_aux_lemma =>
           clear H'
           (try clear c1); (try clear c2); (try clear p2); (try clear q2); (try clear c3); (try clear c4); (try clear c6); (try clear c8); (try clear p8); (try clear q8); (try clear hx8); (try clear c18); (try clear c18b0); (try clear c18b1); (try clear c19); (try clear c19b0); (try clear c19b1); (try clear q20); (try clear c21); (try clear c26); (try clear c26b0); (try clear c27); (try clear c27b0); (try clear hcz11_0); (try clear hcz11_1); (try clear hcz15_0); (try clear hcz15_1); (try clear hcz24_0); (try clear hcz24_1); (try clear hcz6_0); (try clear hcz6_1); (try clear hfz11_0); (try clear hfz11_1)
           (try clear hfz15_0); (try clear hfz15_1); (try clear hfz24_0); (try clear hfz24_1); (try clear hfz6_0); (try clear hfz6_1); (try clear hx836_0); (try clear p2); (try clear p836); (try clear q2); (try clear q20); (try clear q836); (try clear HA); (try clear HK3); (try clear HO_5); (try clear HO_6); (try clear BK818); (try clear HB)
           obtain ⟨x9_3, rfl, HA, HK3, HO_5, HO_6, BK818, HB⟩ := hrel
           cases gk with
           | zero => exact absurd HA.out (by simp [herbariumlaw2_kinds.l1])
           | succ k3 =>
            have H := HA.out
            clear HA
            simp only [herbariumlaw2_kinds.l1] at H
            have HC28 := Aside0.mk H
            clear H
            go_upto_region 12 with (fail)
            go_cut [65] (fun v65 wc => ∃ (kq : Nat) (x65_27 : Bool), v65 = .bool x65_27 ∧ Aside0 (herbariumlaw2_kinds.j3 kq l1 x5_8 y832 x7_2 (rd l1 x7_2) x9_3 x65_27 = some true) ∧ Aside0 (kq ≤ k3) ∧ Aside0 (Kd.R (Kd.int .i64) 3 wc w.heap.size (fun _ => True) u5 x5_8) ∧ Aside0 (Kd.R k27 27 wc w.heap.size (fun _ => True) v833 y832) ∧ Aside0 (wc.heap[gb818]? = some (.cells #[(.slice A0_0 l0_0.length c0_0), (.slice A0_1 l0_1.length c0_1)] 25 (0, 0))) ∧ Aside0 (Below w.heap.size w wc))
            case first => as_aux_lemma =>
             have H := HC28.out
             clear HC28
             by_cases c29 : x9_3 < (y832.length : Int)
             ·
              rw [if_pos c29] at H
              have c29b0 : decide (x9_3 < (y832.length : Int)) = true := decide_eq_true c29
              clear c29
              (first | rw [c29b0] | (simp only [i64_w, i32_w]; rw [c29b0]) | skip)
              have H' := Aside0.mk H
              clear H
              obtain ⟨Ao30, co30, eo30⟩ := Kd.R_slice HO_6.out
              subst eo30
              go_wp2
              go_meet
              case rel => exact ⟨_, (decide (x9_3 < 6)), (by first | rfl | (simp; done) | (simp [*]; done)), H', ⟨by have := HJ8.out; have := HK2.out; have := HK3.out; first | omega | exact Nat.le_refl _⟩, ⟨by (with_reducible repeat (first | apply Kd.R_alloc | apply Kd.R_drewN | apply Kd.R_drew)); exact HO_5.out⟩, ⟨by (with_reducible repeat (first | apply Kd.R_alloc | apply Kd.R_drewN | apply Kd.R_drew)); exact HO_6.out⟩, ⟨by (with_reducible repeat (first | refine blk_drewN ?_ _ | refine blk_drew ?_ | refine blk_alloc ?_ _)); exact BK818.out⟩, ⟨by repeat (first | (with_reducible first | exact HB.out | apply below_alloc | apply pw_below_drewN | apply below_drew1 | refine below_set ?_ GE818.out) | exact HB.out)⟩⟩
             ·
              rw [if_neg c29] at H
              have c29b0 : decide (x9_3 < (y832.length : Int)) = false := decide_eq_false c29
              clear c29
              (first | rw [c29b0] | (simp only [i64_w, i32_w]; rw [c29b0]) | skip)
              have H' := Aside0.mk H
              clear H
              obtain ⟨Ao31, co31, eo31⟩ := Kd.R_slice HO_6.out
              subst eo31
              go_wp2
              go_meet
              case rel => exact ⟨_, (false), (by first | rfl | (simp; done) | (simp [*]; done)), H', ⟨by have := HJ8.out; have := HK2.out; have := HK3.out; first | omega | exact Nat.le_refl _⟩, ⟨by (with_reducible repeat (first | apply Kd.R_alloc | apply Kd.R_drewN | apply Kd.R_drew)); exact HO_5.out⟩, ⟨by (with_reducible repeat (first | apply Kd.R_alloc | apply Kd.R_drewN | apply Kd.R_drew)); exact HO_6.out⟩, ⟨by (with_reducible repeat (first | refine blk_drewN ?_ _ | refine blk_drew ?_ | refine blk_alloc ?_ _)); exact BK818.out⟩, ⟨by repeat (first | (with_reducible first | exact HB.out | apply below_alloc | apply pw_below_drewN | apply below_drew1 | refine below_set ?_ GE818.out) | exact HB.out)⟩⟩
            case rest => as_aux_lemma =>
             clear HC28
             (try clear c1); (try clear c2); (try clear p2); (try clear q2); (try clear c3); (try clear c4); (try clear c6); (try clear c8); (try clear p8); (try clear q8); (try clear hx8); (try clear c18); (try clear c18b0); (try clear c18b1); (try clear c19); (try clear c19b0); (try clear c19b1); (try clear q20); (try clear c21); (try clear c26); (try clear c26b0); (try clear c27); (try clear c27b0); (try clear c29); (try clear c29b0); (try clear hcz11_0); (try clear hcz11_1); (try clear hcz15_0); (try clear hcz15_1); (try clear hcz24_0); (try clear hcz24_1); (try clear hcz6_0); (try clear hcz6_1)
             (try clear hfz11_0); (try clear hfz11_1); (try clear hfz15_0); (try clear hfz15_1); (try clear hfz24_0); (try clear hfz24_1); (try clear hfz6_0); (try clear hfz6_1); (try clear hx836_0); (try clear p2); (try clear p8); (try clear p836); (try clear q2); (try clear q20); (try clear q8); (try clear q836); (try clear HA); (try clear HJ27); (try clear HO_5); (try clear HO_6); (try clear BK818); (try clear HB)
             obtain ⟨kq, x65_27, rfl, HA, HJ27, HO_5, HO_6, BK818, HB⟩ := hcut
             cases kq with
             | zero => exact absurd HA.out (by simp [herbariumlaw2_kinds.j3])
             | succ kj27 =>
              have H := HA.out
              clear HA
              simp only [herbariumlaw2_kinds.j3] at H
              by_cases c32 : x65_27 = true
              ·
               subst c32
               have H1 : (if 0 ≤ x9_3 then (if x9_3 < (y832.length : Int) then ((herbariumref1_Bits.f kj27 ((rd_T27 y832 x9_3).f0) ((rd_T27 y832 x9_3).f1)).bind fun t839 => (if t839 = true then ((herbariumref1_Of.f kj27 ((rd_T27 y832 x9_3).f0) ((rd_T27 y832 x9_3).f1)).bind fun t840 => (herbariumlaw2_kinds.j4 kj27 l1 x5_8 y832 x7_2 (rd l1 x7_2) x9_3 t839 t840 ((rd_T27 y832 x9_3).f0) ((rd_T27 y832 x9_3).f1))) else (herbariumlaw2_kinds.j4 kj27 l1 x5_8 y832 x7_2 (rd l1 x7_2) x9_3 t839 ([] : List Int) ((rd_T27 y832 x9_3).f0) ((rd_T27 y832 x9_3).f1)))) else (none)) else (none)) = some true := by rw [if_pos rfl] at H; exact H
               clear H
               have H := H1
               clear H1
               by_cases c33 : 0 ≤ x9_3
               ·
                rw [if_pos c33] at H
                have c33b0 : decide (0 ≤ x9_3) = true := decide_eq_true c33
                clear c33
                by_cases c34 : x9_3 < (y832.length : Int)
                ·
                 rw [if_pos c34] at H
                 have c34b0 : decide (x9_3 < (y832.length : Int)) = true := decide_eq_true c34
                 clear c34
                 replace H := Option.bind_eq_some_iff.mp H
                 obtain ⟨t839, A350, H⟩ := H
                 replace H : (if t839 = true then ((herbariumref1_Of.f kj27 ((rd_T27 y832 x9_3).f0) ((rd_T27 y832 x9_3).f1)).bind fun t840 => (herbariumlaw2_kinds.j4 kj27 l1 x5_8 y832 x7_2 (rd l1 x7_2) x9_3 t839 t840 ((rd_T27 y832 x9_3).f0) ((rd_T27 y832 x9_3).f1))) else (herbariumlaw2_kinds.j4 kj27 l1 x5_8 y832 x7_2 (rd l1 x7_2) x9_3 t839 ([] : List Int) ((rd_T27 y832 x9_3).f0) ((rd_T27 y832 x9_3).f1))) = some true := H
                 have A35 := Aside0.mk A350
                 clear A350
                 have HC36 := Aside0.mk H
                 clear H
                 obtain ⟨Ao37, co37, eo37⟩ := Kd.R_slice HO_6.out
                 subst eo37
                 have p837 : 0 ≤ (x9_3 : Int) := of_decide_eq_true (by first | (with_reducible assumption) | assumption)
                 have q837 : x9_3 < (y832.length : Int) := of_decide_eq_true (by first | (with_reducible assumption) | assumption)
                 obtain ⟨ad837, e837, hx837_0, hx837_1⟩ := at_T27 (Kd.R_reads' HO_6.out).2.2 x9_3 p837 q837
                 cases e837
                 replace p837 := eq_true p837
                 replace q837 := eq_true q837
                 go_upto_if 74 with (first | ((with_reducible refine gate_dst (N := 10) rfl ?_); refine box_event ?hg (N := 10) ?hd (cs := #[.string (⟨#[]⟩ : ByteArray), .int .i64 0]) (t := 27) ?hr ?_; (case hd => rfl); (case hg => rfl); (case hr => first | (go_simp; done) | (go_simp; rfl)); intro gb838 hg w38 hbox hb; have n0_ := Aside0.mk (Kd.R_below (by (with_reducible repeat (first | apply Kd.R_alloc | apply Kd.R_drewN | apply Kd.R_drew)); exact HO_5.out) hb); have n1_ := Aside0.mk (Kd.R_below (Kd.R_elderB (by (with_reducible repeat (first | apply Kd.R_alloc | apply Kd.R_drewN | apply Kd.R_drew)); exact HO_6.out) gb838 (Nat.le_of_eq hg.symm)) hb); have n2_ := Aside0.mk (blk_below (g := gb818) (o := .cells #[.slice A0_0 l0_0.length c0_0, .slice A0_1 l0_1.length c0_1] 25 (0, 0)) (by (with_reducible repeat (first | refine blk_drewN ?_ _ | refine blk_drew ?_ | refine blk_alloc ?_ _)); exact BK818.out) hb); have n3_ := Aside0.mk (below_step (by repeat (first | (with_reducible first | exact HB.out | apply below_alloc | apply pw_below_drewN | apply below_drew1 | refine below_set ?_ GE818.out) | exact HB.out)) hb); have n4_ := Aside0.mk (hbox); have n5_ := Aside0.mk ((by rw [hg]; exact (below_size (by repeat (first | (with_reducible first | exact HB.out | apply below_alloc | apply pw_below_drewN | apply below_drew1 | refine below_set ?_ GE818.out) | exact HB.out))) : w.heap.size ≤ gb838)); have n6_ := Aside0.mk ((by rw [hg]; exact (below_size (by repeat (first | (with_reducible first | exact HB.out | apply below_alloc | apply pw_below_drewN | apply below_drew1 | refine below_set ?_ GE818.out) | exact HB.out))) : w.heap.size ≤ gb838)); have n7_ := Aside0.mk ((by rw [hg]; exact Nat.ne_of_lt (blk_lt (g := gb818) (o := .cells #[.slice A0_0 l0_0.length c0_0, .slice A0_1 l0_1.length c0_1] 25 (0, 0)) (by (with_reducible repeat (first | refine blk_drewN ?_ _ | refine blk_drew ?_ | refine blk_alloc ?_ _)); exact BK818.out)) : gb818 ≠ gb838)); have n8_ := Aside0.mk ((by rw [hg]; exact Nat.ne_of_gt (blk_lt (g := gb818) (o := .cells #[.slice A0_0 l0_0.length c0_0, .slice A0_1 l0_1.length c0_1] 25 (0, 0)) (by (with_reducible repeat (first | refine blk_drewN ?_ _ | refine blk_drew ?_ | refine blk_alloc ?_ _)); exact BK818.out)) : gb838 ≠ gb818)); clear HO_5; clear HO_6; clear BK818; clear HB; have HO_5 := n0_; have HO_6 := n1_; have BK818 := n2_; have HB := n3_; have BK838 := n4_; have GW838 := n5_; have GE838 := n6_; have NB818_838 := n7_; have NB838_818 := n8_; clear n0_ n1_ n2_ n3_ n4_ n5_ n6_ n7_ n8_; clear hb hbox hg; have hnb39 := NB838_818.out; have hnc39 := NB818_838.out; have hcz40_0 : w38.cell? ⟨gb838, 0, none⟩ = some (.string (⟨#[]⟩ : ByteArray)) := (blk_cell BK838.out 0).trans rfl; have hcz40_1 : w38.cell? ⟨gb838, 1, none⟩ = some (.int .i64 0) := (blk_cell BK838.out 1).trans rfl; have hfz40_0 := blk_frozen BK838.out 0; have hfz40_1 := blk_frozen BK838.out 1) | ((with_reducible refine gate_callee (f := 50) rfl ?_); refine goesL_ (some 73) rfl rfl Try.func50 (by kernel_rfl) rfl #[.agg #[.string ((rd_T27 y832 x9_3).f0), .int .i64 ((rd_T27 y832 x9_3).f1)]] rfl (by (try simp only [List.map_toArray, List.map_cons, List.map_nil]); first | done | rfl | (simp only [List.length_drop, List.length_take]; rfl)) ?_; (with_reducible refine (herbariumref1_Bits.calls kj27 ((rd_T27 y832 x9_3).f0) ((rd_T27 y832 x9_3).f1) t839 _ A35.out).mono ?_); rintro e w41 ⟨rfl, hb⟩; refine ⟨_, rfl, ?_⟩; have n0_ := Aside0.mk (Kd.R_below (by (with_reducible repeat (first | apply Kd.R_alloc | apply Kd.R_drewN | apply Kd.R_drew)); exact (Kd.R_mono (Kd.R_far (p := ⟨gb838, 1, none⟩) (Kd.R_far (p := ⟨gb838, 0, none⟩) (Kd.R_types HO_5.out BK838.out (by decide)) (fun _ hk => hk.2) (.string ((rd_T27 y832 x9_3).f0))) (fun _ hk => hk.2) (.int .i64 ((rd_T27 y832 x9_3).f1))) (fun _ h_ => h_.1))) hb); have n1_ := Aside0.mk (Kd.R_below (by (with_reducible repeat (first | apply Kd.R_alloc | apply Kd.R_drewN | apply Kd.R_drew)); exact (Kd.R_mono (Kd.R_far (p := ⟨gb838, 1, none⟩) (Kd.R_far (p := ⟨gb838, 0, none⟩) (Kd.R_mono HO_6.out (fun k_ hk => (⟨hk, hk.2⟩ : _ ∧ k_ ≠ gb838))) (fun _ hk => hk.2) (.string ((rd_T27 y832 x9_3).f0))) (fun _ hk => hk.2) (.int .i64 ((rd_T27 y832 x9_3).f1))) (fun _ h_ => h_.1))) hb); have n2_ := Aside0.mk (blk_below (g := gb818) (o := .cells #[.slice A0_0 l0_0.length c0_0, .slice A0_1 l0_1.length c0_1] 25 (0, 0)) (by (with_reducible repeat (first | refine blk_drewN ?_ _ | refine blk_drew ?_ | refine blk_alloc ?_ _)); refine blk_far ?_ NB818_838.out _; (with_reducible repeat (first | refine blk_drewN ?_ _ | refine blk_drew ?_ | refine blk_alloc ?_ _)); refine blk_far ?_ NB818_838.out _; (with_reducible repeat (first | refine blk_drewN ?_ _ | refine blk_drew ?_ | refine blk_alloc ?_ _)); exact BK818.out) hb); have n3_ := Aside0.mk (blk_below (g := gb838) (o := .cells #[.string ((rd_T27 y832 x9_3).f0), .int .i64 ((rd_T27 y832 x9_3).f1)] 27 (0, 0)) (by (with_reducible repeat (first | refine blk_drewN ?_ _ | refine blk_drew ?_ | refine blk_alloc ?_ _)); refine blk_put (cs := #[.string ((rd_T27 y832 x9_3).f0), .int .i64 0]) ?_ 1 _ rfl; (with_reducible repeat (first | refine blk_drewN ?_ _ | refine blk_drew ?_ | refine blk_alloc ?_ _)); refine blk_put (cs := #[.string (⟨#[]⟩ : ByteArray), .int .i64 0]) ?_ 0 _ rfl; (with_reducible repeat (first | refine blk_drewN ?_ _ | refine blk_drew ?_ | refine blk_alloc ?_ _)); exact BK838.out) hb); have n4_ := Aside0.mk (below_step (by repeat (first | (with_reducible first | exact HB.out | apply below_alloc | apply pw_below_drewN | apply below_drew1 | refine below_set ?_ GE818.out | refine below_set ?_ GE838.out) | exact HB.out)) hb); clear HO_5; clear HO_6; clear BK818; clear BK838; clear HB; have HO_5 := n0_; have HO_6 := n1_; have BK818 := n2_; have BK838 := n3_; have HB := n4_; clear n0_ n1_ n2_ n3_ n4_; (try clear hb); (try clear hb2); (try clear hk); (try clear hi)))
                 (try simp only [Act.put, List.setIfInBounds_toArray, List.set_cons_zero, List.set_cons_succ])
                 go_cut [12] (fun v12 wc => ∃ (kq : Nat) (x12_35 : List Int), Aside0 (herbariumlaw2_kinds.j4 kq l1 x5_8 y832 x7_2 (rd l1 x7_2) x9_3 t839 x12_35 ((rd_T27 y832 x9_3).f0) ((rd_T27 y832 x9_3).f1) = some true) ∧ Aside0 (kq ≤ kj27) ∧ Aside0 (Kd.R (Kd.int .i64) 3 wc w.heap.size (fun _ => True) u5 x5_8) ∧ Aside0 (Kd.R k27 27 wc w.heap.size (fun k_ => k_ ≠ gb838) (.slice (some ad837) y832.length co37) y832) ∧ Aside0 (Kd.R (Kd.int .u8) 5 wc w.heap.size (fun _ => True) v12 x12_35) ∧ Aside0 (wc.heap[gb818]? = some (.cells #[(.slice A0_0 l0_0.length c0_0), (.slice A0_1 l0_1.length c0_1)] 25 (0, 0))) ∧ Aside0 (wc.heap[gb838]? = some (.cells #[.string ((rd_T27 y832 x9_3).f0), .int .i64 ((rd_T27 y832 x9_3).f1)] 27 (0, 0))) ∧ Aside0 (Below w.heap.size w wc))
                 case first => as_aux_lemma =>
                  have H := HC36.out
                  clear HC36
                  by_cases c42 : t839 = true
                  ·
                   subst c42
                   have H1 : ((herbariumref1_Of.f kj27 ((rd_T27 y832 x9_3).f0) ((rd_T27 y832 x9_3).f1)).bind fun t840 => (herbariumlaw2_kinds.j4 kj27 l1 x5_8 y832 x7_2 (rd l1 x7_2) x9_3 true t840 ((rd_T27 y832 x9_3).f0) ((rd_T27 y832 x9_3).f1))) = some true := by rw [if_pos rfl] at H; exact H
                   clear H
                   have H := H1
                   clear H1
                   replace H := Option.bind_eq_some_iff.mp H
                   obtain ⟨t840, A430, H⟩ := H
                   replace H : (herbariumlaw2_kinds.j4 kj27 l1 x5_8 y832 x7_2 (rd l1 x7_2) x9_3 true t840 ((rd_T27 y832 x9_3).f0) ((rd_T27 y832 x9_3).f1)) = some true := H
                   have A43 := Aside0.mk A430
                   clear A430
                   have H' := Aside0.mk H
                   clear H
                   have hnb44 := NB838_818.out
                   have hnc44 := NB818_838.out
                   have hcz45_0 : w41.cell? ⟨gb838, 0, none⟩ = some (.string ((rd_T27 y832 x9_3).f0)) := (blk_cell BK838.out 0).trans rfl
                   have hcz45_1 : w41.cell? ⟨gb838, 1, none⟩ = some (.int .i64 ((rd_T27 y832 x9_3).f1)) := (blk_cell BK838.out 1).trans rfl
                   have hfz45_0 := blk_frozen BK838.out 0
                   have hfz45_1 := blk_frozen BK838.out 1
                   go_wp2_with (first | ((with_reducible refine gate_callee (f := 52) rfl ?_); refine goesL_ (some 76) rfl rfl Try.func52 (by kernel_rfl) rfl #[.agg #[.string ((rd_T27 y832 x9_3).f0), .int .i64 ((rd_T27 y832 x9_3).f1)]] rfl (by (try simp only [List.map_toArray, List.map_cons, List.map_nil]); first | done | rfl | (simp only [List.length_drop, List.length_take]; rfl)) ?_; (with_reducible refine (herbariumref1_Of.calls kj27 ((rd_T27 y832 x9_3).f0) ((rd_T27 y832 x9_3).f1) t840 _ A43.out).mono ?_); rintro e w46 ⟨v841, rfl, ho0, hb⟩; refine ⟨_, rfl, ?_⟩; have n0_ := Aside0.mk (Kd.R_below (by (with_reducible repeat (first | apply Kd.R_alloc | apply Kd.R_drewN | apply Kd.R_drew)); exact HO_5.out) hb); have n1_ := Aside0.mk (Kd.R_below (by (with_reducible repeat (first | apply Kd.R_alloc | apply Kd.R_drewN | apply Kd.R_drew)); exact HO_6.out) hb); have n2_ := Aside0.mk (Kd.R_lower ho0 (below_size (by repeat (first | (with_reducible first | exact HB.out | apply below_alloc | apply pw_below_drewN | apply below_drew1 | refine below_set ?_ GE818.out | refine below_set ?_ GE838.out) | exact HB.out)))); have n3_ := Aside0.mk (blk_below (g := gb818) (o := .cells #[.slice A0_0 l0_0.length c0_0, .slice A0_1 l0_1.length c0_1] 25 (0, 0)) (by (with_reducible repeat (first | refine blk_drewN ?_ _ | refine blk_drew ?_ | refine blk_alloc ?_ _)); exact BK818.out) hb); have n4_ := Aside0.mk (blk_below (g := gb838) (o := .cells #[.string ((rd_T27 y832 x9_3).f0), .int .i64 ((rd_T27 y832 x9_3).f1)] 27 (0, 0)) (by (with_reducible repeat (first | refine blk_drewN ?_ _ | refine blk_drew ?_ | refine blk_alloc ?_ _)); exact BK838.out) hb); have n5_ := Aside0.mk (below_step (by repeat (first | (with_reducible first | exact HB.out | apply below_alloc | apply pw_below_drewN | apply below_drew1 | refine below_set ?_ GE818.out | refine below_set ?_ GE838.out) | exact HB.out)) hb); clear HO_5; clear HO_6; clear BK818; clear BK838; clear HB; have HO_5 := n0_; have HO_6 := n1_; have HO842 := n2_; have BK818 := n3_; have BK838 := n4_; have HB := n5_; clear n0_ n1_ n2_ n3_ n4_ n5_; (try clear hb); (try clear hb2); (try clear hk); (try clear hi); (try clear ho0)))
                   go_meet
                   case rel => exact ⟨_, (t840), H', ⟨by have := HJ8.out; have := HK2.out; have := HK3.out; have := HJ27.out; first | omega | exact Nat.le_refl _⟩, ⟨by (with_reducible repeat (first | apply Kd.R_alloc | apply Kd.R_drewN | apply Kd.R_drew)); exact HO_5.out⟩, ⟨by (with_reducible repeat (first | apply Kd.R_alloc | apply Kd.R_drewN | apply Kd.R_drew)); exact Kd.R_mono HO_6.out (fun _ hk => hk.2)⟩, ⟨by (with_reducible repeat (first | apply Kd.R_alloc | apply Kd.R_drewN | apply Kd.R_drew)); exact HO842.out⟩, ⟨by (with_reducible repeat (first | refine blk_drewN ?_ _ | refine blk_drew ?_ | refine blk_alloc ?_ _)); exact BK818.out⟩, ⟨by (with_reducible repeat (first | refine blk_drewN ?_ _ | refine blk_drew ?_ | refine blk_alloc ?_ _)); exact BK838.out⟩, ⟨by repeat (first | (with_reducible first | exact HB.out | apply below_alloc | apply pw_below_drewN | apply below_drew1 | refine below_set ?_ GE818.out | refine below_set ?_ GE838.out) | exact HB.out)⟩⟩
                  ·
                   replace c42 := Bool.eq_false_iff.mpr c42
                   subst c42
                   have H1 : (herbariumlaw2_kinds.j4 kj27 l1 x5_8 y832 x7_2 (rd l1 x7_2) x9_3 false ([] : List Int) ((rd_T27 y832 x9_3).f0) ((rd_T27 y832 x9_3).f1)) = some true := by rw [if_neg (show ¬ (false = true) by decide)] at H; exact H
                   clear H
                   have H := H1
                   clear H1
                   have H' := Aside0.mk H
                   clear H
                   go_wp2
                   go_meet
                   case rel => exact ⟨_, (([] : List Int)), H', ⟨by have := HJ8.out; have := HK2.out; have := HK3.out; have := HJ27.out; first | omega | exact Nat.le_refl _⟩, ⟨by (with_reducible repeat (first | apply Kd.R_alloc | apply Kd.R_drewN | apply Kd.R_drew)); exact HO_5.out⟩, ⟨by (with_reducible repeat (first | apply Kd.R_alloc | apply Kd.R_drewN | apply Kd.R_drew)); exact Kd.R_mono HO_6.out (fun _ hk => hk.2)⟩, ⟨by first | exact Kd.R_nil _ _ _ _ _ | exact Kd.N_nil _ _ _ _ _ | exact Kd.V_nil _ _ _ _ _ | exact Kd.Q_nil _ _ _ _ _ | exact Kd.S_nil _ _ _ _ _⟩, ⟨by (with_reducible repeat (first | refine blk_drewN ?_ _ | refine blk_drew ?_ | refine blk_alloc ?_ _)); exact BK818.out⟩, ⟨by (with_reducible repeat (first | refine blk_drewN ?_ _ | refine blk_drew ?_ | refine blk_alloc ?_ _)); exact BK838.out⟩, ⟨by repeat (first | (with_reducible first | exact HB.out | apply below_alloc | apply pw_below_drewN | apply below_drew1 | refine below_set ?_ GE818.out | refine below_set ?_ GE838.out) | exact HB.out)⟩⟩
                 case rest => as_aux_lemma =>
                  clear HC36
                  (try clear c1); (try clear c2); (try clear p2); (try clear q2); (try clear c3); (try clear c4); (try clear c5); (try clear c6); (try clear c8); (try clear p8); (try clear q8); (try clear hx8); (try clear c18); (try clear c18b0); (try clear c18b1); (try clear c19); (try clear c19b0); (try clear c19b1); (try clear q20); (try clear c21); (try clear c26); (try clear c26b0); (try clear c27); (try clear c27b0); (try clear c29); (try clear c29b0); (try clear c32); (try clear c33); (try clear c33b0); (try clear c34); (try clear c34b0); (try clear c39); (try clear c42); (try clear c44)
                  (try clear hcz11_0); (try clear hcz11_1); (try clear hcz15_0); (try clear hcz15_1); (try clear hcz24_0); (try clear hcz24_1); (try clear hcz40_0); (try clear hcz40_1); (try clear hcz45_0); (try clear hcz45_1); (try clear hcz6_0); (try clear hcz6_1); (try clear hfz11_0); (try clear hfz11_1); (try clear hfz15_0); (try clear hfz15_1); (try clear hfz24_0); (try clear hfz24_1); (try clear hfz40_0); (try clear hfz40_1); (try clear hfz45_0); (try clear hfz45_1); (try clear hfz6_0); (try clear hfz6_1); (try clear hx836_0); (try clear hx837_0); (try clear hx837_1); (try clear p2); (try clear p8)
                  (try clear p836); (try clear p837); (try clear q2); (try clear q20); (try clear q8); (try clear q836); (try clear q837); (try clear HA); (try clear HJ35); (try clear HO_5); (try clear HO_6); (try clear HO_12); (try clear BK818); (try clear BK838); (try clear HB)
                  obtain ⟨kq, x12_35, HA, HJ35, HO_5, HO_6, HO_12, BK818, BK838, HB⟩ := hcut
                  cases kq with
                  | zero => exact absurd HA.out (by simp [herbariumlaw2_kinds.j4])
                  | succ kj35 =>
                   have H := HA.out
                   clear HA
                   simp only [herbariumlaw2_kinds.j4] at H
                   have H' := Aside0.mk H
                   clear H
                   go_wp2
                   go_loopg [13] kj35 (fun kq v13 w' => ∃ (x13_6 : Int), v13 = .int .i64 x13_6 ∧ Aside0 (herbariumlaw2_kinds.l2 kq l1 x5_8 y832 x7_2 (rd l1 x7_2) x9_3 t839 x12_35 x13_6 ((rd_T27 y832 x9_3).f0) ((rd_T27 y832 x9_3).f1) = some true) ∧ Aside0 (kq ≤ kj35) ∧ Aside0 (Kd.R (Kd.int .i64) 3 w' w.heap.size (fun _ => True) u5 x5_8) ∧ Aside0 (Kd.R k27 27 w' w.heap.size (fun k_ => k_ ≠ gb838) (.slice (some ad837) y832.length co37) y832) ∧ Aside0 (Kd.R (Kd.int .u8) 5 w' w.heap.size (fun _ => True) u12 x12_35) ∧ Aside0 (w'.heap[gb818]? = some (.cells #[(.slice A0_0 l0_0.length c0_0), (.slice A0_1 l0_1.length c0_1)] 25 (0, 0))) ∧ Aside0 (w'.heap[gb838]? = some (.cells #[.string ((rd_T27 y832 x9_3).f0), .int .i64 ((rd_T27 y832 x9_3).f1)] 27 (0, 0))) ∧ Aside0 (Below w.heap.size w w'))
                   case atStart => exact ⟨(0), (by first | rfl | (simp; done) | (simp [*]; done)), H', ⟨Nat.le_refl _⟩, ⟨by (with_reducible repeat (first | apply Kd.R_alloc | apply Kd.R_drewN | apply Kd.R_drew)); exact HO_5.out⟩, ⟨by (with_reducible repeat (first | apply Kd.R_alloc | apply Kd.R_drewN | apply Kd.R_drew)); exact HO_6.out⟩, ⟨by (with_reducible repeat (first | apply Kd.R_alloc | apply Kd.R_drewN | apply Kd.R_drew)); exact HO_12.out⟩, ⟨by (with_reducible repeat (first | refine blk_drewN ?_ _ | refine blk_drew ?_ | refine blk_alloc ?_ _)); exact BK818.out⟩, ⟨by (with_reducible repeat (first | refine blk_drewN ?_ _ | refine blk_drew ?_ | refine blk_alloc ?_ _)); exact BK838.out⟩, ⟨by repeat (first | (with_reducible first | exact HB.out | apply below_alloc | apply pw_below_drewN | apply below_drew1 | refine below_set ?_ GE818.out | refine below_set ?_ GE838.out) | exact HB.out)⟩⟩
                   case round => as_aux_lemma =>
                    clear H'
                    (try clear c1); (try clear c2); (try clear p2); (try clear q2); (try clear c3); (try clear c4); (try clear c5); (try clear c6); (try clear c8); (try clear p8); (try clear q8); (try clear hx8); (try clear c18); (try clear c18b0); (try clear c18b1); (try clear c19); (try clear c19b0); (try clear c19b1); (try clear q20); (try clear c21); (try clear c26); (try clear c26b0); (try clear c27); (try clear c27b0); (try clear c29); (try clear c29b0); (try clear c32); (try clear c33); (try clear c33b0); (try clear c34); (try clear c34b0); (try clear c39); (try clear c42); (try clear c44)
                    (try clear hcz11_0); (try clear hcz11_1); (try clear hcz15_0); (try clear hcz15_1); (try clear hcz24_0); (try clear hcz24_1); (try clear hcz40_0); (try clear hcz40_1); (try clear hcz45_0); (try clear hcz45_1); (try clear hcz6_0); (try clear hcz6_1); (try clear hfz11_0); (try clear hfz11_1); (try clear hfz15_0); (try clear hfz15_1); (try clear hfz24_0); (try clear hfz24_1); (try clear hfz40_0); (try clear hfz40_1); (try clear hfz45_0); (try clear hfz45_1); (try clear hfz6_0); (try clear hfz6_1); (try clear hx836_0); (try clear hx837_0); (try clear hx837_1); (try clear p2); (try clear p8)
                    (try clear p836); (try clear p837); (try clear q2); (try clear q20); (try clear q8); (try clear q836); (try clear q837); (try clear HA); (try clear HK6); (try clear HO_5); (try clear HO_6); (try clear HO_12); (try clear BK818); (try clear BK838); (try clear HB)
                    obtain ⟨x13_6, rfl, HA, HK6, HO_5, HO_6, HO_12, BK818, BK838, HB⟩ := hrel
                    cases gk with
                    | zero => exact absurd HA.out (by simp [herbariumlaw2_kinds.l2])
                    | succ k6 =>
                     have H := HA.out
                     clear HA
                     simp only [herbariumlaw2_kinds.l2] at H
                     by_cases c47 : x13_6 < (x5_8.length : Int)
                     ·
                      rw [if_pos c47] at H
                      have c47b0 : decide (x13_6 < (x5_8.length : Int)) = true := decide_eq_true c47
                      clear c47
                      by_cases c48 : 0 ≤ x13_6
                      ·
                       rw [if_pos c48] at H
                       have c48b0 : decide (0 ≤ x13_6) = true := decide_eq_true c48
                       clear c48
                       replace H := Option.bind_eq_some_iff.mp H
                       obtain ⟨⟨t844, t845, t846⟩, A490, H⟩ := H
                       replace H : ((code_Size.f (rd l1 x7_2) (rd x5_8 x13_6)).bind fun bt849 => ((herbariumref1_Code.f (rd l1 x7_2) (rd x5_8 x13_6)).bind fun t853 => (if t853 = true then ((herbariumref1_List_Write.f k6 ([] : List Int) (rd l1 x7_2) (rd x5_8 x13_6)).bind fun t855 => (if t839 = true then (if (wrap64 (((rd_T27 y832 x9_3).f1) + (t855.length : Int))) ≤ 6000 then ((some (([] : List Int) : List Int)).bind fun y858 => (if y858.length + x12_35.length < 140737488355328 then ((some (y858 ++ x12_35 : List Int)).bind fun y861 => (if y861.length + t855.length < 140737488355328 then ((herbariumref1_List_Pack.f k6 (y861 ++ t855)).bind fun bt867 => (herbariumlaw2_kinds.j6 k6 l1 x5_8 y832 x7_2 (rd l1 x7_2) x9_3 t839 x12_35 x13_6 t846 bt849.1 bt849.2 0 0 (t855.length : Int) ((rd_T27 y832 x9_3).f0) ((rd_T27 y832 x9_3).f1) t844 t845 bt867.1 bt867.2)) else (none))) else (none))) else (herbariumlaw2_kinds.j6 k6 l1 x5_8 y832 x7_2 (rd l1 x7_2) x9_3 t839 x12_35 x13_6 t846 bt849.1 bt849.2 2 0 (t855.length : Int) ((rd_T27 y832 x9_3).f0) ((rd_T27 y832 x9_3).f1) t844 t845 (⟨#[]⟩ : ByteArray) 0)) else (herbariumlaw2_kinds.j6 k6 l1 x5_8 y832 x7_2 (rd l1 x7_2) x9_3 t839 x12_35 x13_6 t846 bt849.1 bt849.2 1 0 (t855.length : Int) ((rd_T27 y832 x9_3).f0) ((rd_T27 y832 x9_3).f1) t844 t845 (⟨#[]⟩ : ByteArray) 0))) else (herbariumlaw2_kinds.j6 k6 l1 x5_8 y832 x7_2 (rd l1 x7_2) x9_3 t839 x12_35 x13_6 t846 bt849.1 bt849.2 1 1 0 ((rd_T27 y832 x9_3).f0) ((rd_T27 y832 x9_3).f1) t844 t845 (⟨#[]⟩ : ByteArray) 0)))) = some true := H
                       have A49 := Aside0.mk A490
                       clear A490
                       replace H := Option.bind_eq_some_iff.mp H
                       obtain ⟨⟨t849, t850⟩, A500, H⟩ := H
                       replace H : ((herbariumref1_Code.f (rd l1 x7_2) (rd x5_8 x13_6)).bind fun t853 => (if t853 = true then ((herbariumref1_List_Write.f k6 ([] : List Int) (rd l1 x7_2) (rd x5_8 x13_6)).bind fun t855 => (if t839 = true then (if (wrap64 (((rd_T27 y832 x9_3).f1) + (t855.length : Int))) ≤ 6000 then ((some (([] : List Int) : List Int)).bind fun y858 => (if y858.length + x12_35.length < 140737488355328 then ((some (y858 ++ x12_35 : List Int)).bind fun y861 => (if y861.length + t855.length < 140737488355328 then ((herbariumref1_List_Pack.f k6 (y861 ++ t855)).bind fun bt867 => (herbariumlaw2_kinds.j6 k6 l1 x5_8 y832 x7_2 (rd l1 x7_2) x9_3 t839 x12_35 x13_6 t846 t849 t850 0 0 (t855.length : Int) ((rd_T27 y832 x9_3).f0) ((rd_T27 y832 x9_3).f1) t844 t845 bt867.1 bt867.2)) else (none))) else (none))) else (herbariumlaw2_kinds.j6 k6 l1 x5_8 y832 x7_2 (rd l1 x7_2) x9_3 t839 x12_35 x13_6 t846 t849 t850 2 0 (t855.length : Int) ((rd_T27 y832 x9_3).f0) ((rd_T27 y832 x9_3).f1) t844 t845 (⟨#[]⟩ : ByteArray) 0)) else (herbariumlaw2_kinds.j6 k6 l1 x5_8 y832 x7_2 (rd l1 x7_2) x9_3 t839 x12_35 x13_6 t846 t849 t850 1 0 (t855.length : Int) ((rd_T27 y832 x9_3).f0) ((rd_T27 y832 x9_3).f1) t844 t845 (⟨#[]⟩ : ByteArray) 0))) else (herbariumlaw2_kinds.j6 k6 l1 x5_8 y832 x7_2 (rd l1 x7_2) x9_3 t839 x12_35 x13_6 t846 t849 t850 1 1 0 ((rd_T27 y832 x9_3).f0) ((rd_T27 y832 x9_3).f1) t844 t845 (⟨#[]⟩ : ByteArray) 0))) = some true := H
                       have A50 := Aside0.mk A500
                       clear A500
                       replace H := Option.bind_eq_some_iff.mp H
                       obtain ⟨t853, A510, H⟩ := H
                       replace H : (if t853 = true then ((herbariumref1_List_Write.f k6 ([] : List Int) (rd l1 x7_2) (rd x5_8 x13_6)).bind fun t855 => (if t839 = true then (if (wrap64 (((rd_T27 y832 x9_3).f1) + (t855.length : Int))) ≤ 6000 then ((some (([] : List Int) : List Int)).bind fun y858 => (if y858.length + x12_35.length < 140737488355328 then ((some (y858 ++ x12_35 : List Int)).bind fun y861 => (if y861.length + t855.length < 140737488355328 then ((herbariumref1_List_Pack.f k6 (y861 ++ t855)).bind fun bt867 => (herbariumlaw2_kinds.j6 k6 l1 x5_8 y832 x7_2 (rd l1 x7_2) x9_3 t839 x12_35 x13_6 t846 t849 t850 0 0 (t855.length : Int) ((rd_T27 y832 x9_3).f0) ((rd_T27 y832 x9_3).f1) t844 t845 bt867.1 bt867.2)) else (none))) else (none))) else (herbariumlaw2_kinds.j6 k6 l1 x5_8 y832 x7_2 (rd l1 x7_2) x9_3 t839 x12_35 x13_6 t846 t849 t850 2 0 (t855.length : Int) ((rd_T27 y832 x9_3).f0) ((rd_T27 y832 x9_3).f1) t844 t845 (⟨#[]⟩ : ByteArray) 0)) else (herbariumlaw2_kinds.j6 k6 l1 x5_8 y832 x7_2 (rd l1 x7_2) x9_3 t839 x12_35 x13_6 t846 t849 t850 1 0 (t855.length : Int) ((rd_T27 y832 x9_3).f0) ((rd_T27 y832 x9_3).f1) t844 t845 (⟨#[]⟩ : ByteArray) 0))) else (herbariumlaw2_kinds.j6 k6 l1 x5_8 y832 x7_2 (rd l1 x7_2) x9_3 t839 x12_35 x13_6 t846 t849 t850 1 1 0 ((rd_T27 y832 x9_3).f0) ((rd_T27 y832 x9_3).f1) t844 t845 (⟨#[]⟩ : ByteArray) 0)) = some true := H
                       have A51 := Aside0.mk A510
                       clear A510
                       have HC52 := Aside0.mk H
                       clear H
                       obtain ⟨Ao53, co53, eo53⟩ := Kd.R_slice HO_5.out
                       subst eo53
                       try go_wp2
                       have n0_ := Aside0.mk (Kd.R_drew HO_5.out)
                       have n1_ := Aside0.mk (Kd.R_drew HO_6.out)
                       have n2_ := Aside0.mk (Kd.R_drew HO_12.out)
                       have n3_ := Aside0.mk (blk_drew BK818.out)
                       have n4_ := Aside0.mk (blk_drew BK838.out)
                       have n5_ := Aside0.mk (below_drew1 HB.out)
                       clear HO_5
                       clear HO_6
                       clear HO_12
                       clear BK818
                       clear BK838
                       clear HB
                       have HO_5 := n0_
                       have HO_6 := n1_
                       have HO_12 := n2_
                       have BK818 := n3_
                       have BK838 := n4_
                       have HB := n5_
                       clear n0_ n1_ n2_ n3_ n4_ n5_
                       have p843 : 0 ≤ (x13_6 : Int) := of_decide_eq_true (by first | (with_reducible assumption) | assumption)
                       have q843 : x13_6 < (x5_8.length : Int) := of_decide_eq_true (by first | (with_reducible assumption) | assumption)
                       obtain ⟨ad843, e843, hx843_0⟩ := Kd.at_int (Kd.R_reads' HO_5.out).2.2 x13_6 p843 q843
                       cases e843
                       replace p843 := eq_true p843
                       replace q843 := eq_true q843
                       refine start_ (n := 13) (S := fun w' => w'.cell? ⟨gb838, 0, none⟩ = some (.string ((rd_T27 y832 x9_3).f0)) ∧ w'.cell? ⟨gb838, 1, none⟩ = some (.int .i64 ((rd_T27 y832 x9_3).f1)) ∧ w'.cell? (ad843.add (x13_6).toNat) = some (.int .i64 (rd x5_8 x13_6))) (ds := []) #[false, false, false, false, false, false, false, false, false, false, false, false, false] (by kernel_rfl) rfl rfl ⟨(blk_cell BK838.out 0).trans rfl, (blk_cell BK838.out 1).trans rfl, hx843_0⟩ (fun hHeld => ?_); refine with_tabW herbariumlaw2_kinds.tab22 herbariumlaw2_kinds.bits22 (fun HT_ HW_ => ?_)
                       generalize wr.drew = w54 at HO_5 HO_6 HO_12 BK818 BK838 HB hx843_0 hHeld ⊢
                       refine pure_ (i := 1) (N := some 85) (v := ?_) (a' := ?_) #[false, true, false, false, false, false, false, false, false, false, false, false, false] rfl rfl (any_of HT_.out (by kernel_rfl)) (fun _ _ _ h => h) (Or.inl ⟨by rfl, ?_⟩) ?_ ?_
                       rotate_left
                       ·
                        intro w'
                        go_simp
                        with_reducible rfl
                       rotate_left
                       ·
                        simp only [Act.put, List.setIfInBounds_toArray, List.set_cons_zero, List.set_cons_succ, i64_w, i32_w]
                        rfl
                       refine pure_ (i := 2) (N := some 86) (v := ?_) (a' := ?_) #[false, true, true, false, false, false, false, false, false, false, false, false, false] rfl rfl (any_of HT_.out (by kernel_rfl)) (fun _ _ _ h => h) (Or.inl ⟨by rfl, ?_⟩) ?_ ?_
                       rotate_left
                       ·
                        intro w'
                        go_simp
                        with_reducible rfl
                       rotate_left
                       ·
                        simp only [Act.put, List.setIfInBounds_toArray, List.set_cons_zero, List.set_cons_succ, i64_w, i32_w]
                        rfl
                       refine pure_ (i := 3) (N := some 87) (v := ?_) (a' := ?_) #[false, true, true, true, false, false, false, false, false, false, false, false, false] rfl rfl (any_of HT_.out (by kernel_rfl)) (fun _ _ _ h => h) (Or.inl ⟨by rfl, ?_⟩) ?_ ?_
                       rotate_left
                       ·
                        intro w'
                        go_simp
                        with_reducible rfl
                       rotate_left
                       ·
                        simp only [Act.put, List.setIfInBounds_toArray, List.set_cons_zero, List.set_cons_succ, i64_w, i32_w]
                        rfl
                       refine pure_ (i := 4) (N := some 88) (v := ?_) (a' := ?_) #[false, true, true, true, true, false, false, false, false, false, false, false, false] rfl rfl (any_of HT_.out (by kernel_rfl)) (fun _ _ _ h => h) (Or.inl ⟨by rfl, ?_⟩) ?_ ?_
                       rotate_left
                       ·
                        intro w'
                        go_simp
                        with_reducible rfl
                       rotate_left
                       ·
                        simp only [Act.put, List.setIfInBounds_toArray, List.set_cons_zero, List.set_cons_succ, i64_w, i32_w]
                        rfl
                       refine take_ (i := 0) (N := some 84) (v := ?_) (a' := ?_) #[true, true, true, true, true, false, false, false, false, false, false, false, false] rfl rfl (take_ofW HT_.out HW_.out (by kernel_rfl)) (fun _ _ _ h => h) (Or.inl ⟨by rfl, ?_⟩) hHeld ?_ ?_
                       rotate_left
                       ·
                        rintro w' ⟨s0, s1, s2⟩
                        go_simp
                        with_reducible rfl
                       rotate_left
                       ·
                        simp only [Act.put, List.setIfInBounds_toArray, List.set_cons_zero, List.set_cons_succ, i64_w, i32_w]
                        rfl
                       refine take_ (i := 5) (N := some 89) (v := ?_) (a' := ?_) #[true, true, true, true, true, true, false, false, false, false, false, false, false] rfl rfl (take_ofW HT_.out HW_.out (by kernel_rfl)) (fun _ _ _ h => h) (Or.inl ⟨by rfl, ?_⟩) hHeld ?_ ?_
                       rotate_left
                       ·
                        rintro w' ⟨s0, s1, s2⟩
                        go_simp
                        with_reducible rfl
                       rotate_left
                       ·
                        simp only [Act.put, List.setIfInBounds_toArray, List.set_cons_zero, List.set_cons_succ, i64_w, i32_w]
                        rfl
                       refine join_ (σ := Nat) 2 #[true, true, true, true, true, true, true, true, true, true, true, false, false] (fun s_ => [(90, .tuple #[.agg #[.string t844, .int .i64 t845], .int .i64 t846]), (14, .pointer (some ⟨s_, 0, none⟩)), (83, .tuple #[.agg #[.string t844, .int .i64 t845], .int .i64 t846]), (91, .agg #[.string t844, .int .i64 t845]), (92, .int .i64 t846)]) (fun s_ w' => (w'.cell? ⟨gb838, 0, none⟩ = some (.string ((rd_T27 y832 x9_3).f0)) ∧ w'.cell? ⟨gb838, 1, none⟩ = some (.int .i64 ((rd_T27 y832 x9_3).f1)) ∧ w'.cell? (ad843.add (x13_6).toNat) = some (.int .i64 (rd x5_8 x13_6))) ∧ (Kd.R (Kd.int .u8) 5 w' w.heap.size (fun _ => True) u12 x12_35) ∧ (Kd.R (Kd.int .i64) 3 w' w.heap.size (fun _ => True) (.slice (some ad843) x5_8.length co53) x5_8) ∧ (Kd.R k27 27 w' w.heap.size (fun k_ => k_ ≠ gb838 ∧ k_ ≠ s_) (.slice (some ad837) y832.length co37) y832) ∧ (w'.heap[gb818]? = some (.cells #[.slice A0_0 l0_0.length c0_0, .slice A0_1 l0_1.length c0_1] 25 (0, 0))) ∧ (w'.heap[gb838]? = some (.cells #[.string ((rd_T27 y832 x9_3).f0), .int .i64 ((rd_T27 y832 x9_3).f1)] 27 (0, 0))) ∧ (w'.heap[s_]? = some (.cells #[.string (⟨#[]⟩ : ByteArray), .int .i64 0] 27 (0, 0))) ∧ (w.heap.size ≤ s_) ∧ (w.heap.size ≤ s_) ∧ (gb818 ≠ s_) ∧ (s_ ≠ gb818) ∧ (gb838 ≠ s_) ∧ (s_ ≠ gb838) ∧ (Below w.heap.size w w')) ?_ ?_
                       rotate_left
                       ·
                        intro hCont
                        refine two_ (i := 6) (j := 10) (Ni := some 90) (Nj := some 14) #[true, true, true, true, true, true, true, false, false, false, false, false, false] #[true, true, true, true, true, true, false, false, false, false, true, false, false] rfl rfl rfl rfl (two_of HT_.out (by kernel_rfl)) (by decide) (by decide) (fun K hK => ?_) (fun K hK => ?_)
                        ·
                         skip
                         refine goes_ Try.func58 (by kernel_rfl) rfl #[.agg #[.string ((rd_T27 y832 x9_3).f0), .int .i64 ((rd_T27 y832 x9_3).f1)], .int .i64 (rd l1 x7_2), .int .i64 (rd x5_8 x13_6)] (by rfl) rfl rfl (by (try simp only [List.map_toArray, List.map_cons, List.map_nil]); first | done | rfl | (simp only [List.length_drop, List.length_take]; rfl)) ?_
                         with_reducible refine (code_Put.calls ((rd_T27 y832 x9_3).f0) ((rd_T27 y832 x9_3).f1) (rd l1 x7_2) (rd x5_8 x13_6) t844 t845 t846 _ A49.out).mono ?_
                         rintro e w55 ⟨rfl, hb⟩
                         have HS2_ := (hb.cell (World.block_lt_of_cell? _ _ (hHeld.2.2))).trans (hHeld.2.2)
                         refine ⟨_, rfl, ?_⟩
                         have n0_ := Aside0.mk (Kd.R_below (by (with_reducible repeat (first | apply Kd.R_alloc | apply Kd.R_drewN | apply Kd.R_drew)); exact HO_5.out) hb)
                         have n1_ := Aside0.mk (Kd.R_below (by (with_reducible repeat (first | apply Kd.R_alloc | apply Kd.R_drewN | apply Kd.R_drew)); exact HO_6.out) hb)
                         have n2_ := Aside0.mk (Kd.R_below (by (with_reducible repeat (first | apply Kd.R_alloc | apply Kd.R_drewN | apply Kd.R_drew)); exact HO_12.out) hb)
                         have n3_ := Aside0.mk (blk_below (g := gb818) (o := .cells #[.slice A0_0 l0_0.length c0_0, .slice A0_1 l0_1.length c0_1] 25 (0, 0)) (by (with_reducible repeat (first | refine blk_drewN ?_ _ | refine blk_drew ?_ | refine blk_alloc ?_ _)); exact BK818.out) hb)
                         have n4_ := Aside0.mk (blk_below (g := gb838) (o := .cells #[.string ((rd_T27 y832 x9_3).f0), .int .i64 ((rd_T27 y832 x9_3).f1)] 27 (0, 0)) (by (with_reducible repeat (first | refine blk_drewN ?_ _ | refine blk_drew ?_ | refine blk_alloc ?_ _)); exact BK838.out) hb)
                         have n5_ := Aside0.mk (below_step (by repeat (first | (with_reducible first | exact HB.out | apply below_alloc | apply pw_below_drewN | apply below_drew1 | refine below_set ?_ GE818.out | refine below_set ?_ GE838.out) | exact HB.out)) hb)
                         clear HO_5
                         clear HO_6
                         clear HO_12
                         clear BK818
                         clear BK838
                         clear HB
                         have HO_5 := n0_
                         have HO_6 := n1_
                         have HO_12 := n2_
                         have BK818 := n3_
                         have BK838 := n4_
                         have HB := n5_
                         clear n0_ n1_ n2_ n3_ n4_ n5_
                         (try clear hb)
                         (try clear hb2)
                         (try clear hk)
                         (try clear hi)
                         refine hK.out _ _ ⟨(blk_cell BK838.out 0).trans rfl, (blk_cell BK838.out 1).trans rfl, HS2_⟩ (fun hHeld => ?_)
                         clear hK K
                         refine norm_ (a' := ?_) ?_ ?_
                         rotate_left
                         ·
                          show Act.put _ (some 90) _ = _
                          simp only [Act.put, List.setIfInBounds_toArray, List.set_cons_zero, List.set_cons_succ, i64_w, i32_w]
                          rfl
                         refine pure_ (i := 7) (N := some 83) (v := ?_) (a' := ?_) #[true, true, true, true, true, true, true, true, false, false, false, false, false] rfl rfl (any_of HT_.out (by kernel_rfl)) (fun _ _ _ h => h) (Or.inl ⟨by rfl, ?_⟩) ?_ ?_
                         rotate_left
                         ·
                          intro w'
                          go_simp
                          with_reducible rfl
                         rotate_left
                         ·
                          simp only [Act.put, List.setIfInBounds_toArray, List.set_cons_zero, List.set_cons_succ, i64_w, i32_w]
                          rfl
                         refine pure_ (i := 8) (N := some 91) (v := ?_) (a' := ?_) #[true, true, true, true, true, true, true, true, true, false, false, false, false] rfl rfl (any_of HT_.out (by kernel_rfl)) (fun _ _ _ h => h) (Or.inl ⟨by rfl, ?_⟩) ?_ ?_
                         rotate_left
                         ·
                          intro w'
                          go_simp
                          with_reducible rfl
                         rotate_left
                         ·
                          simp only [Act.put, List.setIfInBounds_toArray, List.set_cons_zero, List.set_cons_succ, i64_w, i32_w]
                          rfl
                         refine pure_ (i := 9) (N := some 92) (v := ?_) (a' := ?_) #[true, true, true, true, true, true, true, true, true, true, false, false, false] rfl rfl (any_of HT_.out (by kernel_rfl)) (fun _ _ _ h => h) (Or.inl ⟨by rfl, ?_⟩) ?_ ?_
                         rotate_left
                         ·
                          intro w'
                          go_simp
                          with_reducible rfl
                         rotate_left
                         ·
                          simp only [Act.put, List.setIfInBounds_toArray, List.set_cons_zero, List.set_cons_succ, i64_w, i32_w]
                          rfl
                         refine one_ (i := 10) (N := some 14) #[true, true, true, true, true, true, true, true, true, true, true, false, false] rfl rfl (one_of HT_.out (by kernel_rfl)) (by decide) (fun K hK => ?_)
                         refine box_step ?hg (N := 14) ?hd (cs := #[.string (⟨#[]⟩ : ByteArray), .int .i64 0]) (t := 27) ?hr ?_; (case hd => rfl); (case hg => rfl); (case hr => first | (go_simp; done) | (go_simp; rfl))
                         intro gb847 hg w56 hbox hb
                         have HS2_ := (hb.cell (World.block_lt_of_cell? _ _ (hHeld.2.2))).trans (hHeld.2.2)
                         have n0_ := Aside0.mk (Kd.R_below (by (with_reducible repeat (first | apply Kd.R_alloc | apply Kd.R_drewN | apply Kd.R_drew)); exact HO_5.out) hb)
                         have n1_ := Aside0.mk (Kd.R_below (Kd.R_elderB (by (with_reducible repeat (first | apply Kd.R_alloc | apply Kd.R_drewN | apply Kd.R_drew)); exact HO_6.out) gb847 (Nat.le_of_eq hg.symm)) hb)
                         have n2_ := Aside0.mk (Kd.R_below (by (with_reducible repeat (first | apply Kd.R_alloc | apply Kd.R_drewN | apply Kd.R_drew)); exact HO_12.out) hb)
                         have n3_ := Aside0.mk (blk_below (g := gb818) (o := .cells #[.slice A0_0 l0_0.length c0_0, .slice A0_1 l0_1.length c0_1] 25 (0, 0)) (by (with_reducible repeat (first | refine blk_drewN ?_ _ | refine blk_drew ?_ | refine blk_alloc ?_ _)); exact BK818.out) hb)
                         have n4_ := Aside0.mk (blk_below (g := gb838) (o := .cells #[.string ((rd_T27 y832 x9_3).f0), .int .i64 ((rd_T27 y832 x9_3).f1)] 27 (0, 0)) (by (with_reducible repeat (first | refine blk_drewN ?_ _ | refine blk_drew ?_ | refine blk_alloc ?_ _)); exact BK838.out) hb)
                         have n5_ := Aside0.mk (below_step (by repeat (first | (with_reducible first | exact HB.out | apply below_alloc | apply pw_below_drewN | apply below_drew1 | refine below_set ?_ GE818.out | refine below_set ?_ GE838.out) | exact HB.out)) hb)
                         have n6_ := Aside0.mk (hbox)
                         have n7_ := Aside0.mk ((by rw [hg]; exact (below_size (by repeat (first | (with_reducible first | exact HB.out | apply below_alloc | apply pw_below_drewN | apply below_drew1 | refine below_set ?_ GE818.out | refine below_set ?_ GE838.out) | exact HB.out))) : w.heap.size ≤ gb847))
                         have n8_ := Aside0.mk ((by rw [hg]; exact (below_size (by repeat (first | (with_reducible first | exact HB.out | apply below_alloc | apply pw_below_drewN | apply below_drew1 | refine below_set ?_ GE818.out | refine below_set ?_ GE838.out) | exact HB.out))) : w.heap.size ≤ gb847))
                         have n9_ := Aside0.mk ((by rw [hg]; exact Nat.ne_of_lt (blk_lt (g := gb818) (o := .cells #[.slice A0_0 l0_0.length c0_0, .slice A0_1 l0_1.length c0_1] 25 (0, 0)) (by (with_reducible repeat (first | refine blk_drewN ?_ _ | refine blk_drew ?_ | refine blk_alloc ?_ _)); exact BK818.out)) : gb818 ≠ gb847))
                         have n10_ := Aside0.mk ((by rw [hg]; exact Nat.ne_of_gt (blk_lt (g := gb818) (o := .cells #[.slice A0_0 l0_0.length c0_0, .slice A0_1 l0_1.length c0_1] 25 (0, 0)) (by (with_reducible repeat (first | refine blk_drewN ?_ _ | refine blk_drew ?_ | refine blk_alloc ?_ _)); exact BK818.out)) : gb847 ≠ gb818))
                         have n11_ := Aside0.mk ((by rw [hg]; exact Nat.ne_of_lt (blk_lt (g := gb838) (o := .cells #[.string ((rd_T27 y832 x9_3).f0), .int .i64 ((rd_T27 y832 x9_3).f1)] 27 (0, 0)) (by (with_reducible repeat (first | refine blk_drewN ?_ _ | refine blk_drew ?_ | refine blk_alloc ?_ _)); exact BK838.out)) : gb838 ≠ gb847))
                         have n12_ := Aside0.mk ((by rw [hg]; exact Nat.ne_of_gt (blk_lt (g := gb838) (o := .cells #[.string ((rd_T27 y832 x9_3).f0), .int .i64 ((rd_T27 y832 x9_3).f1)] 27 (0, 0)) (by (with_reducible repeat (first | refine blk_drewN ?_ _ | refine blk_drew ?_ | refine blk_alloc ?_ _)); exact BK838.out)) : gb847 ≠ gb838))
                         clear HO_5
                         clear HO_6
                         clear HO_12
                         clear BK818
                         clear BK838
                         clear HB
                         have HO_5 := n0_
                         have HO_6 := n1_
                         have HO_12 := n2_
                         have BK818 := n3_
                         have BK838 := n4_
                         have HB := n5_
                         have BK847 := n6_
                         have GW847 := n7_
                         have GE847 := n8_
                         have NB818_847 := n9_
                         have NB847_818 := n10_
                         have NB838_847 := n11_
                         have NB847_838 := n12_
                         clear n0_ n1_ n2_ n3_ n4_ n5_ n6_ n7_ n8_ n9_ n10_ n11_ n12_
                         clear hb hbox hg
                         refine hK.out _ _ ⟨(blk_cell BK838.out 0).trans rfl, (blk_cell BK838.out 1).trans rfl, HS2_⟩ (fun hHeld => ?_)
                         clear hK K
                         refine norm_ (a' := ?_) ?_ ?_
                         rotate_left
                         ·
                          show Act.put _ (some 14) _ = _
                          simp only [Act.put, List.setIfInBounds_toArray, List.set_cons_zero, List.set_cons_succ, i64_w, i32_w]
                          rfl
                         exact norm_ (by simp only [putAll, Act.put, List.setIfInBounds_toArray, List.set_cons_zero, List.set_cons_succ]) (hCont (gb847) _ ⟨hHeld, (by (with_reducible repeat (first | apply Kd.R_alloc | apply Kd.R_drewN | apply Kd.R_drew)); exact HO_12.out), (by (with_reducible repeat (first | apply Kd.R_alloc | apply Kd.R_drewN | apply Kd.R_drew)); exact HO_5.out), (by (with_reducible repeat (first | apply Kd.R_alloc | apply Kd.R_drewN | apply Kd.R_drew)); exact HO_6.out), (by (with_reducible repeat (first | refine blk_drewN ?_ _ | refine blk_drew ?_ | refine blk_alloc ?_ _)); exact BK818.out), (by (with_reducible repeat (first | refine blk_drewN ?_ _ | refine blk_drew ?_ | refine blk_alloc ?_ _)); exact BK838.out), (by (with_reducible repeat (first | refine blk_drewN ?_ _ | refine blk_drew ?_ | refine blk_alloc ?_ _)); exact BK847.out), GW847.out, GE847.out, NB818_847.out, NB847_818.out, NB838_847.out, NB847_838.out, (by repeat (first | (with_reducible first | exact HB.out | apply below_alloc | apply pw_below_drewN | apply below_drew1 | refine below_set ?_ GE818.out | refine below_set ?_ GE838.out | refine below_set ?_ GE847.out) | exact HB.out))⟩)
                        ·
                         skip
                         refine box_step ?hg (N := 14) ?hd (cs := #[.string (⟨#[]⟩ : ByteArray), .int .i64 0]) (t := 27) ?hr ?_; (case hd => rfl); (case hg => rfl); (case hr => first | (go_simp; done) | (go_simp; rfl))
                         intro gb847 hg w55 hbox hb
                         have HS2_ := (hb.cell (World.block_lt_of_cell? _ _ (hHeld.2.2))).trans (hHeld.2.2)
                         have n0_ := Aside0.mk (Kd.R_below (by (with_reducible repeat (first | apply Kd.R_alloc | apply Kd.R_drewN | apply Kd.R_drew)); exact HO_5.out) hb)
                         have n1_ := Aside0.mk (Kd.R_below (Kd.R_elderB (by (with_reducible repeat (first | apply Kd.R_alloc | apply Kd.R_drewN | apply Kd.R_drew)); exact HO_6.out) gb847 (Nat.le_of_eq hg.symm)) hb)
                         have n2_ := Aside0.mk (Kd.R_below (by (with_reducible repeat (first | apply Kd.R_alloc | apply Kd.R_drewN | apply Kd.R_drew)); exact HO_12.out) hb)
                         have n3_ := Aside0.mk (blk_below (g := gb818) (o := .cells #[.slice A0_0 l0_0.length c0_0, .slice A0_1 l0_1.length c0_1] 25 (0, 0)) (by (with_reducible repeat (first | refine blk_drewN ?_ _ | refine blk_drew ?_ | refine blk_alloc ?_ _)); exact BK818.out) hb)
                         have n4_ := Aside0.mk (blk_below (g := gb838) (o := .cells #[.string ((rd_T27 y832 x9_3).f0), .int .i64 ((rd_T27 y832 x9_3).f1)] 27 (0, 0)) (by (with_reducible repeat (first | refine blk_drewN ?_ _ | refine blk_drew ?_ | refine blk_alloc ?_ _)); exact BK838.out) hb)
                         have n5_ := Aside0.mk (below_step (by repeat (first | (with_reducible first | exact HB.out | apply below_alloc | apply pw_below_drewN | apply below_drew1 | refine below_set ?_ GE818.out | refine below_set ?_ GE838.out) | exact HB.out)) hb)
                         have n6_ := Aside0.mk (hbox)
                         have n7_ := Aside0.mk ((by rw [hg]; exact (below_size (by repeat (first | (with_reducible first | exact HB.out | apply below_alloc | apply pw_below_drewN | apply below_drew1 | refine below_set ?_ GE818.out | refine below_set ?_ GE838.out) | exact HB.out))) : w.heap.size ≤ gb847))
                         have n8_ := Aside0.mk ((by rw [hg]; exact (below_size (by repeat (first | (with_reducible first | exact HB.out | apply below_alloc | apply pw_below_drewN | apply below_drew1 | refine below_set ?_ GE818.out | refine below_set ?_ GE838.out) | exact HB.out))) : w.heap.size ≤ gb847))
                         have n9_ := Aside0.mk ((by rw [hg]; exact Nat.ne_of_lt (blk_lt (g := gb818) (o := .cells #[.slice A0_0 l0_0.length c0_0, .slice A0_1 l0_1.length c0_1] 25 (0, 0)) (by (with_reducible repeat (first | refine blk_drewN ?_ _ | refine blk_drew ?_ | refine blk_alloc ?_ _)); exact BK818.out)) : gb818 ≠ gb847))
                         have n10_ := Aside0.mk ((by rw [hg]; exact Nat.ne_of_gt (blk_lt (g := gb818) (o := .cells #[.slice A0_0 l0_0.length c0_0, .slice A0_1 l0_1.length c0_1] 25 (0, 0)) (by (with_reducible repeat (first | refine blk_drewN ?_ _ | refine blk_drew ?_ | refine blk_alloc ?_ _)); exact BK818.out)) : gb847 ≠ gb818))
                         have n11_ := Aside0.mk ((by rw [hg]; exact Nat.ne_of_lt (blk_lt (g := gb838) (o := .cells #[.string ((rd_T27 y832 x9_3).f0), .int .i64 ((rd_T27 y832 x9_3).f1)] 27 (0, 0)) (by (with_reducible repeat (first | refine blk_drewN ?_ _ | refine blk_drew ?_ | refine blk_alloc ?_ _)); exact BK838.out)) : gb838 ≠ gb847))
                         have n12_ := Aside0.mk ((by rw [hg]; exact Nat.ne_of_gt (blk_lt (g := gb838) (o := .cells #[.string ((rd_T27 y832 x9_3).f0), .int .i64 ((rd_T27 y832 x9_3).f1)] 27 (0, 0)) (by (with_reducible repeat (first | refine blk_drewN ?_ _ | refine blk_drew ?_ | refine blk_alloc ?_ _)); exact BK838.out)) : gb847 ≠ gb838))
                         clear HO_5
                         clear HO_6
                         clear HO_12
                         clear BK818
                         clear BK838
                         clear HB
                         have HO_5 := n0_
                         have HO_6 := n1_
                         have HO_12 := n2_
                         have BK818 := n3_
                         have BK838 := n4_
                         have HB := n5_
                         have BK847 := n6_
                         have GW847 := n7_
                         have GE847 := n8_
                         have NB818_847 := n9_
                         have NB847_818 := n10_
                         have NB838_847 := n11_
                         have NB847_838 := n12_
                         clear n0_ n1_ n2_ n3_ n4_ n5_ n6_ n7_ n8_ n9_ n10_ n11_ n12_
                         clear hb hbox hg
                         refine hK.out _ _ ⟨(blk_cell BK838.out 0).trans rfl, (blk_cell BK838.out 1).trans rfl, HS2_⟩ (fun hHeld => ?_)
                         clear hK K
                         refine norm_ (a' := ?_) ?_ ?_
                         rotate_left
                         ·
                          show Act.put _ (some 14) _ = _
                          simp only [Act.put, List.setIfInBounds_toArray, List.set_cons_zero, List.set_cons_succ, i64_w, i32_w]
                          rfl
                         refine one_ (i := 6) (N := some 90) #[true, true, true, true, true, true, true, false, false, false, true, false, false] rfl rfl (one_of HT_.out (by kernel_rfl)) (by decide) (fun K hK => ?_)
                         refine goes_ Try.func58 (by kernel_rfl) rfl #[.agg #[.string ((rd_T27 y832 x9_3).f0), .int .i64 ((rd_T27 y832 x9_3).f1)], .int .i64 (rd l1 x7_2), .int .i64 (rd x5_8 x13_6)] (by rfl) rfl rfl (by (try simp only [List.map_toArray, List.map_cons, List.map_nil]); first | done | rfl | (simp only [List.length_drop, List.length_take]; rfl)) ?_
                         with_reducible refine (code_Put.calls ((rd_T27 y832 x9_3).f0) ((rd_T27 y832 x9_3).f1) (rd l1 x7_2) (rd x5_8 x13_6) t844 t845 t846 _ A49.out).mono ?_
                         rintro e w56 ⟨rfl, hb⟩
                         have HS2_ := (hb.cell (World.block_lt_of_cell? _ _ (hHeld.2.2))).trans (hHeld.2.2)
                         refine ⟨_, rfl, ?_⟩
                         have n0_ := Aside0.mk (Kd.R_below (by (with_reducible repeat (first | apply Kd.R_alloc | apply Kd.R_drewN | apply Kd.R_drew)); exact HO_5.out) hb)
                         have n1_ := Aside0.mk (Kd.R_below (by (with_reducible repeat (first | apply Kd.R_alloc | apply Kd.R_drewN | apply Kd.R_drew)); exact HO_6.out) hb)
                         have n2_ := Aside0.mk (Kd.R_below (by (with_reducible repeat (first | apply Kd.R_alloc | apply Kd.R_drewN | apply Kd.R_drew)); exact HO_12.out) hb)
                         have n3_ := Aside0.mk (blk_below (g := gb818) (o := .cells #[.slice A0_0 l0_0.length c0_0, .slice A0_1 l0_1.length c0_1] 25 (0, 0)) (by (with_reducible repeat (first | refine blk_drewN ?_ _ | refine blk_drew ?_ | refine blk_alloc ?_ _)); exact BK818.out) hb)
                         have n4_ := Aside0.mk (blk_below (g := gb838) (o := .cells #[.string ((rd_T27 y832 x9_3).f0), .int .i64 ((rd_T27 y832 x9_3).f1)] 27 (0, 0)) (by (with_reducible repeat (first | refine blk_drewN ?_ _ | refine blk_drew ?_ | refine blk_alloc ?_ _)); exact BK838.out) hb)
                         have n5_ := Aside0.mk (blk_below (g := gb847) (o := .cells #[.string (⟨#[]⟩ : ByteArray), .int .i64 0] 27 (0, 0)) (by (with_reducible repeat (first | refine blk_drewN ?_ _ | refine blk_drew ?_ | refine blk_alloc ?_ _)); exact BK847.out) hb)
                         have n6_ := Aside0.mk (below_step (by repeat (first | (with_reducible first | exact HB.out | apply below_alloc | apply pw_below_drewN | apply below_drew1 | refine below_set ?_ GE818.out | refine below_set ?_ GE838.out | refine below_set ?_ GE847.out) | exact HB.out)) hb)
                         clear HO_5
                         clear HO_6
                         clear HO_12
                         clear BK818
                         clear BK838
                         clear BK847
                         clear HB
                         have HO_5 := n0_
                         have HO_6 := n1_
                         have HO_12 := n2_
                         have BK818 := n3_
                         have BK838 := n4_
                         have BK847 := n5_
                         have HB := n6_
                         clear n0_ n1_ n2_ n3_ n4_ n5_ n6_
                         (try clear hb)
                         (try clear hb2)
                         (try clear hk)
                         (try clear hi)
                         refine hK.out _ _ ⟨(blk_cell BK838.out 0).trans rfl, (blk_cell BK838.out 1).trans rfl, HS2_⟩ (fun hHeld => ?_)
                         clear hK K
                         refine norm_ (a' := ?_) ?_ ?_
                         rotate_left
                         ·
                          show Act.put _ (some 90) _ = _
                          simp only [Act.put, List.setIfInBounds_toArray, List.set_cons_zero, List.set_cons_succ, i64_w, i32_w]
                          rfl
                         refine pure_ (i := 7) (N := some 83) (v := ?_) (a' := ?_) #[true, true, true, true, true, true, true, true, false, false, true, false, false] rfl rfl (any_of HT_.out (by kernel_rfl)) (fun _ _ _ h => h) (Or.inl ⟨by rfl, ?_⟩) ?_ ?_
                         rotate_left
                         ·
                          intro w'
                          go_simp
                          with_reducible rfl
                         rotate_left
                         ·
                          simp only [Act.put, List.setIfInBounds_toArray, List.set_cons_zero, List.set_cons_succ, i64_w, i32_w]
                          rfl
                         refine pure_ (i := 8) (N := some 91) (v := ?_) (a' := ?_) #[true, true, true, true, true, true, true, true, true, false, true, false, false] rfl rfl (any_of HT_.out (by kernel_rfl)) (fun _ _ _ h => h) (Or.inl ⟨by rfl, ?_⟩) ?_ ?_
                         rotate_left
                         ·
                          intro w'
                          go_simp
                          with_reducible rfl
                         rotate_left
                         ·
                          simp only [Act.put, List.setIfInBounds_toArray, List.set_cons_zero, List.set_cons_succ, i64_w, i32_w]
                          rfl
                         refine pure_ (i := 9) (N := some 92) (v := ?_) (a' := ?_) #[true, true, true, true, true, true, true, true, true, true, true, false, false] rfl rfl (any_of HT_.out (by kernel_rfl)) (fun _ _ _ h => h) (Or.inl ⟨by rfl, ?_⟩) ?_ ?_
                         rotate_left
                         ·
                          intro w'
                          go_simp
                          with_reducible rfl
                         rotate_left
                         ·
                          simp only [Act.put, List.setIfInBounds_toArray, List.set_cons_zero, List.set_cons_succ, i64_w, i32_w]
                          rfl
                         exact norm_ (by simp only [putAll, Act.put, List.setIfInBounds_toArray, List.set_cons_zero, List.set_cons_succ]) (hCont (gb847) _ ⟨hHeld, (by (with_reducible repeat (first | apply Kd.R_alloc | apply Kd.R_drewN | apply Kd.R_drew)); exact HO_12.out), (by (with_reducible repeat (first | apply Kd.R_alloc | apply Kd.R_drewN | apply Kd.R_drew)); exact HO_5.out), (by (with_reducible repeat (first | apply Kd.R_alloc | apply Kd.R_drewN | apply Kd.R_drew)); exact HO_6.out), (by (with_reducible repeat (first | refine blk_drewN ?_ _ | refine blk_drew ?_ | refine blk_alloc ?_ _)); exact BK818.out), (by (with_reducible repeat (first | refine blk_drewN ?_ _ | refine blk_drew ?_ | refine blk_alloc ?_ _)); exact BK838.out), (by (with_reducible repeat (first | refine blk_drewN ?_ _ | refine blk_drew ?_ | refine blk_alloc ?_ _)); exact BK847.out), GW847.out, GE847.out, NB818_847.out, NB847_818.out, NB838_847.out, NB847_838.out, (by repeat (first | (with_reducible first | exact HB.out | apply below_alloc | apply pw_below_drewN | apply below_drew1 | refine below_set ?_ GE818.out | refine below_set ?_ GE838.out | refine below_set ?_ GE847.out) | exact HB.out))⟩)
                       rintro gb847 w57 ⟨hS_, h0_, h1_, h2_, h3_, h4_, h5_, h6_, h7_, h8_, h9_, h10_, h11_, h12_⟩
                       have n0_ : Aside0 (Kd.R (Kd.int .u8) 5 w57 w.heap.size (fun _ => True) u12 x12_35) := ⟨h0_⟩
                       have n1_ : Aside0 (Kd.R (Kd.int .i64) 3 w57 w.heap.size (fun _ => True) (.slice (some ad843) x5_8.length co53) x5_8) := ⟨h1_⟩
                       have n2_ : Aside0 (Kd.R k27 27 w57 w.heap.size (fun k_ => k_ ≠ gb838 ∧ k_ ≠ gb847) (.slice (some ad837) y832.length co37) y832) := ⟨h2_⟩
                       have n3_ : Aside0 (w57.heap[gb818]? = some (.cells #[.slice A0_0 l0_0.length c0_0, .slice A0_1 l0_1.length c0_1] 25 (0, 0))) := ⟨h3_⟩
                       have n4_ : Aside0 (w57.heap[gb838]? = some (.cells #[.string ((rd_T27 y832 x9_3).f0), .int .i64 ((rd_T27 y832 x9_3).f1)] 27 (0, 0))) := ⟨h4_⟩
                       have n5_ : Aside0 (w57.heap[gb847]? = some (.cells #[.string (⟨#[]⟩ : ByteArray), .int .i64 0] 27 (0, 0))) := ⟨h5_⟩
                       have n6_ : Aside0 (w.heap.size ≤ gb847) := ⟨h6_⟩
                       have n7_ : Aside0 (w.heap.size ≤ gb847) := ⟨h7_⟩
                       have n8_ : Aside0 (gb818 ≠ gb847) := ⟨h8_⟩
                       have n9_ : Aside0 (gb847 ≠ gb818) := ⟨h9_⟩
                       have n10_ : Aside0 (gb838 ≠ gb847) := ⟨h10_⟩
                       have n11_ : Aside0 (gb847 ≠ gb838) := ⟨h11_⟩
                       have n12_ : Aside0 (Below w.heap.size w w57) := ⟨h12_⟩
                       clear HO_5
                       clear HO_6
                       clear HO_12
                       clear BK818
                       clear BK838
                       clear HB
                       clear h0_ h1_ h2_ h3_ h4_ h5_ h6_ h7_ h8_ h9_ h10_ h11_ h12_
                       have HO_12 := n0_
                       have HO_5 := n1_
                       have HO_6 := n2_
                       have BK818 := n3_
                       have BK838 := n4_
                       have BK847 := n5_
                       have GW847 := n6_
                       have GE847 := n7_
                       have NB818_847 := n8_
                       have NB847_818 := n9_
                       have NB838_847 := n10_
                       have NB847_838 := n11_
                       have HB := n12_
                       clear n0_ n1_ n2_ n3_ n4_ n5_ n6_ n7_ n8_ n9_ n10_ n11_ n12_
                       have hHeld : w57.cell? ⟨gb838, 0, none⟩ = some (.string ((rd_T27 y832 x9_3).f0)) ∧ w57.cell? ⟨gb838, 1, none⟩ = some (.int .i64 ((rd_T27 y832 x9_3).f1)) ∧ w57.cell? (ad843.add (x13_6).toNat) = some (.int .i64 (rd x5_8 x13_6)) := hS_
                       refine norm_ (a' := ?_) ?_ ?_
                       rotate_left
                       ·
                        simp only [putAll, Act.put, List.setIfInBounds_toArray, List.set_cons_zero, List.set_cons_succ]
                        rfl
                       refine one_ (i := 11) (N := none) #[true, true, true, true, true, true, true, true, true, true, true, true, false] rfl rfl (one_of HT_.out (by kernel_rfl)) (by decide) (fun K hK => ?_)
                       have hs58 : w57.cell? ⟨gb847, 0, none⟩ = some (.string (⟨#[]⟩ : ByteArray)) := (blk_cell BK847.out 0).trans rfl
                       have hfs58 := blk_frozen BK847.out 0
                       have hns58_0 := NB818_847.out
                       have hns58_1 := NB838_847.out
                       have hms58_0 := NB847_818.out
                       have hms58_1 := NB847_838.out
                       have hs59 : w57.cell? ⟨gb847, 1, none⟩ = some (.int .i64 0) := (blk_cell BK847.out 1).trans rfl
                       have hfs59 := blk_frozen BK847.out 1
                       have hns59_0 := NB818_847.out
                       have hns59_1 := NB838_847.out
                       have hms59_0 := NB847_818.out
                       have hms59_1 := NB847_838.out
                       refine skip_ (w1 := ?_) (by rfl) rfl ?_ ?_
                       rotate_left
                       ·
                        go_simp
                        rfl
                       refine hK.out _ _ ⟨((cell_far (p := ⟨gb847, _, none⟩) NB838_847.out _).trans (((cell_far (p := ⟨gb847, _, none⟩) NB838_847.out _).trans (hHeld.1)))), ((cell_far (p := ⟨gb847, _, none⟩) NB838_847.out _).trans (((cell_far (p := ⟨gb847, _, none⟩) NB838_847.out _).trans (hHeld.2.1)))), ((cell_far (p := ⟨gb847, _, none⟩) (by first | exact Kd.own_blk (Kd.R_ne HO_5.out BK847.out (by decide)) | (rw [add_block]; exact Kd.own_blk (Kd.R_ne HO_5.out BK847.out (by decide))) | (show (Addr.add _ _).block ≠ _; rw [add_block]; exact Kd.own_blk (Kd.R_ne HO_5.out BK847.out (by decide))) | (dsimp only; exact Kd.own_blk (Kd.R_ne HO_5.out BK847.out (by decide)))) _).trans (((cell_far (p := ⟨gb847, _, none⟩) (by first | exact Kd.own_blk (Kd.R_ne HO_5.out BK847.out (by decide)) | (rw [add_block]; exact Kd.own_blk (Kd.R_ne HO_5.out BK847.out (by decide))) | (show (Addr.add _ _).block ≠ _; rw [add_block]; exact Kd.own_blk (Kd.R_ne HO_5.out BK847.out (by decide))) | (dsimp only; exact Kd.own_blk (Kd.R_ne HO_5.out BK847.out (by decide)))) _).trans (hHeld.2.2))))⟩ (fun hHeld => ?_)
                       clear hK K
                       refine pure_ (i := 12) (N := some 15) (v := ?_) (a' := ?_) #[true, true, true, true, true, true, true, true, true, true, true, true, true] rfl rfl (any_of HT_.out (by kernel_rfl)) (fun _ _ _ h => h) (Or.inl ⟨by rfl, ?_⟩) ?_ ?_
                       rotate_left
                       ·
                        intro w'
                        go_simp
                        with_reducible rfl
                       rotate_left
                       ·
                        simp only [Act.put, List.setIfInBounds_toArray, List.set_cons_zero, List.set_cons_succ, i64_w, i32_w]
                        rfl
                       refine done_ (done_of HT_.out (by kernel_rfl)) ?_
                       have p848 : 0 ≤ (x13_6 : Int) := of_decide_eq_true (by first | (with_reducible assumption) | assumption)
                       have q848 : x13_6 < (x5_8.length : Int) := of_decide_eq_true (by first | (with_reducible assumption) | assumption)
                       obtain ⟨ad848, e848, hx848_0⟩ := Kd.at_int (Kd.R_reads' HO_5.out).2.2 x13_6 p848 q848
                       obtain rfl : ad843 = ad848 := (by injection e848)
                       have hn848_0 : ad843.block ≠ gb847 := Kd.own_blk (Kd.R_ne HO_5.out BK847.out (by decide))
                       have hn848_1 : ad843.block ≠ gb847 := Kd.own_blk (Kd.R_ne HO_5.out BK847.out (by decide))
                       replace hx848_0 := (cell_far (p := ⟨gb847, 0, none⟩) (by first | (rw [add_block]; exact hn848_0) | (show (Addr.add _ _).block ≠ _; rw [add_block]; exact hn848_0) | exact hn848_0) (.string t844)).trans hx848_0
                       replace hx848_0 := (cell_far (p := ⟨gb847, 1, none⟩) (by first | (rw [add_block]; exact hn848_1) | (show (Addr.add _ _).block ≠ _; rw [add_block]; exact hn848_1) | exact hn848_1) (.int .i64 t845)).trans hx848_0
                       clear hn848_0
                       clear hn848_1
                       replace p848 := eq_true p848
                       replace q848 := eq_true q848
                       go_upto_if 107 with (first | ((with_reducible refine gate_callee (f := 64) rfl ?_); refine goesL_ (some 99) rfl rfl Try.func64 (by kernel_rfl) rfl #[.int .i64 (rd l1 x7_2), .int .i64 (rd x5_8 x13_6)] rfl (by (try simp only [List.map_toArray, List.map_cons, List.map_nil]); first | done | rfl | (simp only [List.length_drop, List.length_take]; rfl)) ?_; (with_reducible refine (code_Size.calls (rd l1 x7_2) (rd x5_8 x13_6) t849 t850 _ A50.out).mono ?_); rintro e w60 ⟨rfl, hb⟩; refine ⟨_, rfl, ?_⟩; have n0_ := Aside0.mk (Kd.R_below (by (with_reducible repeat (first | apply Kd.R_alloc | apply Kd.R_drewN | apply Kd.R_drew)); exact (Kd.R_mono (Kd.R_far (p := ⟨gb847, 1, none⟩) (Kd.R_far (p := ⟨gb847, 0, none⟩) (Kd.R_types HO_5.out BK847.out (by decide)) (fun _ hk => hk.2) (.string t844)) (fun _ hk => hk.2) (.int .i64 t845)) (fun _ h_ => h_.1))) hb); have n1_ := Aside0.mk (Kd.R_below (by (with_reducible repeat (first | apply Kd.R_alloc | apply Kd.R_drewN | apply Kd.R_drew)); exact (Kd.R_mono (Kd.R_far (p := ⟨gb847, 1, none⟩) (Kd.R_far (p := ⟨gb847, 0, none⟩) (Kd.R_mono HO_6.out (fun k_ hk => (⟨hk, hk.2⟩ : _ ∧ k_ ≠ gb847))) (fun _ hk => hk.2) (.string t844)) (fun _ hk => hk.2) (.int .i64 t845)) (fun _ h_ => h_.1))) hb); have n2_ := Aside0.mk (Kd.R_below (by (with_reducible repeat (first | apply Kd.R_alloc | apply Kd.R_drewN | apply Kd.R_drew)); exact (Kd.R_mono (Kd.R_far (p := ⟨gb847, 1, none⟩) (Kd.R_far (p := ⟨gb847, 0, none⟩) (Kd.R_types HO_12.out BK847.out (by decide)) (fun _ hk => hk.2) (.string t844)) (fun _ hk => hk.2) (.int .i64 t845)) (fun _ h_ => h_.1))) hb); have n3_ := Aside0.mk (blk_below (g := gb818) (o := .cells #[.slice A0_0 l0_0.length c0_0, .slice A0_1 l0_1.length c0_1] 25 (0, 0)) (by (with_reducible repeat (first | refine blk_drewN ?_ _ | refine blk_drew ?_ | refine blk_alloc ?_ _)); refine blk_far ?_ NB818_847.out _; (with_reducible repeat (first | refine blk_drewN ?_ _ | refine blk_drew ?_ | refine blk_alloc ?_ _)); refine blk_far ?_ NB818_847.out _; (with_reducible repeat (first | refine blk_drewN ?_ _ | refine blk_drew ?_ | refine blk_alloc ?_ _)); exact BK818.out) hb); have n4_ := Aside0.mk (blk_below (g := gb838) (o := .cells #[.string ((rd_T27 y832 x9_3).f0), .int .i64 ((rd_T27 y832 x9_3).f1)] 27 (0, 0)) (by (with_reducible repeat (first | refine blk_drewN ?_ _ | refine blk_drew ?_ | refine blk_alloc ?_ _)); refine blk_far ?_ NB838_847.out _; (with_reducible repeat (first | refine blk_drewN ?_ _ | refine blk_drew ?_ | refine blk_alloc ?_ _)); refine blk_far ?_ NB838_847.out _; (with_reducible repeat (first | refine blk_drewN ?_ _ | refine blk_drew ?_ | refine blk_alloc ?_ _)); exact BK838.out) hb); have n5_ := Aside0.mk (blk_below (g := gb847) (o := .cells #[.string t844, .int .i64 t845] 27 (0, 0)) (by (with_reducible repeat (first | refine blk_drewN ?_ _ | refine blk_drew ?_ | refine blk_alloc ?_ _)); refine blk_put (cs := #[.string t844, .int .i64 0]) ?_ 1 _ rfl; (with_reducible repeat (first | refine blk_drewN ?_ _ | refine blk_drew ?_ | refine blk_alloc ?_ _)); refine blk_put (cs := #[.string (⟨#[]⟩ : ByteArray), .int .i64 0]) ?_ 0 _ rfl; (with_reducible repeat (first | refine blk_drewN ?_ _ | refine blk_drew ?_ | refine blk_alloc ?_ _)); exact BK847.out) hb); have n6_ := Aside0.mk (below_step (by repeat (first | (with_reducible first | exact HB.out | apply below_alloc | apply pw_below_drewN | apply below_drew1 | refine below_set ?_ GE818.out | refine below_set ?_ GE838.out | refine below_set ?_ GE847.out) | exact HB.out)) hb); clear HO_5; clear HO_6; clear HO_12; clear BK818; clear BK838; clear BK847; clear HB; have HO_5 := n0_; have HO_6 := n1_; have HO_12 := n2_; have BK818 := n3_; have BK838 := n4_; have BK847 := n5_; have HB := n6_; clear n0_ n1_ n2_ n3_ n4_ n5_ n6_; (try clear hb); (try clear hb2); (try clear hk); (try clear hi)) | ((with_reducible refine gate_dst (N := 21) rfl ?_); refine box_event ?hg (N := 21) ?hd (cs := #[.string (⟨#[]⟩ : ByteArray), .int .i64 0]) (t := 27) ?hr ?_; (case hd => rfl); (case hg => rfl); (case hr => first | (go_simp; done) | (go_simp; rfl)); intro gb851 hg w61 hbox hb; have n0_ := Aside0.mk (Kd.R_below (by (with_reducible repeat (first | apply Kd.R_alloc | apply Kd.R_drewN | apply Kd.R_drew)); exact HO_5.out) hb); have n1_ := Aside0.mk (Kd.R_below (Kd.R_elderB (by (with_reducible repeat (first | apply Kd.R_alloc | apply Kd.R_drewN | apply Kd.R_drew)); exact HO_6.out) gb851 (Nat.le_of_eq hg.symm)) hb); have n2_ := Aside0.mk (Kd.R_below (by (with_reducible repeat (first | apply Kd.R_alloc | apply Kd.R_drewN | apply Kd.R_drew)); exact HO_12.out) hb); have n3_ := Aside0.mk (blk_below (g := gb818) (o := .cells #[.slice A0_0 l0_0.length c0_0, .slice A0_1 l0_1.length c0_1] 25 (0, 0)) (by (with_reducible repeat (first | refine blk_drewN ?_ _ | refine blk_drew ?_ | refine blk_alloc ?_ _)); exact BK818.out) hb); have n4_ := Aside0.mk (blk_below (g := gb838) (o := .cells #[.string ((rd_T27 y832 x9_3).f0), .int .i64 ((rd_T27 y832 x9_3).f1)] 27 (0, 0)) (by (with_reducible repeat (first | refine blk_drewN ?_ _ | refine blk_drew ?_ | refine blk_alloc ?_ _)); exact BK838.out) hb); have n5_ := Aside0.mk (blk_below (g := gb847) (o := .cells #[.string t844, .int .i64 t845] 27 (0, 0)) (by (with_reducible repeat (first | refine blk_drewN ?_ _ | refine blk_drew ?_ | refine blk_alloc ?_ _)); exact BK847.out) hb); have n6_ := Aside0.mk (below_step (by repeat (first | (with_reducible first | exact HB.out | apply below_alloc | apply pw_below_drewN | apply below_drew1 | refine below_set ?_ GE818.out | refine below_set ?_ GE838.out | refine below_set ?_ GE847.out) | exact HB.out)) hb); have n7_ := Aside0.mk (hbox); have n8_ := Aside0.mk ((by rw [hg]; exact (below_size (by repeat (first | (with_reducible first | exact HB.out | apply below_alloc | apply pw_below_drewN | apply below_drew1 | refine below_set ?_ GE818.out | refine below_set ?_ GE838.out | refine below_set ?_ GE847.out) | exact HB.out))) : w.heap.size ≤ gb851)); have n9_ := Aside0.mk ((by rw [hg]; exact (below_size (by repeat (first | (with_reducible first | exact HB.out | apply below_alloc | apply pw_below_drewN | apply below_drew1 | refine below_set ?_ GE818.out | refine below_set ?_ GE838.out | refine below_set ?_ GE847.out) | exact HB.out))) : w.heap.size ≤ gb851)); have n10_ := Aside0.mk ((by rw [hg]; exact Nat.ne_of_lt (blk_lt (g := gb818) (o := .cells #[.slice A0_0 l0_0.length c0_0, .slice A0_1 l0_1.length c0_1] 25 (0, 0)) (by (with_reducible repeat (first | refine blk_drewN ?_ _ | refine blk_drew ?_ | refine blk_alloc ?_ _)); exact BK818.out)) : gb818 ≠ gb851)); have n11_ := Aside0.mk ((by rw [hg]; exact Nat.ne_of_gt (blk_lt (g := gb818) (o := .cells #[.slice A0_0 l0_0.length c0_0, .slice A0_1 l0_1.length c0_1] 25 (0, 0)) (by (with_reducible repeat (first | refine blk_drewN ?_ _ | refine blk_drew ?_ | refine blk_alloc ?_ _)); exact BK818.out)) : gb851 ≠ gb818)); have n12_ := Aside0.mk ((by rw [hg]; exact Nat.ne_of_lt (blk_lt (g := gb838) (o := .cells #[.string ((rd_T27 y832 x9_3).f0), .int .i64 ((rd_T27 y832 x9_3).f1)] 27 (0, 0)) (by (with_reducible repeat (first | refine blk_drewN ?_ _ | refine blk_drew ?_ | refine blk_alloc ?_ _)); exact BK838.out)) : gb838 ≠ gb851)); have n13_ := Aside0.mk ((by rw [hg]; exact Nat.ne_of_gt (blk_lt (g := gb838) (o := .cells #[.string ((rd_T27 y832 x9_3).f0), .int .i64 ((rd_T27 y832 x9_3).f1)] 27 (0, 0)) (by (with_reducible repeat (first | refine blk_drewN ?_ _ | refine blk_drew ?_ | refine blk_alloc ?_ _)); exact BK838.out)) : gb851 ≠ gb838)); have n14_ := Aside0.mk ((by rw [hg]; exact Nat.ne_of_lt (blk_lt (g := gb847) (o := .cells #[.string t844, .int .i64 t845] 27 (0, 0)) (by (with_reducible repeat (first | refine blk_drewN ?_ _ | refine blk_drew ?_ | refine blk_alloc ?_ _)); exact BK847.out)) : gb847 ≠ gb851)); have n15_ := Aside0.mk ((by rw [hg]; exact Nat.ne_of_gt (blk_lt (g := gb847) (o := .cells #[.string t844, .int .i64 t845] 27 (0, 0)) (by (with_reducible repeat (first | refine blk_drewN ?_ _ | refine blk_drew ?_ | refine blk_alloc ?_ _)); exact BK847.out)) : gb851 ≠ gb847)); clear HO_5; clear HO_6; clear HO_12; clear BK818; clear BK838; clear BK847; clear HB; have HO_5 := n0_; have HO_6 := n1_; have HO_12 := n2_; have BK818 := n3_; have BK838 := n4_; have BK847 := n5_; have HB := n6_; have BK851 := n7_; have GW851 := n8_; have GE851 := n9_; have NB818_851 := n10_; have NB851_818 := n11_; have NB838_851 := n12_; have NB851_838 := n13_; have NB847_851 := n14_; have NB851_847 := n15_; clear n0_ n1_ n2_ n3_ n4_ n5_ n6_ n7_ n8_ n9_ n10_ n11_ n12_ n13_ n14_ n15_; clear hb hbox hg; have p852 : 0 ≤ (x13_6 : Int) := of_decide_eq_true (by first | (with_reducible assumption) | assumption); have q852 : x13_6 < (x5_8.length : Int) := of_decide_eq_true (by first | (with_reducible assumption) | assumption); obtain ⟨ad852, e852, hx852_0⟩ := Kd.at_int (Kd.R_reads' HO_5.out).2.2 x13_6 p852 q852; obtain rfl : ad843 = ad852 := (by injection e852); replace p852 := eq_true p852; replace q852 := eq_true q852) | ((with_reducible refine gate_callee (f := 106) rfl ?_); refine goesL_ (some 107) rfl rfl Try.func106 (by kernel_rfl) rfl #[.int .i64 (rd l1 x7_2), .int .i64 (rd x5_8 x13_6)] rfl (by (try simp only [List.map_toArray, List.map_cons, List.map_nil]); first | done | rfl | (simp only [List.length_drop, List.length_take]; rfl)) ?_; (with_reducible refine (herbariumref1_Code.calls (rd l1 x7_2) (rd x5_8 x13_6) t853 _ A51.out).mono ?_); rintro e w' ⟨rfl, ⟨nd, rfl⟩⟩; refine ⟨_, rfl, ?_⟩))
                       (try simp only [Act.put, List.setIfInBounds_toArray, List.set_cons_zero, List.set_cons_succ])
                       go_cut [18, 19, 20] (fun v18 v19 v20 wc => ∃ (kq : Nat) (x18_51 : Int) (x19_51 : Int) (x20_51 : Int) (x852000_51 : ByteArray) (x852001_51 : Int), v18 = .int .i64 x18_51 ∧ v19 = .int .i64 x19_51 ∧ v20 = .int .i64 x20_51 ∧ Aside0 (herbariumlaw2_kinds.j6 kq l1 x5_8 y832 x7_2 (rd l1 x7_2) x9_3 t839 x12_35 x13_6 t846 t849 t850 x18_51 x19_51 x20_51 ((rd_T27 y832 x9_3).f0) ((rd_T27 y832 x9_3).f1) t844 t845 x852000_51 x852001_51 = some true) ∧ Aside0 (kq ≤ k6) ∧ Aside0 (Kd.R (Kd.int .i64) 3 wc w.heap.size (fun _ => True) (.slice (some ad843) x5_8.length co53) x5_8) ∧ Aside0 (Kd.R k27 27 wc w.heap.size (fun k_ => k_ ≠ gb838 ∧ k_ ≠ gb847 ∧ k_ ≠ gb851) (.slice (some ad837) y832.length co37) y832) ∧ Aside0 (Kd.R (Kd.int .u8) 5 wc w.heap.size (fun _ => True) u12 x12_35) ∧ Aside0 (wc.heap[gb818]? = some (.cells #[(.slice A0_0 l0_0.length c0_0), (.slice A0_1 l0_1.length c0_1)] 25 (0, 0))) ∧ Aside0 (wc.heap[gb838]? = some (.cells #[.string ((rd_T27 y832 x9_3).f0), .int .i64 ((rd_T27 y832 x9_3).f1)] 27 (0, 0))) ∧ Aside0 (wc.heap[gb847]? = some (.cells #[.string t844, .int .i64 t845] 27 (0, 0))) ∧ Aside0 (wc.heap[gb851]? = some (.cells #[.string x852000_51, .int .i64 x852001_51] 27 (0, 0))) ∧ Aside0 (Below w.heap.size w wc))
                       case first => as_aux_lemma =>
                        have H := HC52.out
                        clear HC52
                        by_cases c62 : t853 = true
                        ·
                         subst c62
                         have H1 : ((herbariumref1_List_Write.f k6 ([] : List Int) (rd l1 x7_2) (rd x5_8 x13_6)).bind fun t855 => (if t839 = true then (if (wrap64 (((rd_T27 y832 x9_3).f1) + (t855.length : Int))) ≤ 6000 then ((some (([] : List Int) : List Int)).bind fun y858 => (if y858.length + x12_35.length < 140737488355328 then ((some (y858 ++ x12_35 : List Int)).bind fun y861 => (if y861.length + t855.length < 140737488355328 then ((herbariumref1_List_Pack.f k6 (y861 ++ t855)).bind fun bt867 => (herbariumlaw2_kinds.j6 k6 l1 x5_8 y832 x7_2 (rd l1 x7_2) x9_3 t839 x12_35 x13_6 t846 t849 t850 0 0 (t855.length : Int) ((rd_T27 y832 x9_3).f0) ((rd_T27 y832 x9_3).f1) t844 t845 bt867.1 bt867.2)) else (none))) else (none))) else (herbariumlaw2_kinds.j6 k6 l1 x5_8 y832 x7_2 (rd l1 x7_2) x9_3 t839 x12_35 x13_6 t846 t849 t850 2 0 (t855.length : Int) ((rd_T27 y832 x9_3).f0) ((rd_T27 y832 x9_3).f1) t844 t845 (⟨#[]⟩ : ByteArray) 0)) else (herbariumlaw2_kinds.j6 k6 l1 x5_8 y832 x7_2 (rd l1 x7_2) x9_3 t839 x12_35 x13_6 t846 t849 t850 1 0 (t855.length : Int) ((rd_T27 y832 x9_3).f0) ((rd_T27 y832 x9_3).f1) t844 t845 (⟨#[]⟩ : ByteArray) 0))) = some true := by rw [if_pos rfl] at H; exact H
                         clear H
                         have H := H1
                         clear H1
                         replace H := Option.bind_eq_some_iff.mp H
                         obtain ⟨t855, A630, H⟩ := H
                         replace H : (if t839 = true then (if (wrap64 (((rd_T27 y832 x9_3).f1) + (t855.length : Int))) ≤ 6000 then ((some (([] : List Int) : List Int)).bind fun y858 => (if y858.length + x12_35.length < 140737488355328 then ((some (y858 ++ x12_35 : List Int)).bind fun y861 => (if y861.length + t855.length < 140737488355328 then ((herbariumref1_List_Pack.f k6 (y861 ++ t855)).bind fun bt867 => (herbariumlaw2_kinds.j6 k6 l1 x5_8 y832 x7_2 (rd l1 x7_2) x9_3 t839 x12_35 x13_6 t846 t849 t850 0 0 (t855.length : Int) ((rd_T27 y832 x9_3).f0) ((rd_T27 y832 x9_3).f1) t844 t845 bt867.1 bt867.2)) else (none))) else (none))) else (herbariumlaw2_kinds.j6 k6 l1 x5_8 y832 x7_2 (rd l1 x7_2) x9_3 t839 x12_35 x13_6 t846 t849 t850 2 0 (t855.length : Int) ((rd_T27 y832 x9_3).f0) ((rd_T27 y832 x9_3).f1) t844 t845 (⟨#[]⟩ : ByteArray) 0)) else (herbariumlaw2_kinds.j6 k6 l1 x5_8 y832 x7_2 (rd l1 x7_2) x9_3 t839 x12_35 x13_6 t846 t849 t850 1 0 (t855.length : Int) ((rd_T27 y832 x9_3).f0) ((rd_T27 y832 x9_3).f1) t844 t845 (⟨#[]⟩ : ByteArray) 0)) = some true := H
                         have A63 := Aside0.mk A630
                         clear A630
                         by_cases c64 : t839 = true
                         ·
                          subst c64
                          have H1 : (if (wrap64 (((rd_T27 y832 x9_3).f1) + (t855.length : Int))) ≤ 6000 then ((some (([] : List Int) : List Int)).bind fun y858 => (if y858.length + x12_35.length < 140737488355328 then ((some (y858 ++ x12_35 : List Int)).bind fun y861 => (if y861.length + t855.length < 140737488355328 then ((herbariumref1_List_Pack.f k6 (y861 ++ t855)).bind fun bt867 => (herbariumlaw2_kinds.j6 k6 l1 x5_8 y832 x7_2 (rd l1 x7_2) x9_3 true x12_35 x13_6 t846 t849 t850 0 0 (t855.length : Int) ((rd_T27 y832 x9_3).f0) ((rd_T27 y832 x9_3).f1) t844 t845 bt867.1 bt867.2)) else (none))) else (none))) else (herbariumlaw2_kinds.j6 k6 l1 x5_8 y832 x7_2 (rd l1 x7_2) x9_3 true x12_35 x13_6 t846 t849 t850 2 0 (t855.length : Int) ((rd_T27 y832 x9_3).f0) ((rd_T27 y832 x9_3).f1) t844 t845 (⟨#[]⟩ : ByteArray) 0)) = some true := by rw [if_pos rfl] at H; exact H
                          clear H
                          have H := H1
                          clear H1
                          by_cases c65 : (wrap64 (((rd_T27 y832 x9_3).f1) + (t855.length : Int))) ≤ 6000
                          ·
                           rw [if_pos c65] at H
                           have c65b0 : decide ((wrap64 (((rd_T27 y832 x9_3).f1) + (t855.length : Int))) ≤ 6000) = true := decide_eq_true c65
                           clear c65
                           (first | rw [c65b0] | (simp only [i64_w, i32_w]; rw [c65b0]) | skip)
                           obtain ⟨y858, hy858⟩ : ∃ y_ : List Int, y_ = (([] : List Int)) := ⟨_, rfl⟩
                           replace H : (if y858.length + x12_35.length < 140737488355328 then ((some (y858 ++ x12_35 : List Int)).bind fun y861 => (if y861.length + t855.length < 140737488355328 then ((herbariumref1_List_Pack.f k6 (y861 ++ t855)).bind fun bt867 => (herbariumlaw2_kinds.j6 k6 l1 x5_8 y832 x7_2 (rd l1 x7_2) x9_3 true x12_35 x13_6 t846 t849 t850 0 0 (t855.length : Int) ((rd_T27 y832 x9_3).f0) ((rd_T27 y832 x9_3).f1) t844 t845 bt867.1 bt867.2)) else (none))) else (none)) = some true := by first | (rw [hy858]; with_reducible exact H) | (have H2_ := (Option.bind_some _ _).symm.trans H; rw [hy858]; with_reducible exact H2_) | (have H2_ := (Option.bind_some _ _).symm.trans H; with_reducible exact H2_) | with_reducible exact H | (rw [hy858]; exact H) | exact H
                           have Ny858 := Aside0.mk hy858
                           clear hy858
                           by_cases c66 : y858.length + x12_35.length < 140737488355328
                           ·
                            rw [if_pos c66] at H
                            have LMc66 := Aside0.mk c66
                            clear c66
                            obtain ⟨y861, hy861⟩ : ∃ y_ : List Int, y_ = (y858 ++ x12_35) := ⟨_, rfl⟩
                            replace H : (if y861.length + t855.length < 140737488355328 then ((herbariumref1_List_Pack.f k6 (y861 ++ t855)).bind fun bt867 => (herbariumlaw2_kinds.j6 k6 l1 x5_8 y832 x7_2 (rd l1 x7_2) x9_3 true x12_35 x13_6 t846 t849 t850 0 0 (t855.length : Int) ((rd_T27 y832 x9_3).f0) ((rd_T27 y832 x9_3).f1) t844 t845 bt867.1 bt867.2)) else (none)) = some true := by first | (rw [hy861]; with_reducible exact H) | (have H2_ := (Option.bind_some _ _).symm.trans H; rw [hy861]; with_reducible exact H2_) | (have H2_ := (Option.bind_some _ _).symm.trans H; with_reducible exact H2_) | with_reducible exact H | (rw [hy861]; exact H) | exact H
                            have Ny861 := Aside0.mk hy861
                            clear hy861
                            by_cases c67 : y861.length + t855.length < 140737488355328
                            ·
                             rw [if_pos c67] at H
                             have LMc67 := Aside0.mk c67
                             clear c67
                             obtain ⟨y864, hy864⟩ : ∃ y_ : List Int, y_ = (y861 ++ t855) := ⟨_, rfl⟩
                             replace H : ((herbariumref1_List_Pack.f k6 y864).bind fun bt867 => (herbariumlaw2_kinds.j6 k6 l1 x5_8 y832 x7_2 (rd l1 x7_2) x9_3 true x12_35 x13_6 t846 t849 t850 0 0 (t855.length : Int) ((rd_T27 y832 x9_3).f0) ((rd_T27 y832 x9_3).f1) t844 t845 bt867.1 bt867.2)) = some true := by first | (rw [hy864]; with_reducible exact H) | (have H2_ := (Option.bind_some _ _).symm.trans H; rw [hy864]; with_reducible exact H2_) | (have H2_ := (Option.bind_some _ _).symm.trans H; with_reducible exact H2_) | with_reducible exact H | (rw [hy864]; exact H) | exact H
                             have Ny864 := Aside0.mk hy864
                             clear hy864
                             replace H := Option.bind_eq_some_iff.mp H
                             obtain ⟨⟨t867, t868⟩, A680, H⟩ := H
                             replace H : (herbariumlaw2_kinds.j6 k6 l1 x5_8 y832 x7_2 (rd l1 x7_2) x9_3 true x12_35 x13_6 t846 t849 t850 0 0 (t855.length : Int) ((rd_T27 y832 x9_3).f0) ((rd_T27 y832 x9_3).f1) t844 t845 t867 t868) = some true := H
                             have A68 := Aside0.mk A680
                             clear A680
                             have H' := Aside0.mk H
                             clear H
                             have p854 : 0 ≤ (x13_6 : Int) := of_decide_eq_true (by first | (with_reducible assumption) | assumption)
                             have q854 : x13_6 < (x5_8.length : Int) := of_decide_eq_true (by first | (with_reducible assumption) | assumption)
                             obtain ⟨ad854, e854, hx854_0⟩ := Kd.at_int (Kd.R_reads' HO_5.out).2.2 x13_6 p854 q854
                             obtain rfl : ad843 = ad854 := (by injection e854)
                             replace p854 := eq_true p854
                             replace q854 := eq_true q854
                             go_wp2_with (first | ((with_reducible refine gate_callee (f := 107) rfl ?_); refine goesL_ (some 113) rfl rfl Try.func107 (by kernel_rfl) rfl #[.slice none 0 0, .int .i64 (rd l1 x7_2), .int .i64 (rd x5_8 x13_6)] rfl (by (try simp only [List.map_toArray, List.map_cons, List.map_nil]); first | done | rfl | (simp only [List.length_drop, List.length_take]; rfl)) ?_; (refine (herbariumref1_List_Write.calls k6 (fun k_ => some k_ = (.slice none 0 0 : Value).ownBlock) (.slice none 0 0) ([] : List Int) (rd l1 x7_2) (rd x5_8 x13_6) t855 w _ ?side1 ?side2 A63.out).mono ?_); (case side1 => repeat (first | (with_reducible first | exact HB.out | apply below_alloc | apply pw_below_drewN | apply below_drew1 | refine below_set ?_ GE818.out | refine below_set ?_ GE838.out | refine below_set ?_ GE847.out | refine below_set ?_ GE851.out) | exact HB.out)); (case side2 => exact Kd.R_nil _ _ _ _ _); rintro e w69 ⟨v856, rfl, ho0, hb, hkp⟩; refine ⟨_, rfl, ?_⟩; have n0_ := Aside0.mk (Kd.R_mono (ok' := fun k_ => True) (Kd.R_keptB (HO_5.out) hkp (fun k_ hk_ hs_ => (fun e_ => by simp [Value.ownBlock] at e_) hs_)) (fun k_ hk_ => trivial)); have n1_ := Aside0.mk (Kd.R_mono (ok' := fun k_ => k_ ≠ gb838 ∧ k_ ≠ gb847 ∧ k_ ≠ gb851) (Kd.R_keptB (HO_6.out) hkp (fun k_ hk_ hs_ => (fun e_ => by simp [Value.ownBlock] at e_) hs_)) (fun k_ hk_ => ⟨hk_.1.1.1, hk_.1.1.2, hk_.1.2⟩)); have n2_ := Aside0.mk (Kd.R_mono (ok' := fun k_ => some k_ ≠ (v856 : Value).ownBlock) (Kd.R_keptB (HO_12.out) hkp (fun k_ hk_ hs_ => (fun e_ => by simp [Value.ownBlock] at e_) hs_)) (fun k_ hk_ => fun e_ => Or.elim (ho0.1 k_ e_.symm) (fun hs_ => hk_.2.1 hs_) (fun hn_ => Nat.not_le.2 hk_.2.2 hn_))); have n3_ := Aside0.mk (blk_kept (g := gb818) (o := .cells #[.slice A0_0 l0_0.length c0_0, .slice A0_1 l0_1.length c0_1] 25 (0, 0)) (by (with_reducible repeat (first | refine blk_drewN ?_ _ | refine blk_drew ?_ | refine blk_alloc ?_ _)); exact BK818.out) hkp (fun hs_ => (fun e_ => by simp [Value.ownBlock] at e_) hs_)); have n4_ := Aside0.mk (blk_kept (g := gb838) (o := .cells #[.string ((rd_T27 y832 x9_3).f0), .int .i64 ((rd_T27 y832 x9_3).f1)] 27 (0, 0)) (by (with_reducible repeat (first | refine blk_drewN ?_ _ | refine blk_drew ?_ | refine blk_alloc ?_ _)); exact BK838.out) hkp (fun hs_ => (fun e_ => by simp [Value.ownBlock] at e_) hs_)); have n5_ := Aside0.mk (blk_kept (g := gb847) (o := .cells #[.string t844, .int .i64 t845] 27 (0, 0)) (by (with_reducible repeat (first | refine blk_drewN ?_ _ | refine blk_drew ?_ | refine blk_alloc ?_ _)); exact BK847.out) hkp (fun hs_ => (fun e_ => by simp [Value.ownBlock] at e_) hs_)); have n6_ := Aside0.mk (blk_kept (g := gb851) (o := .cells #[.string (⟨#[]⟩ : ByteArray), .int .i64 0] 27 (0, 0)) (by (with_reducible repeat (first | refine blk_drewN ?_ _ | refine blk_drew ?_ | refine blk_alloc ?_ _)); exact BK851.out) hkp (fun hs_ => (fun e_ => by simp [Value.ownBlock] at e_) hs_)); have n7_ := Aside0.mk (Kd.R_mono (ok' := fun k_ => some k_ ≠ (u12 : Value).ownBlock) ho0 (fun k_ hk_ => Or.elim hk_ (fun hs_ => absurd hs_ (by simp [Value.ownBlock])) (fun hn_ => (Kd.fresh' (Kd.R_lt (by (with_reducible repeat (first | apply Kd.R_alloc | apply Kd.R_drewN | apply Kd.R_drew)); exact HO_12.out)) k_ hn_)))); have n8_ := Aside0.mk (hb); clear HO_5; clear HO_6; clear HO_12; clear BK818; clear BK838; clear BK847; clear BK851; clear HB; have HO_5 := n0_; have HO_6 := n1_; have HO_12 := n2_; have BK818 := n3_; have BK838 := n4_; have BK847 := n5_; have BK851 := n6_; have HO857 := n7_; have HB := n8_; clear n0_ n1_ n2_ n3_ n4_ n5_ n6_ n7_ n8_; (try clear hb); (try clear hkp); (try clear ho0); obtain ⟨Ao70, co70, eo70⟩ := Kd.R_slice HO857.out; subst eo70; have hnb71 := NB838_818.out; have hnc71 := NB818_838.out; have hnb72 := NB838_847.out; have hnc72 := NB847_838.out; have hnb73 := NB838_851.out; have hnc73 := NB851_838.out; have hcz74_0 : w69.cell? ⟨gb838, 0, none⟩ = some (.string ((rd_T27 y832 x9_3).f0)) := (blk_cell BK838.out 0).trans rfl; have hcz74_1 : w69.cell? ⟨gb838, 1, none⟩ = some (.int .i64 ((rd_T27 y832 x9_3).f1)) := (blk_cell BK838.out 1).trans rfl; have hfz74_0 := blk_frozen BK838.out 0; have hfz74_1 := blk_frozen BK838.out 1) | ((with_reducible refine gate_dst (N := 123) rfl ?_); refine Kd.R_lit (Kd.int .u8) _ 5 ?hg (N := 123) ?hd (xs := ([] : List Int)) (inner := []) (ok := fun _ => True) (okp := fun _ => True) ?hr ?hp (fun _ hk => hk) trivial (Below.refl _ _) (Nat.le_refl _) (by simp) ?_; (case hd => rfl); (case hg => rfl); (case hr => first | (go_simp; done) | (go_simp; rfl)); (case hp => exact (Reps.none _ _)); intro v859 w75 ho76 hb hg_ hnew_; clear hg_ hnew_; (first | rw [← Ny858.out] at ho76 | (simp only [Int.reduceToNat] at ho76; rw [← Ny858.out] at ho76)); have n0_ := Aside0.mk (Kd.R_below (by (with_reducible repeat (first | apply Kd.R_alloc | apply Kd.R_drewN | apply Kd.R_drew)); exact HO_5.out) hb); have n1_ := Aside0.mk (Kd.R_below (by (with_reducible repeat (first | apply Kd.R_alloc | apply Kd.R_drewN | apply Kd.R_drew)); exact HO_6.out) hb); have n2_ := Aside0.mk (Kd.R_elder' (by (with_reducible repeat (first | apply Kd.R_alloc | apply Kd.R_drewN | apply Kd.R_drew)); exact HO_12.out) (Kd.R_base ho76) hb); have n3_ := Aside0.mk (Kd.R_elder' (by (with_reducible repeat (first | apply Kd.R_alloc | apply Kd.R_drewN | apply Kd.R_drew)); exact HO857.out) (Kd.R_base ho76) hb); have n4_ := Aside0.mk (Kd.R_lower (Kd.R_new' (Kd.R_new' ho76 (Kd.R_lt (by (with_reducible repeat (first | apply Kd.R_alloc | apply Kd.R_drewN | apply Kd.R_drew)); exact HO_12.out))) (Kd.R_lt (by (with_reducible repeat (first | apply Kd.R_alloc | apply Kd.R_drewN | apply Kd.R_drew)); exact HO857.out))) (below_size (by repeat (first | (with_reducible first | exact HB.out | apply below_alloc | apply pw_below_drewN | apply below_drew1 | refine below_set ?_ GE818.out | refine below_set ?_ GE838.out | refine below_set ?_ GE847.out | refine below_set ?_ GE851.out) | exact HB.out)))); have n5_ := Aside0.mk (blk_below (g := gb818) (o := .cells #[.slice A0_0 l0_0.length c0_0, .slice A0_1 l0_1.length c0_1] 25 (0, 0)) (by (with_reducible repeat (first | refine blk_drewN ?_ _ | refine blk_drew ?_ | refine blk_alloc ?_ _)); exact BK818.out) hb); have n6_ := Aside0.mk (blk_below (g := gb838) (o := .cells #[.string ((rd_T27 y832 x9_3).f0), .int .i64 ((rd_T27 y832 x9_3).f1)] 27 (0, 0)) (by (with_reducible repeat (first | refine blk_drewN ?_ _ | refine blk_drew ?_ | refine blk_alloc ?_ _)); exact BK838.out) hb); have n7_ := Aside0.mk (blk_below (g := gb847) (o := .cells #[.string t844, .int .i64 t845] 27 (0, 0)) (by (with_reducible repeat (first | refine blk_drewN ?_ _ | refine blk_drew ?_ | refine blk_alloc ?_ _)); exact BK847.out) hb); have n8_ := Aside0.mk (blk_below (g := gb851) (o := .cells #[.string (⟨#[]⟩ : ByteArray), .int .i64 0] 27 (0, 0)) (by (with_reducible repeat (first | refine blk_drewN ?_ _ | refine blk_drew ?_ | refine blk_alloc ?_ _)); exact BK851.out) hb); have n9_ := Aside0.mk (below_step (by repeat (first | (with_reducible first | exact HB.out | apply below_alloc | apply pw_below_drewN | apply below_drew1 | refine below_set ?_ GE818.out | refine below_set ?_ GE838.out | refine below_set ?_ GE847.out | refine below_set ?_ GE851.out) | exact HB.out)) hb); clear HO_5; clear HO_6; clear HO_12; clear HO857; clear BK818; clear BK838; clear BK847; clear BK851; clear HB; have HO_5 := n0_; have HO_6 := n1_; have HO_12 := n2_; have HO857 := n3_; have HO860 := n4_; have BK818 := n5_; have BK838 := n6_; have BK847 := n7_; have BK851 := n8_; have HB := n9_; clear n0_ n1_ n2_ n3_ n4_ n5_ n6_ n7_ n8_ n9_; clear hb ho76; obtain ⟨Ao78, co78, eo78⟩ := Kd.R_slice HO_12.out; subst eo78) | ((with_reducible refine gate_builtin (b := .append) (xs := #[.tmp 123, .tmp 124]) rfl ?_); at_builtin; refine Kd.R_append_rows (Kd.int .u8) (w0 := w) w.heap.size rfl (.tmp 123) (.tmp 124) 64 5 (.int .u8 0) 1 rfl Try.underlying64 info5 rfl (by decide) (by omega) v859 y858 x12_35 _ _ _ (fun k_ => some k_ ≠ (.slice Ao78 x12_35.length co78 : Value).ownBlock ∧ some k_ ≠ (.slice Ao70 t855.length co70 : Value).ownBlock) (fun _ => False) rfl rfl ?aO ?aR (fun _ _ h => h) (fun _ h => h.elim) ?aF ?aB ?aS ?aL ?_; (case aR => repeat (first | exact (Kd.R_reads' HO_12.out).2.2 | (with_reducible refine Kd.C_alloc ?_ _) | (with_reducible refine Kd.C_drewN ?_ _) | (with_reducible refine Kd.C_drew ?_))); (case aB => exact (by repeat (first | (with_reducible first | exact HB.out | apply below_alloc | apply pw_below_drewN | apply below_drew1 | refine below_set ?_ GE818.out | refine below_set ?_ GE838.out | refine below_set ?_ GE847.out | refine below_set ?_ GE851.out) | exact HB.out))); (case aF => exact (fun k_ hk => ⟨Kd.fresh' (Kd.R_lt (by (with_reducible repeat (first | apply Kd.R_alloc | apply Kd.R_drewN | apply Kd.R_drew)); exact HO_12.out)) k_ hk, Kd.fresh' (Kd.R_lt (by (with_reducible repeat (first | apply Kd.R_alloc | apply Kd.R_drewN | apply Kd.R_drew)); exact HO857.out)) k_ hk⟩)); (case aO => exact (by (with_reducible repeat (first | apply Kd.R_alloc | apply Kd.R_drewN | apply Kd.R_drew)); exact Kd.R_mono HO860.out (fun _ hk => ⟨hk.1.2, hk.2⟩))); (case aS => exact (below_size (by repeat (first | (with_reducible first | exact HB.out | apply below_alloc | apply pw_below_drewN | apply below_drew1 | refine below_set ?_ GE818.out | refine below_set ?_ GE838.out | refine below_set ?_ GE847.out | refine below_set ?_ GE851.out) | exact HB.out)))); (case aL => have := LMc66.out; omega); intro v862 w77 ho hb hg hat; rw [← Ny861.out] at ho; have n0_ := Aside0.mk (Kd.R_over' (by (with_reducible repeat (first | apply Kd.R_alloc | apply Kd.R_drewN | apply Kd.R_drew)); exact HO_5.out) (Kd.R_typed (by (with_reducible repeat (first | apply Kd.R_alloc | apply Kd.R_drewN | apply Kd.R_drew)); exact HO860.out)) (by decide) hg); have n1_ := Aside0.mk (Kd.R_over' (by (with_reducible repeat (first | apply Kd.R_alloc | apply Kd.R_drewN | apply Kd.R_drew)); exact HO_6.out) (Kd.R_typed (by (with_reducible repeat (first | apply Kd.R_alloc | apply Kd.R_drewN | apply Kd.R_drew)); exact HO860.out)) (by decide) hg); have n2_ := Aside0.mk (Kd.R_after (ok := (fun k_ => some k_ ≠ (.slice Ao70 t855.length co70 : Value).ownBlock)) (by (with_reducible repeat (first | apply Kd.R_alloc | apply Kd.R_drewN | apply Kd.R_drew)); exact HO_12.out) hg hat); have n3_ := Aside0.mk (blk_grown (g := gb818) (o := .cells #[.slice A0_0 l0_0.length c0_0, .slice A0_1 l0_1.length c0_1] 25 (0, 0)) (by (with_reducible repeat (first | refine blk_drewN ?_ _ | refine blk_drew ?_ | refine blk_alloc ?_ _)); exact BK818.out) hg (Kd.R_ne HO860.out BK818.out (by decide))); have n4_ := Aside0.mk (blk_grown (g := gb838) (o := .cells #[.string ((rd_T27 y832 x9_3).f0), .int .i64 ((rd_T27 y832 x9_3).f1)] 27 (0, 0)) (by (with_reducible repeat (first | refine blk_drewN ?_ _ | refine blk_drew ?_ | refine blk_alloc ?_ _)); exact BK838.out) hg (Kd.R_ne HO860.out BK838.out (by decide))); have n5_ := Aside0.mk (blk_grown (g := gb847) (o := .cells #[.string t844, .int .i64 t845] 27 (0, 0)) (by (with_reducible repeat (first | refine blk_drewN ?_ _ | refine blk_drew ?_ | refine blk_alloc ?_ _)); exact BK847.out) hg (Kd.R_ne HO860.out BK847.out (by decide))); have n6_ := Aside0.mk (blk_grown (g := gb851) (o := .cells #[.string (⟨#[]⟩ : ByteArray), .int .i64 0] 27 (0, 0)) (by (with_reducible repeat (first | refine blk_drewN ?_ _ | refine blk_drew ?_ | refine blk_alloc ?_ _)); exact BK851.out) hg (Kd.R_ne HO860.out BK851.out (by decide))); have n7_ := Aside0.mk (Kd.R_after (ok := (fun k_ => some k_ ≠ (.slice Ao78 x12_35.length co78 : Value).ownBlock)) (by (with_reducible repeat (first | apply Kd.R_alloc | apply Kd.R_drewN | apply Kd.R_drew)); exact HO857.out) hg hat); have n8_ := Aside0.mk (hb); have n9_ := Aside0.mk (ho); clear HO_5; clear HO_6; clear HO_12; clear BK818; clear BK838; clear BK847; clear BK851; clear HO857; clear HB; clear HO860; have HO_5 := n0_; have HO_6 := n1_; have HO_12 := n2_; have BK818 := n3_; have BK838 := n4_; have BK847 := n5_; have BK851 := n6_; have HO857 := n7_; have HB := n8_; have HO863 := n9_; clear n0_ n1_ n2_ n3_ n4_ n5_ n6_ n7_ n8_ n9_; clear ho hb hg hat) | ((with_reducible refine gate_builtin (b := .append) (xs := #[.tmp 125, .tmp 126]) rfl ?_); at_builtin; refine Kd.R_append_rows (Kd.int .u8) (w0 := w) w.heap.size rfl (.tmp 125) (.tmp 126) 64 5 (.int .u8 0) 1 rfl Try.underlying64 info5 rfl (by decide) (by omega) v862 y861 t855 _ _ _ (fun k_ => some k_ ≠ (.slice Ao78 x12_35.length co78 : Value).ownBlock ∧ some k_ ≠ (.slice Ao70 t855.length co70 : Value).ownBlock) (fun _ => False) rfl rfl ?aO ?aR (fun _ _ h => h) (fun _ h => h.elim) ?aF ?aB ?aS ?aL ?_; (case aR => repeat (first | exact (Kd.R_reads' HO857.out).2.2 | (with_reducible refine Kd.C_alloc ?_ _) | (with_reducible refine Kd.C_drewN ?_ _) | (with_reducible refine Kd.C_drew ?_))); (case aB => exact (by repeat (first | (with_reducible first | exact HB.out | apply below_alloc | apply pw_below_drewN | apply below_drew1 | refine below_set ?_ GE818.out | refine below_set ?_ GE838.out | refine below_set ?_ GE847.out | refine below_set ?_ GE851.out) | exact HB.out))); (case aF => exact (fun k_ hk => ⟨Kd.fresh' (Kd.R_lt (by (with_reducible repeat (first | apply Kd.R_alloc | apply Kd.R_drewN | apply Kd.R_drew)); exact HO_12.out)) k_ hk, Kd.fresh' (Kd.R_lt (by (with_reducible repeat (first | apply Kd.R_alloc | apply Kd.R_drewN | apply Kd.R_drew)); exact HO857.out)) k_ hk⟩)); (case aO => exact (by (with_reducible repeat (first | apply Kd.R_alloc | apply Kd.R_drewN | apply Kd.R_drew)); exact HO863.out)); (case aS => exact (below_size (by repeat (first | (with_reducible first | exact HB.out | apply below_alloc | apply pw_below_drewN | apply below_drew1 | refine below_set ?_ GE818.out | refine below_set ?_ GE838.out | refine below_set ?_ GE847.out | refine below_set ?_ GE851.out) | exact HB.out)))); (case aL => have := LMc67.out; omega); intro v865 w79 ho hb hg hat; rw [← Ny864.out] at ho; have n0_ := Aside0.mk (Kd.R_over' (by (with_reducible repeat (first | apply Kd.R_alloc | apply Kd.R_drewN | apply Kd.R_drew)); exact HO_5.out) (Kd.R_typed (by (with_reducible repeat (first | apply Kd.R_alloc | apply Kd.R_drewN | apply Kd.R_drew)); exact HO863.out)) (by decide) hg); have n1_ := Aside0.mk (Kd.R_over' (by (with_reducible repeat (first | apply Kd.R_alloc | apply Kd.R_drewN | apply Kd.R_drew)); exact HO_6.out) (Kd.R_typed (by (with_reducible repeat (first | apply Kd.R_alloc | apply Kd.R_drewN | apply Kd.R_drew)); exact HO863.out)) (by decide) hg); have n2_ := Aside0.mk (Kd.R_after (ok := (fun k_ => some k_ ≠ (.slice Ao70 t855.length co70 : Value).ownBlock)) (by (with_reducible repeat (first | apply Kd.R_alloc | apply Kd.R_drewN | apply Kd.R_drew)); exact HO_12.out) hg hat); have n3_ := Aside0.mk (blk_grown (g := gb818) (o := .cells #[.slice A0_0 l0_0.length c0_0, .slice A0_1 l0_1.length c0_1] 25 (0, 0)) (by (with_reducible repeat (first | refine blk_drewN ?_ _ | refine blk_drew ?_ | refine blk_alloc ?_ _)); exact BK818.out) hg (Kd.R_ne HO863.out BK818.out (by decide))); have n4_ := Aside0.mk (blk_grown (g := gb838) (o := .cells #[.string ((rd_T27 y832 x9_3).f0), .int .i64 ((rd_T27 y832 x9_3).f1)] 27 (0, 0)) (by (with_reducible repeat (first | refine blk_drewN ?_ _ | refine blk_drew ?_ | refine blk_alloc ?_ _)); exact BK838.out) hg (Kd.R_ne HO863.out BK838.out (by decide))); have n5_ := Aside0.mk (blk_grown (g := gb847) (o := .cells #[.string t844, .int .i64 t845] 27 (0, 0)) (by (with_reducible repeat (first | refine blk_drewN ?_ _ | refine blk_drew ?_ | refine blk_alloc ?_ _)); exact BK847.out) hg (Kd.R_ne HO863.out BK847.out (by decide))); have n6_ := Aside0.mk (blk_grown (g := gb851) (o := .cells #[.string (⟨#[]⟩ : ByteArray), .int .i64 0] 27 (0, 0)) (by (with_reducible repeat (first | refine blk_drewN ?_ _ | refine blk_drew ?_ | refine blk_alloc ?_ _)); exact BK851.out) hg (Kd.R_ne HO863.out BK851.out (by decide))); have n7_ := Aside0.mk (Kd.R_after (ok := (fun k_ => some k_ ≠ (.slice Ao78 x12_35.length co78 : Value).ownBlock)) (by (with_reducible repeat (first | apply Kd.R_alloc | apply Kd.R_drewN | apply Kd.R_drew)); exact HO857.out) hg hat); have n8_ := Aside0.mk (hb); have n9_ := Aside0.mk (ho); clear HO_5; clear HO_6; clear HO_12; clear BK818; clear BK838; clear BK847; clear BK851; clear HO857; clear HB; clear HO863; have HO_5 := n0_; have HO_6 := n1_; have HO_12 := n2_; have BK818 := n3_; have BK838 := n4_; have BK847 := n5_; have BK851 := n6_; have HO857 := n7_; have HB := n8_; have HO866 := n9_; clear n0_ n1_ n2_ n3_ n4_ n5_ n6_ n7_ n8_ n9_; clear ho hb hg hat; obtain ⟨Ao80, co80, eo80⟩ := Kd.R_slice HO866.out; subst eo80) | ((with_reducible refine gate_callee (f := 56) rfl ?_); refine goesL_ (some 128) rfl rfl Try.func56 (by kernel_rfl) rfl #[.slice Ao80 y864.length co80] rfl (by (try simp only [List.map_toArray, List.map_cons, List.map_nil]); first | done | rfl | (simp only [List.length_drop, List.length_take]; rfl)) ?_; (with_reducible refine (herbariumref1_List_Pack.calls k6 _ _ y864 t867 t868 _ ?side1 ?side2 A68.out).mono ?_); (case side1 => repeat (first | exact (Kd.R_reads' HO866.out).2.2 | (with_reducible refine Kd.C_alloc ?_ _) | (with_reducible refine Kd.C_drewN ?_ _) | (with_reducible refine Kd.C_drew ?_))); (case side2 => exact (Kd.R_reads' HO866.out).2.1); rintro e w81 ⟨rfl, hb⟩; refine ⟨_, rfl, ?_⟩; have n0_ := Aside0.mk (Kd.R_below (by (with_reducible repeat (first | apply Kd.R_alloc | apply Kd.R_drewN | apply Kd.R_drew)); exact HO_5.out) hb); have n1_ := Aside0.mk (Kd.R_below (by (with_reducible repeat (first | apply Kd.R_alloc | apply Kd.R_drewN | apply Kd.R_drew)); exact HO_6.out) hb); have n2_ := Aside0.mk (Kd.R_below (by (with_reducible repeat (first | apply Kd.R_alloc | apply Kd.R_drewN | apply Kd.R_drew)); exact HO_12.out) hb); have n3_ := Aside0.mk (Kd.R_below (by (with_reducible repeat (first | apply Kd.R_alloc | apply Kd.R_drewN | apply Kd.R_drew)); exact HO857.out) hb); have n4_ := Aside0.mk (Kd.R_below (by (with_reducible repeat (first | apply Kd.R_alloc | apply Kd.R_drewN | apply Kd.R_drew)); exact HO866.out) hb); have n5_ := Aside0.mk (blk_below (g := gb818) (o := .cells #[.slice A0_0 l0_0.length c0_0, .slice A0_1 l0_1.length c0_1] 25 (0, 0)) (by (with_reducible repeat (first | refine blk_drewN ?_ _ | refine blk_drew ?_ | refine blk_alloc ?_ _)); exact BK818.out) hb); have n6_ := Aside0.mk (blk_below (g := gb838) (o := .cells #[.string ((rd_T27 y832 x9_3).f0), .int .i64 ((rd_T27 y832 x9_3).f1)] 27 (0, 0)) (by (with_reducible repeat (first | refine blk_drewN ?_ _ | refine blk_drew ?_ | refine blk_alloc ?_ _)); exact BK838.out) hb); have n7_ := Aside0.mk (blk_below (g := gb847) (o := .cells #[.string t844, .int .i64 t845] 27 (0, 0)) (by (with_reducible repeat (first | refine blk_drewN ?_ _ | refine blk_drew ?_ | refine blk_alloc ?_ _)); exact BK847.out) hb); have n8_ := Aside0.mk (blk_below (g := gb851) (o := .cells #[.string (⟨#[]⟩ : ByteArray), .int .i64 0] 27 (0, 0)) (by (with_reducible repeat (first | refine blk_drewN ?_ _ | refine blk_drew ?_ | refine blk_alloc ?_ _)); exact BK851.out) hb); have n9_ := Aside0.mk (below_step (by repeat (first | (with_reducible first | exact HB.out | apply below_alloc | apply pw_below_drewN | apply below_drew1 | refine below_set ?_ GE818.out | refine below_set ?_ GE838.out | refine below_set ?_ GE847.out | refine below_set ?_ GE851.out) | exact HB.out)) hb); clear HO_5; clear HO_6; clear HO_12; clear HO857; clear HO866; clear BK818; clear BK838; clear BK847; clear BK851; clear HB; have HO_5 := n0_; have HO_6 := n1_; have HO_12 := n2_; have HO857 := n3_; have HO866 := n4_; have BK818 := n5_; have BK838 := n6_; have BK847 := n7_; have BK851 := n8_; have HB := n9_; clear n0_ n1_ n2_ n3_ n4_ n5_ n6_ n7_ n8_ n9_; (try clear hb); (try clear hb2); (try clear hk); (try clear hi); have hnb82 := NB851_818.out; have hnc82 := NB818_851.out; have hnb83 := NB851_847.out; have hnc83 := NB847_851.out; have hcz84_0 : w81.cell? ⟨gb851, 0, none⟩ = some (.string (⟨#[]⟩ : ByteArray)) := (blk_cell BK851.out 0).trans rfl; have hcz84_1 : w81.cell? ⟨gb851, 1, none⟩ = some (.int .i64 0) := (blk_cell BK851.out 1).trans rfl; have hfz84_0 := blk_frozen BK851.out 0; have hfz84_1 := blk_frozen BK851.out 1))
                             go_meet
                             case rel => exact ⟨_, (0), (0), ((t855.length : Int)), (t867), (t868), (by first | rfl | (simp; done) | (simp [*]; done)), (by first | rfl | (simp; done) | (simp [*]; done)), (by first | rfl | (simp; done) | (simp [*]; done)), H', ⟨by have := HJ8.out; have := HK2.out; have := HK3.out; have := HJ27.out; have := HJ35.out; have := HK6.out; first | omega | exact Nat.le_refl _⟩, ⟨by (with_reducible repeat (first | apply Kd.R_alloc | apply Kd.R_drewN | apply Kd.R_drew)); exact Kd.R_mono (Kd.R_far (p := ⟨gb851, 1, none⟩) (Kd.R_far (p := ⟨gb851, 0, none⟩) (Kd.R_types HO_5.out BK851.out (by decide)) (fun _ hk => hk.2) (.string t867)) (fun _ hk => hk.2) (.int .i64 t868)) (fun _ hk => trivial)⟩, ⟨by (with_reducible repeat (first | apply Kd.R_alloc | apply Kd.R_drewN | apply Kd.R_drew)); exact Kd.R_mono (Kd.R_far (p := ⟨gb851, 1, none⟩) (Kd.R_far (p := ⟨gb851, 0, none⟩) (Kd.R_mono HO_6.out (fun k_ hk => (⟨hk, hk.2.2⟩ : _ ∧ k_ ≠ gb851))) (fun _ hk => hk.2) (.string t867)) (fun _ hk => hk.2) (.int .i64 t868)) (fun _ hk => ⟨hk.1.1, ⟨hk.1.2.1, hk.1.2.2⟩⟩)⟩, ⟨by (with_reducible repeat (first | apply Kd.R_alloc | apply Kd.R_drewN | apply Kd.R_drew)); exact Kd.R_mono (Kd.R_far (p := ⟨gb851, 1, none⟩) (Kd.R_far (p := ⟨gb851, 0, none⟩) (Kd.R_types HO_12.out BK851.out (by decide)) (fun _ hk => hk.2) (.string t867)) (fun _ hk => hk.2) (.int .i64 t868)) (fun _ hk => trivial)⟩, ⟨by (with_reducible repeat (first | refine blk_drewN ?_ _ | refine blk_drew ?_ | refine blk_alloc ?_ _)); refine blk_far ?_ NB818_851.out _; (with_reducible repeat (first | refine blk_drewN ?_ _ | refine blk_drew ?_ | refine blk_alloc ?_ _)); refine blk_far ?_ NB818_851.out _; (with_reducible repeat (first | refine blk_drewN ?_ _ | refine blk_drew ?_ | refine blk_alloc ?_ _)); exact BK818.out⟩, ⟨by (with_reducible repeat (first | refine blk_drewN ?_ _ | refine blk_drew ?_ | refine blk_alloc ?_ _)); refine blk_far ?_ NB838_851.out _; (with_reducible repeat (first | refine blk_drewN ?_ _ | refine blk_drew ?_ | refine blk_alloc ?_ _)); refine blk_far ?_ NB838_851.out _; (with_reducible repeat (first | refine blk_drewN ?_ _ | refine blk_drew ?_ | refine blk_alloc ?_ _)); exact BK838.out⟩, ⟨by (with_reducible repeat (first | refine blk_drewN ?_ _ | refine blk_drew ?_ | refine blk_alloc ?_ _)); refine blk_far ?_ NB847_851.out _; (with_reducible repeat (first | refine blk_drewN ?_ _ | refine blk_drew ?_ | refine blk_alloc ?_ _)); refine blk_far ?_ NB847_851.out _; (with_reducible repeat (first | refine blk_drewN ?_ _ | refine blk_drew ?_ | refine blk_alloc ?_ _)); exact BK847.out⟩, ⟨by (with_reducible repeat (first | refine blk_drewN ?_ _ | refine blk_drew ?_ | refine blk_alloc ?_ _)); refine blk_put (cs := #[.string t867, .int .i64 0]) ?_ 1 _ rfl; (with_reducible repeat (first | refine blk_drewN ?_ _ | refine blk_drew ?_ | refine blk_alloc ?_ _)); refine blk_put (cs := #[.string (⟨#[]⟩ : ByteArray), .int .i64 0]) ?_ 0 _ rfl; (with_reducible repeat (first | refine blk_drewN ?_ _ | refine blk_drew ?_ | refine blk_alloc ?_ _)); exact BK851.out⟩, ⟨by repeat (first | (with_reducible first | exact HB.out | apply below_alloc | apply pw_below_drewN | apply below_drew1 | refine below_set ?_ GE818.out | refine below_set ?_ GE838.out | refine below_set ?_ GE847.out | refine below_set ?_ GE851.out) | exact HB.out)⟩⟩
                            ·
                             rw [if_neg c67] at H
                             exact absurd H (by simp)
                           ·
                            rw [if_neg c66] at H
                            exact absurd H (by simp)
                          ·
                           rw [if_neg c65] at H
                           have c65b0 : decide ((wrap64 (((rd_T27 y832 x9_3).f1) + (t855.length : Int))) ≤ 6000) = false := decide_eq_false c65
                           clear c65
                           (first | rw [c65b0] | (simp only [i64_w, i32_w]; rw [c65b0]) | skip)
                           have H' := Aside0.mk H
                           clear H
                           have p854 : 0 ≤ (x13_6 : Int) := of_decide_eq_true (by first | (with_reducible assumption) | assumption)
                           have q854 : x13_6 < (x5_8.length : Int) := of_decide_eq_true (by first | (with_reducible assumption) | assumption)
                           obtain ⟨ad854, e854, hx854_0⟩ := Kd.at_int (Kd.R_reads' HO_5.out).2.2 x13_6 p854 q854
                           obtain rfl : ad843 = ad854 := (by injection e854)
                           replace p854 := eq_true p854
                           replace q854 := eq_true q854
                           go_wp2_with (first | ((with_reducible refine gate_callee (f := 107) rfl ?_); refine goesL_ (some 113) rfl rfl Try.func107 (by kernel_rfl) rfl #[.slice none 0 0, .int .i64 (rd l1 x7_2), .int .i64 (rd x5_8 x13_6)] rfl (by (try simp only [List.map_toArray, List.map_cons, List.map_nil]); first | done | rfl | (simp only [List.length_drop, List.length_take]; rfl)) ?_; (refine (herbariumref1_List_Write.calls k6 (fun k_ => some k_ = (.slice none 0 0 : Value).ownBlock) (.slice none 0 0) ([] : List Int) (rd l1 x7_2) (rd x5_8 x13_6) t855 w _ ?side1 ?side2 A63.out).mono ?_); (case side1 => repeat (first | (with_reducible first | exact HB.out | apply below_alloc | apply pw_below_drewN | apply below_drew1 | refine below_set ?_ GE818.out | refine below_set ?_ GE838.out | refine below_set ?_ GE847.out | refine below_set ?_ GE851.out) | exact HB.out)); (case side2 => exact Kd.R_nil _ _ _ _ _); rintro e w85 ⟨v856, rfl, ho0, hb, hkp⟩; refine ⟨_, rfl, ?_⟩; have n0_ := Aside0.mk (Kd.R_mono (ok' := fun k_ => True) (Kd.R_keptB (HO_5.out) hkp (fun k_ hk_ hs_ => (fun e_ => by simp [Value.ownBlock] at e_) hs_)) (fun k_ hk_ => trivial)); have n1_ := Aside0.mk (Kd.R_mono (ok' := fun k_ => k_ ≠ gb838 ∧ k_ ≠ gb847 ∧ k_ ≠ gb851) (Kd.R_keptB (HO_6.out) hkp (fun k_ hk_ hs_ => (fun e_ => by simp [Value.ownBlock] at e_) hs_)) (fun k_ hk_ => ⟨hk_.1.1.1, hk_.1.1.2, hk_.1.2⟩)); have n2_ := Aside0.mk (Kd.R_mono (ok' := fun k_ => some k_ ≠ (v856 : Value).ownBlock) (Kd.R_keptB (HO_12.out) hkp (fun k_ hk_ hs_ => (fun e_ => by simp [Value.ownBlock] at e_) hs_)) (fun k_ hk_ => fun e_ => Or.elim (ho0.1 k_ e_.symm) (fun hs_ => hk_.2.1 hs_) (fun hn_ => Nat.not_le.2 hk_.2.2 hn_))); have n3_ := Aside0.mk (blk_kept (g := gb818) (o := .cells #[.slice A0_0 l0_0.length c0_0, .slice A0_1 l0_1.length c0_1] 25 (0, 0)) (by (with_reducible repeat (first | refine blk_drewN ?_ _ | refine blk_drew ?_ | refine blk_alloc ?_ _)); exact BK818.out) hkp (fun hs_ => (fun e_ => by simp [Value.ownBlock] at e_) hs_)); have n4_ := Aside0.mk (blk_kept (g := gb838) (o := .cells #[.string ((rd_T27 y832 x9_3).f0), .int .i64 ((rd_T27 y832 x9_3).f1)] 27 (0, 0)) (by (with_reducible repeat (first | refine blk_drewN ?_ _ | refine blk_drew ?_ | refine blk_alloc ?_ _)); exact BK838.out) hkp (fun hs_ => (fun e_ => by simp [Value.ownBlock] at e_) hs_)); have n5_ := Aside0.mk (blk_kept (g := gb847) (o := .cells #[.string t844, .int .i64 t845] 27 (0, 0)) (by (with_reducible repeat (first | refine blk_drewN ?_ _ | refine blk_drew ?_ | refine blk_alloc ?_ _)); exact BK847.out) hkp (fun hs_ => (fun e_ => by simp [Value.ownBlock] at e_) hs_)); have n6_ := Aside0.mk (blk_kept (g := gb851) (o := .cells #[.string (⟨#[]⟩ : ByteArray), .int .i64 0] 27 (0, 0)) (by (with_reducible repeat (first | refine blk_drewN ?_ _ | refine blk_drew ?_ | refine blk_alloc ?_ _)); exact BK851.out) hkp (fun hs_ => (fun e_ => by simp [Value.ownBlock] at e_) hs_)); have n7_ := Aside0.mk (Kd.R_mono (ok' := fun k_ => some k_ ≠ (u12 : Value).ownBlock) ho0 (fun k_ hk_ => Or.elim hk_ (fun hs_ => absurd hs_ (by simp [Value.ownBlock])) (fun hn_ => (Kd.fresh' (Kd.R_lt (by (with_reducible repeat (first | apply Kd.R_alloc | apply Kd.R_drewN | apply Kd.R_drew)); exact HO_12.out)) k_ hn_)))); have n8_ := Aside0.mk (hb); clear HO_5; clear HO_6; clear HO_12; clear BK818; clear BK838; clear BK847; clear BK851; clear HB; have HO_5 := n0_; have HO_6 := n1_; have HO_12 := n2_; have BK818 := n3_; have BK838 := n4_; have BK847 := n5_; have BK851 := n6_; have HO857 := n7_; have HB := n8_; clear n0_ n1_ n2_ n3_ n4_ n5_ n6_ n7_ n8_; (try clear hb); (try clear hkp); (try clear ho0); obtain ⟨Ao86, co86, eo86⟩ := Kd.R_slice HO857.out; subst eo86; have hnb87 := NB838_818.out; have hnc87 := NB818_838.out; have hnb88 := NB838_847.out; have hnc88 := NB847_838.out; have hnb89 := NB838_851.out; have hnc89 := NB851_838.out; have hcz90_0 : w85.cell? ⟨gb838, 0, none⟩ = some (.string ((rd_T27 y832 x9_3).f0)) := (blk_cell BK838.out 0).trans rfl; have hcz90_1 : w85.cell? ⟨gb838, 1, none⟩ = some (.int .i64 ((rd_T27 y832 x9_3).f1)) := (blk_cell BK838.out 1).trans rfl; have hfz90_0 := blk_frozen BK838.out 0; have hfz90_1 := blk_frozen BK838.out 1))
                           go_meet
                           case rel => exact ⟨_, (2), (0), ((t855.length : Int)), ((⟨#[]⟩ : ByteArray)), (0), (by first | rfl | (simp; done) | (simp [*]; done)), (by first | rfl | (simp; done) | (simp [*]; done)), (by first | rfl | (simp; done) | (simp [*]; done)), H', ⟨by have := HJ8.out; have := HK2.out; have := HK3.out; have := HJ27.out; have := HJ35.out; have := HK6.out; first | omega | exact Nat.le_refl _⟩, ⟨by (with_reducible repeat (first | apply Kd.R_alloc | apply Kd.R_drewN | apply Kd.R_drew)); exact HO_5.out⟩, ⟨by (with_reducible repeat (first | apply Kd.R_alloc | apply Kd.R_drewN | apply Kd.R_drew)); exact HO_6.out⟩, ⟨by (with_reducible repeat (first | apply Kd.R_alloc | apply Kd.R_drewN | apply Kd.R_drew)); exact Kd.R_mono HO_12.out (fun _ hk => trivial)⟩, ⟨by (with_reducible repeat (first | refine blk_drewN ?_ _ | refine blk_drew ?_ | refine blk_alloc ?_ _)); exact BK818.out⟩, ⟨by (with_reducible repeat (first | refine blk_drewN ?_ _ | refine blk_drew ?_ | refine blk_alloc ?_ _)); exact BK838.out⟩, ⟨by (with_reducible repeat (first | refine blk_drewN ?_ _ | refine blk_drew ?_ | refine blk_alloc ?_ _)); exact BK847.out⟩, ⟨by (with_reducible repeat (first | refine blk_drewN ?_ _ | refine blk_drew ?_ | refine blk_alloc ?_ _)); exact BK851.out⟩, ⟨by repeat (first | (with_reducible first | exact HB.out | apply below_alloc | apply pw_below_drewN | apply below_drew1 | refine below_set ?_ GE818.out | refine below_set ?_ GE838.out | refine below_set ?_ GE847.out | refine below_set ?_ GE851.out) | exact HB.out)⟩⟩
                         ·
                          replace c64 := Bool.eq_false_iff.mpr c64
                          subst c64
                          have H1 : (herbariumlaw2_kinds.j6 k6 l1 x5_8 y832 x7_2 (rd l1 x7_2) x9_3 false x12_35 x13_6 t846 t849 t850 1 0 (t855.length : Int) ((rd_T27 y832 x9_3).f0) ((rd_T27 y832 x9_3).f1) t844 t845 (⟨#[]⟩ : ByteArray) 0) = some true := by rw [if_neg (show ¬ (false = true) by decide)] at H; exact H
                          clear H
                          have H := H1
                          clear H1
                          have H' := Aside0.mk H
                          clear H
                          have p854 : 0 ≤ (x13_6 : Int) := of_decide_eq_true (by first | (with_reducible assumption) | assumption)
                          have q854 : x13_6 < (x5_8.length : Int) := of_decide_eq_true (by first | (with_reducible assumption) | assumption)
                          obtain ⟨ad854, e854, hx854_0⟩ := Kd.at_int (Kd.R_reads' HO_5.out).2.2 x13_6 p854 q854
                          obtain rfl : ad843 = ad854 := (by injection e854)
                          replace p854 := eq_true p854
                          replace q854 := eq_true q854
                          go_wp2_with (first | ((with_reducible refine gate_callee (f := 107) rfl ?_); refine goesL_ (some 113) rfl rfl Try.func107 (by kernel_rfl) rfl #[.slice none 0 0, .int .i64 (rd l1 x7_2), .int .i64 (rd x5_8 x13_6)] rfl (by (try simp only [List.map_toArray, List.map_cons, List.map_nil]); first | done | rfl | (simp only [List.length_drop, List.length_take]; rfl)) ?_; (refine (herbariumref1_List_Write.calls k6 (fun k_ => some k_ = (.slice none 0 0 : Value).ownBlock) (.slice none 0 0) ([] : List Int) (rd l1 x7_2) (rd x5_8 x13_6) t855 w _ ?side1 ?side2 A63.out).mono ?_); (case side1 => repeat (first | (with_reducible first | exact HB.out | apply below_alloc | apply pw_below_drewN | apply below_drew1 | refine below_set ?_ GE818.out | refine below_set ?_ GE838.out | refine below_set ?_ GE847.out | refine below_set ?_ GE851.out) | exact HB.out)); (case side2 => exact Kd.R_nil _ _ _ _ _); rintro e w91 ⟨v856, rfl, ho0, hb, hkp⟩; refine ⟨_, rfl, ?_⟩; have n0_ := Aside0.mk (Kd.R_mono (ok' := fun k_ => True) (Kd.R_keptB (HO_5.out) hkp (fun k_ hk_ hs_ => (fun e_ => by simp [Value.ownBlock] at e_) hs_)) (fun k_ hk_ => trivial)); have n1_ := Aside0.mk (Kd.R_mono (ok' := fun k_ => k_ ≠ gb838 ∧ k_ ≠ gb847 ∧ k_ ≠ gb851) (Kd.R_keptB (HO_6.out) hkp (fun k_ hk_ hs_ => (fun e_ => by simp [Value.ownBlock] at e_) hs_)) (fun k_ hk_ => ⟨hk_.1.1.1, hk_.1.1.2, hk_.1.2⟩)); have n2_ := Aside0.mk (Kd.R_mono (ok' := fun k_ => some k_ ≠ (v856 : Value).ownBlock) (Kd.R_keptB (HO_12.out) hkp (fun k_ hk_ hs_ => (fun e_ => by simp [Value.ownBlock] at e_) hs_)) (fun k_ hk_ => fun e_ => Or.elim (ho0.1 k_ e_.symm) (fun hs_ => hk_.2.1 hs_) (fun hn_ => Nat.not_le.2 hk_.2.2 hn_))); have n3_ := Aside0.mk (blk_kept (g := gb818) (o := .cells #[.slice A0_0 l0_0.length c0_0, .slice A0_1 l0_1.length c0_1] 25 (0, 0)) (by (with_reducible repeat (first | refine blk_drewN ?_ _ | refine blk_drew ?_ | refine blk_alloc ?_ _)); exact BK818.out) hkp (fun hs_ => (fun e_ => by simp [Value.ownBlock] at e_) hs_)); have n4_ := Aside0.mk (blk_kept (g := gb838) (o := .cells #[.string ((rd_T27 y832 x9_3).f0), .int .i64 ((rd_T27 y832 x9_3).f1)] 27 (0, 0)) (by (with_reducible repeat (first | refine blk_drewN ?_ _ | refine blk_drew ?_ | refine blk_alloc ?_ _)); exact BK838.out) hkp (fun hs_ => (fun e_ => by simp [Value.ownBlock] at e_) hs_)); have n5_ := Aside0.mk (blk_kept (g := gb847) (o := .cells #[.string t844, .int .i64 t845] 27 (0, 0)) (by (with_reducible repeat (first | refine blk_drewN ?_ _ | refine blk_drew ?_ | refine blk_alloc ?_ _)); exact BK847.out) hkp (fun hs_ => (fun e_ => by simp [Value.ownBlock] at e_) hs_)); have n6_ := Aside0.mk (blk_kept (g := gb851) (o := .cells #[.string (⟨#[]⟩ : ByteArray), .int .i64 0] 27 (0, 0)) (by (with_reducible repeat (first | refine blk_drewN ?_ _ | refine blk_drew ?_ | refine blk_alloc ?_ _)); exact BK851.out) hkp (fun hs_ => (fun e_ => by simp [Value.ownBlock] at e_) hs_)); have n7_ := Aside0.mk (Kd.R_mono (ok' := fun k_ => some k_ ≠ (u12 : Value).ownBlock) ho0 (fun k_ hk_ => Or.elim hk_ (fun hs_ => absurd hs_ (by simp [Value.ownBlock])) (fun hn_ => (Kd.fresh' (Kd.R_lt (by (with_reducible repeat (first | apply Kd.R_alloc | apply Kd.R_drewN | apply Kd.R_drew)); exact HO_12.out)) k_ hn_)))); have n8_ := Aside0.mk (hb); clear HO_5; clear HO_6; clear HO_12; clear BK818; clear BK838; clear BK847; clear BK851; clear HB; have HO_5 := n0_; have HO_6 := n1_; have HO_12 := n2_; have BK818 := n3_; have BK838 := n4_; have BK847 := n5_; have BK851 := n6_; have HO857 := n7_; have HB := n8_; clear n0_ n1_ n2_ n3_ n4_ n5_ n6_ n7_ n8_; (try clear hb); (try clear hkp); (try clear ho0); obtain ⟨Ao92, co92, eo92⟩ := Kd.R_slice HO857.out; subst eo92))
                          go_meet
                          case rel => exact ⟨_, (1), (0), ((t855.length : Int)), ((⟨#[]⟩ : ByteArray)), (0), (by first | rfl | (simp; done) | (simp [*]; done)), (by first | rfl | (simp; done) | (simp [*]; done)), (by first | rfl | (simp; done) | (simp [*]; done)), H', ⟨by have := HJ8.out; have := HK2.out; have := HK3.out; have := HJ27.out; have := HJ35.out; have := HK6.out; first | omega | exact Nat.le_refl _⟩, ⟨by (with_reducible repeat (first | apply Kd.R_alloc | apply Kd.R_drewN | apply Kd.R_drew)); exact HO_5.out⟩, ⟨by (with_reducible repeat (first | apply Kd.R_alloc | apply Kd.R_drewN | apply Kd.R_drew)); exact HO_6.out⟩, ⟨by (with_reducible repeat (first | apply Kd.R_alloc | apply Kd.R_drewN | apply Kd.R_drew)); exact Kd.R_mono HO_12.out (fun _ hk => trivial)⟩, ⟨by (with_reducible repeat (first | refine blk_drewN ?_ _ | refine blk_drew ?_ | refine blk_alloc ?_ _)); exact BK818.out⟩, ⟨by (with_reducible repeat (first | refine blk_drewN ?_ _ | refine blk_drew ?_ | refine blk_alloc ?_ _)); exact BK838.out⟩, ⟨by (with_reducible repeat (first | refine blk_drewN ?_ _ | refine blk_drew ?_ | refine blk_alloc ?_ _)); exact BK847.out⟩, ⟨by (with_reducible repeat (first | refine blk_drewN ?_ _ | refine blk_drew ?_ | refine blk_alloc ?_ _)); exact BK851.out⟩, ⟨by repeat (first | (with_reducible first | exact HB.out | apply below_alloc | apply pw_below_drewN | apply below_drew1 | refine below_set ?_ GE818.out | refine below_set ?_ GE838.out | refine below_set ?_ GE847.out | refine below_set ?_ GE851.out) | exact HB.out)⟩⟩
                        ·
                         replace c62 := Bool.eq_false_iff.mpr c62
                         subst c62
                         have H1 : (herbariumlaw2_kinds.j6 k6 l1 x5_8 y832 x7_2 (rd l1 x7_2) x9_3 t839 x12_35 x13_6 t846 t849 t850 1 1 0 ((rd_T27 y832 x9_3).f0) ((rd_T27 y832 x9_3).f1) t844 t845 (⟨#[]⟩ : ByteArray) 0) = some true := by rw [if_neg (show ¬ (false = true) by decide)] at H; exact H
                         clear H
                         have H := H1
                         clear H1
                         have H' := Aside0.mk H
                         clear H
                         go_wp2
                         go_meet
                         case rel => exact ⟨_, (1), (1), (0), ((⟨#[]⟩ : ByteArray)), (0), (by first | rfl | (simp; done) | (simp [*]; done)), (by first | rfl | (simp; done) | (simp [*]; done)), (by first | rfl | (simp; done) | (simp [*]; done)), H', ⟨by have := HJ8.out; have := HK2.out; have := HK3.out; have := HJ27.out; have := HJ35.out; have := HK6.out; first | omega | exact Nat.le_refl _⟩, ⟨by (with_reducible repeat (first | apply Kd.R_alloc | apply Kd.R_drewN | apply Kd.R_drew)); exact HO_5.out⟩, ⟨by (with_reducible repeat (first | apply Kd.R_alloc | apply Kd.R_drewN | apply Kd.R_drew)); exact Kd.R_mono HO_6.out (fun _ hk => ⟨hk.1.1, ⟨hk.1.2, hk.2⟩⟩)⟩, ⟨by (with_reducible repeat (first | apply Kd.R_alloc | apply Kd.R_drewN | apply Kd.R_drew)); exact HO_12.out⟩, ⟨by (with_reducible repeat (first | refine blk_drewN ?_ _ | refine blk_drew ?_ | refine blk_alloc ?_ _)); exact BK818.out⟩, ⟨by (with_reducible repeat (first | refine blk_drewN ?_ _ | refine blk_drew ?_ | refine blk_alloc ?_ _)); exact BK838.out⟩, ⟨by (with_reducible repeat (first | refine blk_drewN ?_ _ | refine blk_drew ?_ | refine blk_alloc ?_ _)); exact BK847.out⟩, ⟨by (with_reducible repeat (first | refine blk_drewN ?_ _ | refine blk_drew ?_ | refine blk_alloc ?_ _)); exact BK851.out⟩, ⟨by repeat (first | (with_reducible first | exact HB.out | apply below_alloc | apply pw_below_drewN | apply below_drew1 | refine below_set ?_ GE818.out | refine below_set ?_ GE838.out | refine below_set ?_ GE847.out | refine below_set ?_ GE851.out) | exact HB.out)⟩⟩
                       case rest => as_aux_lemma =>
                        clear HC52
                        (try clear c1); (try clear c2); (try clear p2); (try clear q2); (try clear c3); (try clear c4); (try clear c5); (try clear c6); (try clear p6); (try clear c7); (try clear c8); (try clear p8); (try clear q8); (try clear hx8); (try clear c10); (try clear c18); (try clear c18b0); (try clear c18b1); (try clear c19); (try clear c19b0); (try clear c19b1); (try clear q20); (try clear c21); (try clear c26); (try clear c26b0); (try clear c27); (try clear c27b0); (try clear c29); (try clear c29b0); (try clear c32); (try clear c33); (try clear c33b0); (try clear c34); (try clear c34b0)
                        (try clear c39); (try clear c42); (try clear c44); (try clear c47); (try clear c47b0); (try clear c48); (try clear c48b0); (try clear c56); (try clear c58); (try clear c62); (try clear c64); (try clear p64); (try clear c65); (try clear c65b0); (try clear c66); (try clear c67); (try clear c71); (try clear c72); (try clear c73); (try clear c82); (try clear c83); (try clear p83); (try clear q83); (try clear hx83); (try clear p84); (try clear q84); (try clear hx84); (try clear p85); (try clear q85); (try clear hx85); (try clear c87); (try clear c88); (try clear c89); (try clear hcz11_0)
                        (try clear hcz11_1); (try clear hcz15_0); (try clear hcz15_1); (try clear hcz24_0); (try clear hcz24_1); (try clear hcz40_0); (try clear hcz40_1); (try clear hcz45_0); (try clear hcz45_1); (try clear hcz6_0); (try clear hcz6_1); (try clear hcz74_0); (try clear hcz74_1); (try clear hcz84_0); (try clear hcz84_1); (try clear hcz90_0); (try clear hcz90_1); (try clear hfz11_0); (try clear hfz11_1); (try clear hfz15_0); (try clear hfz15_1); (try clear hfz24_0); (try clear hfz24_1); (try clear hfz40_0); (try clear hfz40_1); (try clear hfz45_0); (try clear hfz45_1); (try clear hfz6_0)
                        (try clear hfz6_1); (try clear hfz74_0); (try clear hfz74_1); (try clear hfz84_0); (try clear hfz84_1); (try clear hfz90_0); (try clear hfz90_1); (try clear hx836_0); (try clear hx837_0); (try clear hx837_1); (try clear hx843_0); (try clear hx848_0); (try clear hx852_0); (try clear hx854_0); (try clear p2); (try clear p8); (try clear p836); (try clear p837); (try clear p843); (try clear p848); (try clear p852); (try clear p854); (try clear q2); (try clear q20); (try clear q8); (try clear q836); (try clear q837); (try clear q843); (try clear q848); (try clear q852); (try clear q854)
                        (try clear HA); (try clear HJ51); (try clear HO_5); (try clear HO_6); (try clear HO_12); (try clear BK818); (try clear BK838); (try clear BK847); (try clear BK851); (try clear HB)
                        obtain ⟨kq, x18_51, x19_51, x20_51, x852000_51, x852001_51, rfl, rfl, rfl, HA, HJ51, HO_5, HO_6, HO_12, BK818, BK838, BK847, BK851, HB⟩ := hcut
                        cases kq with
                        | zero => exact absurd HA.out (by simp [herbariumlaw2_kinds.j6])
                        | succ kj51 =>
                         have H := HA.out
                         clear HA
                         simp only [herbariumlaw2_kinds.j6] at H
                         replace H := Option.bind_eq_some_iff.mp H
                         obtain ⟨t869, A930, H⟩ := H
                         replace H : (if t869 = x18_51 then (if (!(t844.toList == x852000_51.toList) || (!(t845 == x852001_51))) = true then (some false) else ((herbariumlaw2_num.f t850).bind fun t870 => (if t870 = x19_51 then (if t849 = x20_51 then (herbariumlaw2_kinds.l2 kj51 l1 x5_8 y832 x7_2 (rd l1 x7_2) x9_3 t839 x12_35 (wrap64 (x13_6 + 1)) ((rd_T27 y832 x9_3).f0) ((rd_T27 y832 x9_3).f1)) else (some false)) else (some false)))) else (some false)) = some true := H
                         have A93 := Aside0.mk A930
                         clear A930
                         by_cases c94 : t869 = x18_51
                         ·
                          rw [if_pos c94] at H
                          have c94b0 : (t869 == x18_51) = true := beq_iff_eq.mpr c94
                          have c94b1 : (t869 != x18_51) = false := bne_eq_false_iff_eq.mpr c94
                          clear c94
                          by_cases c95 : (!(t844.toList == x852000_51.toList) || (!(t845 == x852001_51))) = true
                          ·
                           rw [if_pos c95] at H
                           have c95b0 : (!(t844.toList == x852000_51.toList) || (!(t845 == x852001_51))) = true := c95
                           clear c95
                           exact absurd (Option.some.inj H) (by decide)
                          ·
                           rw [if_neg c95] at H
                           have c95b0 : (!(t844.toList == x852000_51.toList) || (!(t845 == x852001_51))) = false := by simpa using c95
                           clear c95
                           replace H := Option.bind_eq_some_iff.mp H
                           obtain ⟨t870, A1030, H⟩ := H
                           replace H : (if t870 = x19_51 then (if t849 = x20_51 then (herbariumlaw2_kinds.l2 kj51 l1 x5_8 y832 x7_2 (rd l1 x7_2) x9_3 t839 x12_35 (wrap64 (x13_6 + 1)) ((rd_T27 y832 x9_3).f0) ((rd_T27 y832 x9_3).f1)) else (some false)) else (some false)) = some true := H
                           have A103 := Aside0.mk A1030
                           clear A1030
                           by_cases c104 : t870 = x19_51
                           ·
                            rw [if_pos c104] at H
                            have c104b0 : (t870 == x19_51) = true := beq_iff_eq.mpr c104
                            have c104b1 : (t870 != x19_51) = false := bne_eq_false_iff_eq.mpr c104
                            clear c104
                            by_cases c105 : t849 = x20_51
                            ·
                             rw [if_pos c105] at H
                             have c105b0 : (t849 == x20_51) = true := beq_iff_eq.mpr c105
                             have c105b1 : (t849 != x20_51) = false := bne_eq_false_iff_eq.mpr c105
                             clear c105
                             have H' := Aside0.mk H
                             clear H
                             go_wp2_with (first | ((with_reducible refine gate_callee (f := 59) rfl ?_); refine goesL_ (some 130) rfl rfl Try.func59 (by kernel_rfl) rfl #[.int .i64 t846] rfl (by (try simp only [List.map_toArray, List.map_cons, List.map_nil]); first | done | rfl | (simp only [List.length_drop, List.length_take]; rfl)) ?_; (with_reducible refine (herbariumlaw2_num.calls t846 t869 _ A93.out).mono ?_); rintro e w' ⟨rfl, ⟨nd, rfl⟩⟩; refine ⟨_, rfl, ?_⟩; have hnb106 := NB847_818.out; have hnc106 := NB818_847.out; have hnb107 := NB847_838.out; have hnc107 := NB838_847.out; have hnb108 := NB847_851.out; have hnc108 := NB851_847.out; have hcz109_0 : wc.cell? ⟨gb847, 0, none⟩ = some (.string t844) := (blk_cell BK847.out 0).trans rfl; have hcz109_1 : wc.cell? ⟨gb847, 1, none⟩ = some (.int .i64 t845) := (blk_cell BK847.out 1).trans rfl; have hfz109_0 := blk_frozen BK847.out 0; have hfz109_1 := blk_frozen BK847.out 1; have hnb110 := NB851_818.out; have hnc110 := NB818_851.out; have hnb111 := NB851_838.out; have hnc111 := NB838_851.out; have hcz112_0 : wc.cell? ⟨gb851, 0, none⟩ = some (.string x852000_51) := (blk_cell BK851.out 0).trans rfl; have hcz112_1 : wc.cell? ⟨gb851, 1, none⟩ = some (.int .i64 x852001_51) := (blk_cell BK851.out 1).trans rfl; have hfz112_0 := blk_frozen BK851.out 0; have hfz112_1 := blk_frozen BK851.out 1) | (go_at_call 59; (with_reducible refine (herbariumlaw2_num.calls t850 t870 _ A103.out).mono ?_); rintro e w' ⟨rfl, ⟨nd, rfl⟩⟩))
                             go_roundg kj51
                             case measure => have := HJ8.out; have := HK2.out; have := HK3.out; have := HJ27.out; have := HJ35.out; have := HK6.out; have := HJ51.out; omega
                             case rel => exact ⟨(wrap64 (x13_6 + 1)), (by first | rfl | (simp; done) | (simp [*]; done)), H', ⟨by have := HJ8.out; have := HK2.out; have := HK3.out; have := HJ27.out; have := HJ35.out; have := HK6.out; have := HJ51.out; omega⟩, ⟨by (with_reducible repeat (first | apply Kd.R_alloc | apply Kd.R_drewN | apply Kd.R_drew)); exact HO_5.out⟩, ⟨by (with_reducible repeat (first | apply Kd.R_alloc | apply Kd.R_drewN | apply Kd.R_drew)); exact Kd.R_mono HO_6.out (fun _ hk => hk.1)⟩, ⟨by (with_reducible repeat (first | apply Kd.R_alloc | apply Kd.R_drewN | apply Kd.R_drew)); exact HO_12.out⟩, ⟨by (with_reducible repeat (first | refine blk_drewN ?_ _ | refine blk_drew ?_ | refine blk_alloc ?_ _)); exact BK818.out⟩, ⟨by (with_reducible repeat (first | refine blk_drewN ?_ _ | refine blk_drew ?_ | refine blk_alloc ?_ _)); exact BK838.out⟩, ⟨by repeat (first | (with_reducible first | exact HB.out | apply below_alloc | apply pw_below_drewN | apply below_drew1 | refine below_set ?_ GE818.out | refine below_set ?_ GE838.out | refine below_set ?_ GE847.out | refine below_set ?_ GE851.out) | exact HB.out)⟩⟩
                            ·
                             rw [if_neg c105] at H
                             have c105b0 : (t849 == x20_51) = false := beq_eq_false_iff_ne.mpr c105
                             have c105b1 : (t849 != x20_51) = true := bne_iff_ne.mpr c105
                             exact absurd (Option.some.inj H) (by decide)
                           ·
                            rw [if_neg c104] at H
                            have c104b0 : (t870 == x19_51) = false := beq_eq_false_iff_ne.mpr c104
                            have c104b1 : (t870 != x19_51) = true := bne_iff_ne.mpr c104
                            exact absurd (Option.some.inj H) (by decide)
                         ·
                          rw [if_neg c94] at H
                          have c94b0 : (t869 == x18_51) = false := beq_eq_false_iff_ne.mpr c94
                          have c94b1 : (t869 != x18_51) = true := bne_iff_ne.mpr c94
                          exact absurd (Option.some.inj H) (by decide)
                      ·
                       rw [if_neg c48] at H
                       exact absurd H (by simp)
                     ·
                      rw [if_neg c47] at H
                      have c47b0 : decide (x13_6 < (x5_8.length : Int)) = false := decide_eq_false c47
                      clear c47
                      have H' := Aside0.mk H
                      clear H
                      obtain ⟨Ao127, co127, eo127⟩ := Kd.R_slice HO_5.out
                      subst eo127
                      go_wp2
                      go_loopg [23] k6 (fun kq v23 w' => ∃ (x23_7 : Int), v23 = .int .i64 x23_7 ∧ Aside0 (herbariumlaw2_kinds.l3 kq l1 x5_8 y832 x7_2 (rd l1 x7_2) x9_3 t839 x12_35 x23_7 ((rd_T27 y832 x9_3).f0) ((rd_T27 y832 x9_3).f1) = some true) ∧ Aside0 (kq ≤ k6) ∧ Aside0 (Kd.R (Kd.int .i64) 3 w' w.heap.size (fun _ => True) (.slice Ao127 x5_8.length co127) x5_8) ∧ Aside0 (Kd.R k27 27 w' w.heap.size (fun k_ => k_ ≠ gb838) (.slice (some ad837) y832.length co37) y832) ∧ Aside0 (Kd.R (Kd.int .u8) 5 w' w.heap.size (fun _ => True) u12 x12_35) ∧ Aside0 (w'.heap[gb818]? = some (.cells #[(.slice A0_0 l0_0.length c0_0), (.slice A0_1 l0_1.length c0_1)] 25 (0, 0))) ∧ Aside0 (w'.heap[gb838]? = some (.cells #[.string ((rd_T27 y832 x9_3).f0), .int .i64 ((rd_T27 y832 x9_3).f1)] 27 (0, 0))) ∧ Aside0 (Below w.heap.size w w'))
                      case atStart => exact ⟨((-1)), (by first | rfl | (simp; done) | (simp [*]; done)), H', ⟨Nat.le_refl _⟩, ⟨by (with_reducible repeat (first | apply Kd.R_alloc | apply Kd.R_drewN | apply Kd.R_drew)); exact HO_5.out⟩, ⟨by (with_reducible repeat (first | apply Kd.R_alloc | apply Kd.R_drewN | apply Kd.R_drew)); exact HO_6.out⟩, ⟨by (with_reducible repeat (first | apply Kd.R_alloc | apply Kd.R_drewN | apply Kd.R_drew)); exact HO_12.out⟩, ⟨by (with_reducible repeat (first | refine blk_drewN ?_ _ | refine blk_drew ?_ | refine blk_alloc ?_ _)); exact BK818.out⟩, ⟨by (with_reducible repeat (first | refine blk_drewN ?_ _ | refine blk_drew ?_ | refine blk_alloc ?_ _)); exact BK838.out⟩, ⟨by repeat (first | (with_reducible first | exact HB.out | apply below_alloc | apply pw_below_drewN | apply below_drew1 | refine below_set ?_ GE818.out | refine below_set ?_ GE838.out) | exact HB.out)⟩⟩
                      case round => as_aux_lemma =>
                       clear H'
                       (try clear c1); (try clear c2); (try clear p2); (try clear q2); (try clear c3); (try clear c4); (try clear c5); (try clear c6); (try clear p6); (try clear c7); (try clear c8); (try clear p8); (try clear q8); (try clear hx8); (try clear c9); (try clear c10); (try clear c11); (try clear c12); (try clear c18); (try clear c18b0); (try clear c18b1); (try clear c19); (try clear c19b0); (try clear c19b1); (try clear q20); (try clear c21); (try clear c26); (try clear c26b0); (try clear c27); (try clear c27b0); (try clear c29); (try clear c29b0); (try clear c32); (try clear c33); (try clear c33b0)
                       (try clear c34); (try clear c34b0); (try clear c39); (try clear c42); (try clear c44); (try clear c47); (try clear c47b0); (try clear c48); (try clear c48b0); (try clear c56); (try clear c58); (try clear c59); (try clear c62); (try clear c64); (try clear p64); (try clear c65); (try clear c65b0); (try clear c66); (try clear c67); (try clear c71); (try clear c72); (try clear c73); (try clear c82); (try clear c83); (try clear p83); (try clear q83); (try clear hx83); (try clear p84); (try clear q84); (try clear hx84); (try clear p85); (try clear q85); (try clear hx85); (try clear c87)
                       (try clear c88); (try clear c89); (try clear c94); (try clear c94b0); (try clear c94b1); (try clear c95); (try clear c95b0); (try clear c96); (try clear c97); (try clear c98); (try clear c100); (try clear c101); (try clear c104); (try clear c104b0); (try clear c104b1); (try clear c105); (try clear c105b0); (try clear c105b1); (try clear c106); (try clear c107); (try clear c108); (try clear c110); (try clear c111); (try clear c113); (try clear c114); (try clear c115); (try clear c117); (try clear c118); (try clear c120); (try clear c121); (try clear c122); (try clear c124)
                       (try clear c125); (try clear hcz102_0); (try clear hcz102_1); (try clear hcz109_0); (try clear hcz109_1); (try clear hcz112_0); (try clear hcz112_1); (try clear hcz116_0); (try clear hcz116_1); (try clear hcz119_0); (try clear hcz119_1); (try clear hcz11_0); (try clear hcz11_1); (try clear hcz123_0); (try clear hcz123_1); (try clear hcz126_0); (try clear hcz126_1); (try clear hcz15_0); (try clear hcz15_1); (try clear hcz24_0); (try clear hcz24_1); (try clear hcz40_0); (try clear hcz40_1); (try clear hcz45_0); (try clear hcz45_1); (try clear hcz6_0); (try clear hcz6_1); (try clear hcz74_0)
                       (try clear hcz74_1); (try clear hcz84_0); (try clear hcz84_1); (try clear hcz90_0); (try clear hcz90_1); (try clear hcz99_0); (try clear hcz99_1); (try clear hfz102_0); (try clear hfz102_1); (try clear hfz109_0); (try clear hfz109_1); (try clear hfz112_0); (try clear hfz112_1); (try clear hfz116_0); (try clear hfz116_1); (try clear hfz119_0); (try clear hfz119_1); (try clear hfz11_0); (try clear hfz11_1); (try clear hfz123_0); (try clear hfz123_1); (try clear hfz126_0); (try clear hfz126_1); (try clear hfz15_0); (try clear hfz15_1); (try clear hfz24_0); (try clear hfz24_1)
                       (try clear hfz40_0); (try clear hfz40_1); (try clear hfz45_0); (try clear hfz45_1); (try clear hfz6_0); (try clear hfz6_1); (try clear hfz74_0); (try clear hfz74_1); (try clear hfz84_0); (try clear hfz84_1); (try clear hfz90_0); (try clear hfz90_1); (try clear hfz99_0); (try clear hfz99_1); (try clear hx836_0); (try clear hx837_0); (try clear hx837_1); (try clear hx843_0); (try clear hx848_0); (try clear hx852_0); (try clear hx854_0); (try clear p2); (try clear p6); (try clear p64); (try clear p8); (try clear p83); (try clear p836); (try clear p837); (try clear p84); (try clear p843)
                       (try clear p848); (try clear p85); (try clear p852); (try clear p854); (try clear q2); (try clear q20); (try clear q8); (try clear q83); (try clear q836); (try clear q837); (try clear q84); (try clear q843); (try clear q848); (try clear q85); (try clear q852); (try clear q854); (try clear HA); (try clear HK7); (try clear HO_5); (try clear HO_6); (try clear HO_12); (try clear BK818); (try clear BK838); (try clear HB)
                       obtain ⟨x23_7, rfl, HA, HK7, HO_5, HO_6, HO_12, BK818, BK838, HB⟩ := hrel
                       cases gk with
                       | zero => exact absurd HA.out (by simp [herbariumlaw2_kinds.l3])
                       | succ k7 =>
                        have H := HA.out
                        clear HA
                        simp only [herbariumlaw2_kinds.l3] at H
                        have HC128 := Aside0.mk H
                        clear H
                        go_upto_region 36 with (fail)
                        go_cut [157] (fun v157 wc => ∃ (kq : Nat) (x157_127 : Bool), v157 = .bool x157_127 ∧ Aside0 (herbariumlaw2_kinds.j8 kq l1 x5_8 y832 x7_2 (rd l1 x7_2) x9_3 t839 x12_35 x23_7 x157_127 ((rd_T27 y832 x9_3).f0) ((rd_T27 y832 x9_3).f1) = some true) ∧ Aside0 (kq ≤ k7) ∧ Aside0 (Kd.R (Kd.int .i64) 3 wc w.heap.size (fun _ => True) (.slice Ao127 x5_8.length co127) x5_8) ∧ Aside0 (Kd.R k27 27 wc w.heap.size (fun k_ => k_ ≠ gb838) (.slice (some ad837) y832.length co37) y832) ∧ Aside0 (Kd.R (Kd.int .u8) 5 wc w.heap.size (fun _ => True) u12 x12_35) ∧ Aside0 (wc.heap[gb818]? = some (.cells #[(.slice A0_0 l0_0.length c0_0), (.slice A0_1 l0_1.length c0_1)] 25 (0, 0))) ∧ Aside0 (wc.heap[gb838]? = some (.cells #[.string ((rd_T27 y832 x9_3).f0), .int .i64 ((rd_T27 y832 x9_3).f1)] 27 (0, 0))) ∧ Aside0 (Below w.heap.size w wc))
                        case first => as_aux_lemma =>
                         have H := HC128.out
                         clear HC128
                         by_cases c129 : x23_7 ≤ (wrap64 (((rd_T27 y832 x9_3).f1) + 1))
                         ·
                          rw [if_pos c129] at H
                          have c129b0 : decide (x23_7 ≤ (wrap64 (((rd_T27 y832 x9_3).f1) + 1))) = true := decide_eq_true c129
                          clear c129
                          (first | rw [c129b0] | (simp only [i64_w, i32_w]; rw [c129b0]) | skip)
                          have H' := Aside0.mk H
                          clear H
                          have hnb130 := NB838_818.out
                          have hnc130 := NB818_838.out
                          have hcz131_0 : wr.cell? ⟨gb838, 0, none⟩ = some (.string ((rd_T27 y832 x9_3).f0)) := (blk_cell BK838.out 0).trans rfl
                          have hcz131_1 : wr.cell? ⟨gb838, 1, none⟩ = some (.int .i64 ((rd_T27 y832 x9_3).f1)) := (blk_cell BK838.out 1).trans rfl
                          have hfz131_0 := blk_frozen BK838.out 0
                          have hfz131_1 := blk_frozen BK838.out 1
                          go_wp2
                          go_meet
                          case rel => exact ⟨_, (decide (x23_7 < 60)), (by first | rfl | (simp; done) | (simp [*]; done)), H', ⟨by have := HJ8.out; have := HK2.out; have := HK3.out; have := HJ27.out; have := HJ35.out; have := HK6.out; have := HK7.out; first | omega | exact Nat.le_refl _⟩, ⟨by (with_reducible repeat (first | apply Kd.R_alloc | apply Kd.R_drewN | apply Kd.R_drew)); exact HO_5.out⟩, ⟨by (with_reducible repeat (first | apply Kd.R_alloc | apply Kd.R_drewN | apply Kd.R_drew)); exact HO_6.out⟩, ⟨by (with_reducible repeat (first | apply Kd.R_alloc | apply Kd.R_drewN | apply Kd.R_drew)); exact HO_12.out⟩, ⟨by (with_reducible repeat (first | refine blk_drewN ?_ _ | refine blk_drew ?_ | refine blk_alloc ?_ _)); exact BK818.out⟩, ⟨by (with_reducible repeat (first | refine blk_drewN ?_ _ | refine blk_drew ?_ | refine blk_alloc ?_ _)); exact BK838.out⟩, ⟨by repeat (first | (with_reducible first | exact HB.out | apply below_alloc | apply pw_below_drewN | apply below_drew1 | refine below_set ?_ GE818.out | refine below_set ?_ GE838.out) | exact HB.out)⟩⟩
                         ·
                          rw [if_neg c129] at H
                          have c129b0 : decide (x23_7 ≤ (wrap64 (((rd_T27 y832 x9_3).f1) + 1))) = false := decide_eq_false c129
                          clear c129
                          (first | rw [c129b0] | (simp only [i64_w, i32_w]; rw [c129b0]) | skip)
                          have H' := Aside0.mk H
                          clear H
                          have hnb132 := NB838_818.out
                          have hnc132 := NB818_838.out
                          have hcz133_0 : wr.cell? ⟨gb838, 0, none⟩ = some (.string ((rd_T27 y832 x9_3).f0)) := (blk_cell BK838.out 0).trans rfl
                          have hcz133_1 : wr.cell? ⟨gb838, 1, none⟩ = some (.int .i64 ((rd_T27 y832 x9_3).f1)) := (blk_cell BK838.out 1).trans rfl
                          have hfz133_0 := blk_frozen BK838.out 0
                          have hfz133_1 := blk_frozen BK838.out 1
                          go_wp2
                          go_meet
                          case rel => exact ⟨_, (false), (by first | rfl | (simp; done) | (simp [*]; done)), H', ⟨by have := HJ8.out; have := HK2.out; have := HK3.out; have := HJ27.out; have := HJ35.out; have := HK6.out; have := HK7.out; first | omega | exact Nat.le_refl _⟩, ⟨by (with_reducible repeat (first | apply Kd.R_alloc | apply Kd.R_drewN | apply Kd.R_drew)); exact HO_5.out⟩, ⟨by (with_reducible repeat (first | apply Kd.R_alloc | apply Kd.R_drewN | apply Kd.R_drew)); exact HO_6.out⟩, ⟨by (with_reducible repeat (first | apply Kd.R_alloc | apply Kd.R_drewN | apply Kd.R_drew)); exact HO_12.out⟩, ⟨by (with_reducible repeat (first | refine blk_drewN ?_ _ | refine blk_drew ?_ | refine blk_alloc ?_ _)); exact BK818.out⟩, ⟨by (with_reducible repeat (first | refine blk_drewN ?_ _ | refine blk_drew ?_ | refine blk_alloc ?_ _)); exact BK838.out⟩, ⟨by repeat (first | (with_reducible first | exact HB.out | apply below_alloc | apply pw_below_drewN | apply below_drew1 | refine below_set ?_ GE818.out | refine below_set ?_ GE838.out) | exact HB.out)⟩⟩
                        case rest => as_aux_lemma =>
                         clear HC128
                         (try clear c1); (try clear c2); (try clear p2); (try clear q2); (try clear c3); (try clear c4); (try clear c5); (try clear c6); (try clear p6); (try clear c7); (try clear c8); (try clear p8); (try clear q8); (try clear hx8); (try clear c9); (try clear c10); (try clear c11); (try clear c12); (try clear c13); (try clear c18); (try clear c18b0); (try clear c18b1); (try clear c19); (try clear c19b0); (try clear c19b1); (try clear q20); (try clear c21); (try clear c26); (try clear c26b0); (try clear c27); (try clear c27b0); (try clear c29); (try clear c29b0); (try clear c32)
                         (try clear c33); (try clear c33b0); (try clear c34); (try clear c34b0); (try clear c39); (try clear c42); (try clear c44); (try clear c47); (try clear c47b0); (try clear c48); (try clear c48b0); (try clear c56); (try clear c58); (try clear c59); (try clear c62); (try clear c64); (try clear p64); (try clear c65); (try clear c65b0); (try clear c66); (try clear c67); (try clear c71); (try clear c72); (try clear c73); (try clear c82); (try clear c83); (try clear p83); (try clear q83); (try clear hx83); (try clear p84); (try clear q84); (try clear hx84); (try clear p85); (try clear q85)
                         (try clear hx85); (try clear c87); (try clear c88); (try clear c89); (try clear c94); (try clear c94b0); (try clear c94b1); (try clear c95); (try clear c95b0); (try clear c96); (try clear c97); (try clear c98); (try clear c100); (try clear c101); (try clear c104); (try clear c104b0); (try clear c104b1); (try clear c105); (try clear c105b0); (try clear c105b1); (try clear c106); (try clear c107); (try clear c108); (try clear c110); (try clear c111); (try clear c113); (try clear c114); (try clear c115); (try clear c117); (try clear c118); (try clear c120); (try clear c121)
                         (try clear c122); (try clear c124); (try clear c125); (try clear c129); (try clear c129b0); (try clear c130); (try clear c132); (try clear hcz102_0); (try clear hcz102_1); (try clear hcz109_0); (try clear hcz109_1); (try clear hcz112_0); (try clear hcz112_1); (try clear hcz116_0); (try clear hcz116_1); (try clear hcz119_0); (try clear hcz119_1); (try clear hcz11_0); (try clear hcz11_1); (try clear hcz123_0); (try clear hcz123_1); (try clear hcz126_0); (try clear hcz126_1); (try clear hcz131_0); (try clear hcz131_1); (try clear hcz133_0); (try clear hcz133_1); (try clear hcz15_0)
                         (try clear hcz15_1); (try clear hcz24_0); (try clear hcz24_1); (try clear hcz40_0); (try clear hcz40_1); (try clear hcz45_0); (try clear hcz45_1); (try clear hcz6_0); (try clear hcz6_1); (try clear hcz74_0); (try clear hcz74_1); (try clear hcz84_0); (try clear hcz84_1); (try clear hcz90_0); (try clear hcz90_1); (try clear hcz99_0); (try clear hcz99_1); (try clear hfz102_0); (try clear hfz102_1); (try clear hfz109_0); (try clear hfz109_1); (try clear hfz112_0); (try clear hfz112_1); (try clear hfz116_0); (try clear hfz116_1); (try clear hfz119_0); (try clear hfz119_1); (try clear hfz11_0)
                         (try clear hfz11_1); (try clear hfz123_0); (try clear hfz123_1); (try clear hfz126_0); (try clear hfz126_1); (try clear hfz131_0); (try clear hfz131_1); (try clear hfz133_0); (try clear hfz133_1); (try clear hfz15_0); (try clear hfz15_1); (try clear hfz24_0); (try clear hfz24_1); (try clear hfz40_0); (try clear hfz40_1); (try clear hfz45_0); (try clear hfz45_1); (try clear hfz6_0); (try clear hfz6_1); (try clear hfz74_0); (try clear hfz74_1); (try clear hfz84_0); (try clear hfz84_1); (try clear hfz90_0); (try clear hfz90_1); (try clear hfz99_0); (try clear hfz99_1); (try clear hx836_0)
                         (try clear hx837_0); (try clear hx837_1); (try clear hx843_0); (try clear hx848_0); (try clear hx852_0); (try clear hx854_0); (try clear p2); (try clear p6); (try clear p64); (try clear p8); (try clear p83); (try clear p836); (try clear p837); (try clear p84); (try clear p843); (try clear p848); (try clear p85); (try clear p852); (try clear p854); (try clear q2); (try clear q20); (try clear q8); (try clear q83); (try clear q836); (try clear q837); (try clear q84); (try clear q843); (try clear q848); (try clear q85); (try clear q852); (try clear q854); (try clear HA); (try clear HJ127)
                         (try clear HO_5); (try clear HO_6); (try clear HO_12); (try clear BK818); (try clear BK838); (try clear HB)
                         obtain ⟨kq, x157_127, rfl, HA, HJ127, HO_5, HO_6, HO_12, BK818, BK838, HB⟩ := hcut
                         cases kq with
                         | zero => exact absurd HA.out (by simp [herbariumlaw2_kinds.j8])
                         | succ kj127 =>
                          have H := HA.out
                          clear HA
                          simp only [herbariumlaw2_kinds.j8] at H
                          by_cases c134 : x157_127 = true
                          ·
                           subst c134
                           have H1 : ((code_Take.f kj127 ((rd_T27 y832 x9_3).f0) ((rd_T27 y832 x9_3).f1) x23_7 (rd l1 x7_2)).bind fun bt871 => (if t839 = true then ((herbariumref0_Num.f x23_7 ((rd_T27 y832 x9_3).f1)).bind fun t874 => (if t874 = true then ((herbariumref0_Between.f (rd l1 x7_2) 1 5).bind fun t875 => (herbariumlaw2_kinds.j9 kj127 l1 x5_8 y832 x7_2 (rd l1 x7_2) x9_3 t839 x12_35 x23_7 bt871.1 bt871.2.1 bt871.2.2 1 0 0 t875 ((rd_T27 y832 x9_3).f0) ((rd_T27 y832 x9_3).f1))) else (herbariumlaw2_kinds.j9 kj127 l1 x5_8 y832 x7_2 (rd l1 x7_2) x9_3 t839 x12_35 x23_7 bt871.1 bt871.2.1 bt871.2.2 1 0 0 false ((rd_T27 y832 x9_3).f0) ((rd_T27 y832 x9_3).f1)))) else (herbariumlaw2_kinds.j9 kj127 l1 x5_8 y832 x7_2 (rd l1 x7_2) x9_3 t839 x12_35 x23_7 bt871.1 bt871.2.1 bt871.2.2 1 0 0 false ((rd_T27 y832 x9_3).f0) ((rd_T27 y832 x9_3).f1)))) = some true := by rw [if_pos rfl] at H; exact H
                           clear H
                           have H := H1
                           clear H1
                           replace H := Option.bind_eq_some_iff.mp H
                           obtain ⟨⟨t871, t872, t873⟩, A1350, H⟩ := H
                           replace H : (if t839 = true then ((herbariumref0_Num.f x23_7 ((rd_T27 y832 x9_3).f1)).bind fun t874 => (if t874 = true then ((herbariumref0_Between.f (rd l1 x7_2) 1 5).bind fun t875 => (herbariumlaw2_kinds.j9 kj127 l1 x5_8 y832 x7_2 (rd l1 x7_2) x9_3 t839 x12_35 x23_7 t871 t872 t873 1 0 0 t875 ((rd_T27 y832 x9_3).f0) ((rd_T27 y832 x9_3).f1))) else (herbariumlaw2_kinds.j9 kj127 l1 x5_8 y832 x7_2 (rd l1 x7_2) x9_3 t839 x12_35 x23_7 t871 t872 t873 1 0 0 false ((rd_T27 y832 x9_3).f0) ((rd_T27 y832 x9_3).f1)))) else (herbariumlaw2_kinds.j9 kj127 l1 x5_8 y832 x7_2 (rd l1 x7_2) x9_3 t839 x12_35 x23_7 t871 t872 t873 1 0 0 false ((rd_T27 y832 x9_3).f0) ((rd_T27 y832 x9_3).f1))) = some true := H
                           have A135 := Aside0.mk A1350
                           clear A1350
                           have HC136 := Aside0.mk H
                           clear H
                           have hnb137 := NB838_818.out
                           have hnc137 := NB818_838.out
                           have hcz138_0 : wc.cell? ⟨gb838, 0, none⟩ = some (.string ((rd_T27 y832 x9_3).f0)) := (blk_cell BK838.out 0).trans rfl
                           have hcz138_1 : wc.cell? ⟨gb838, 1, none⟩ = some (.int .i64 ((rd_T27 y832 x9_3).f1)) := (blk_cell BK838.out 1).trans rfl
                           have hfz138_0 := blk_frozen BK838.out 0
                           have hfz138_1 := blk_frozen BK838.out 1
                           go_upto_region 40 with (first | ((with_reducible refine gate_callee (f := 61) rfl ?_); refine goesL_ (some 164) rfl rfl Try.func61 (by kernel_rfl) rfl #[.agg #[.string ((rd_T27 y832 x9_3).f0), .int .i64 ((rd_T27 y832 x9_3).f1)], .int .i64 x23_7, .int .i64 (rd l1 x7_2)] rfl (by (try simp only [List.map_toArray, List.map_cons, List.map_nil]); first | done | rfl | (simp only [List.length_drop, List.length_take]; rfl)) ?_; (with_reducible refine (code_Take.calls kj127 ((rd_T27 y832 x9_3).f0) ((rd_T27 y832 x9_3).f1) x23_7 (rd l1 x7_2) t871 t872 t873 _ A135.out).mono ?_); rintro e w139 ⟨rfl, hb⟩; refine ⟨_, rfl, ?_⟩; have n0_ := Aside0.mk (Kd.R_below (by (with_reducible repeat (first | apply Kd.R_alloc | apply Kd.R_drewN | apply Kd.R_drew)); exact HO_5.out) hb); have n1_ := Aside0.mk (Kd.R_below (by (with_reducible repeat (first | apply Kd.R_alloc | apply Kd.R_drewN | apply Kd.R_drew)); exact HO_6.out) hb); have n2_ := Aside0.mk (Kd.R_below (by (with_reducible repeat (first | apply Kd.R_alloc | apply Kd.R_drewN | apply Kd.R_drew)); exact HO_12.out) hb); have n3_ := Aside0.mk (blk_below (g := gb818) (o := .cells #[.slice A0_0 l0_0.length c0_0, .slice A0_1 l0_1.length c0_1] 25 (0, 0)) (by (with_reducible repeat (first | refine blk_drewN ?_ _ | refine blk_drew ?_ | refine blk_alloc ?_ _)); exact BK818.out) hb); have n4_ := Aside0.mk (blk_below (g := gb838) (o := .cells #[.string ((rd_T27 y832 x9_3).f0), .int .i64 ((rd_T27 y832 x9_3).f1)] 27 (0, 0)) (by (with_reducible repeat (first | refine blk_drewN ?_ _ | refine blk_drew ?_ | refine blk_alloc ?_ _)); exact BK838.out) hb); have n5_ := Aside0.mk (below_step (by repeat (first | (with_reducible first | exact HB.out | apply below_alloc | apply pw_below_drewN | apply below_drew1 | refine below_set ?_ GE818.out | refine below_set ?_ GE838.out) | exact HB.out)) hb); clear HO_5; clear HO_6; clear HO_12; clear BK818; clear BK838; clear HB; have HO_5 := n0_; have HO_6 := n1_; have HO_12 := n2_; have BK818 := n3_; have BK838 := n4_; have HB := n5_; clear n0_ n1_ n2_ n3_ n4_ n5_; (try clear hb); (try clear hb2); (try clear hk); (try clear hi)))
                           (try simp only [Act.put, List.setIfInBounds_toArray, List.set_cons_zero, List.set_cons_succ])
                           go_cut [178] (fun v178 wc => ∃ (kq : Nat) (x178_135 : Bool), v178 = .bool x178_135 ∧ Aside0 (herbariumlaw2_kinds.j9 kq l1 x5_8 y832 x7_2 (rd l1 x7_2) x9_3 t839 x12_35 x23_7 t871 t872 t873 1 0 0 x178_135 ((rd_T27 y832 x9_3).f0) ((rd_T27 y832 x9_3).f1) = some true) ∧ Aside0 (kq ≤ kj127) ∧ Aside0 (Kd.R (Kd.int .i64) 3 wc w.heap.size (fun _ => True) (.slice Ao127 x5_8.length co127) x5_8) ∧ Aside0 (Kd.R k27 27 wc w.heap.size (fun k_ => k_ ≠ gb838) (.slice (some ad837) y832.length co37) y832) ∧ Aside0 (Kd.R (Kd.int .u8) 5 wc w.heap.size (fun _ => True) u12 x12_35) ∧ Aside0 (wc.heap[gb818]? = some (.cells #[(.slice A0_0 l0_0.length c0_0), (.slice A0_1 l0_1.length c0_1)] 25 (0, 0))) ∧ Aside0 (wc.heap[gb838]? = some (.cells #[.string ((rd_T27 y832 x9_3).f0), .int .i64 ((rd_T27 y832 x9_3).f1)] 27 (0, 0))) ∧ Aside0 (Below w.heap.size w wc))
                           case first => as_aux_lemma =>
                            have H := HC136.out
                            clear HC136
                            by_cases c140 : t839 = true
                            ·
                             subst c140
                             have H1 : ((herbariumref0_Num.f x23_7 ((rd_T27 y832 x9_3).f1)).bind fun t874 => (if t874 = true then ((herbariumref0_Between.f (rd l1 x7_2) 1 5).bind fun t875 => (herbariumlaw2_kinds.j9 kj127 l1 x5_8 y832 x7_2 (rd l1 x7_2) x9_3 true x12_35 x23_7 t871 t872 t873 1 0 0 t875 ((rd_T27 y832 x9_3).f0) ((rd_T27 y832 x9_3).f1))) else (herbariumlaw2_kinds.j9 kj127 l1 x5_8 y832 x7_2 (rd l1 x7_2) x9_3 true x12_35 x23_7 t871 t872 t873 1 0 0 false ((rd_T27 y832 x9_3).f0) ((rd_T27 y832 x9_3).f1)))) = some true := by rw [if_pos rfl] at H; exact H
                             clear H
                             have H := H1
                             clear H1
                             replace H := Option.bind_eq_some_iff.mp H
                             obtain ⟨t874, A1410, H⟩ := H
                             replace H : (if t874 = true then ((herbariumref0_Between.f (rd l1 x7_2) 1 5).bind fun t875 => (herbariumlaw2_kinds.j9 kj127 l1 x5_8 y832 x7_2 (rd l1 x7_2) x9_3 true x12_35 x23_7 t871 t872 t873 1 0 0 t875 ((rd_T27 y832 x9_3).f0) ((rd_T27 y832 x9_3).f1))) else (herbariumlaw2_kinds.j9 kj127 l1 x5_8 y832 x7_2 (rd l1 x7_2) x9_3 true x12_35 x23_7 t871 t872 t873 1 0 0 false ((rd_T27 y832 x9_3).f0) ((rd_T27 y832 x9_3).f1))) = some true := H
                             have A141 := Aside0.mk A1410
                             clear A1410
                             by_cases c142 : t874 = true
                             ·
                              subst c142
                              have H1 : ((herbariumref0_Between.f (rd l1 x7_2) 1 5).bind fun t875 => (herbariumlaw2_kinds.j9 kj127 l1 x5_8 y832 x7_2 (rd l1 x7_2) x9_3 true x12_35 x23_7 t871 t872 t873 1 0 0 t875 ((rd_T27 y832 x9_3).f0) ((rd_T27 y832 x9_3).f1))) = some true := by rw [if_pos rfl] at H; exact H
                              clear H
                              have H := H1
                              clear H1
                              replace H := Option.bind_eq_some_iff.mp H
                              obtain ⟨t875, A1430, H⟩ := H
                              replace H : (herbariumlaw2_kinds.j9 kj127 l1 x5_8 y832 x7_2 (rd l1 x7_2) x9_3 true x12_35 x23_7 t871 t872 t873 1 0 0 t875 ((rd_T27 y832 x9_3).f0) ((rd_T27 y832 x9_3).f1)) = some true := H
                              have A143 := Aside0.mk A1430
                              clear A1430
                              have H' := Aside0.mk H
                              clear H
                              have hnb144 := NB838_818.out
                              have hnc144 := NB818_838.out
                              have hcz145_0 : w139.cell? ⟨gb838, 0, none⟩ = some (.string ((rd_T27 y832 x9_3).f0)) := (blk_cell BK838.out 0).trans rfl
                              have hcz145_1 : w139.cell? ⟨gb838, 1, none⟩ = some (.int .i64 ((rd_T27 y832 x9_3).f1)) := (blk_cell BK838.out 1).trans rfl
                              have hfz145_0 := blk_frozen BK838.out 0
                              have hfz145_1 := blk_frozen BK838.out 1
                              go_wp2_with (first | (go_at_call 53; (with_reducible refine (herbariumref0_Num.calls x23_7 ((rd_T27 y832 x9_3).f1) true _ A141.out).mono ?_); rintro e w' ⟨rfl, ⟨nd, rfl⟩⟩) | (go_at_call 48; (with_reducible refine (herbariumref0_Between.calls (rd l1 x7_2) 1 5 t875 _ A143.out).mono ?_); rintro e w' ⟨rfl, ⟨nd, rfl⟩⟩))
                              go_meet
                              case rel => exact ⟨_, (t875), (by first | rfl | (simp; done) | (simp [*]; done)), H', ⟨by have := HJ8.out; have := HK2.out; have := HK3.out; have := HJ27.out; have := HJ35.out; have := HK6.out; have := HK7.out; have := HJ127.out; first | omega | exact Nat.le_refl _⟩, ⟨by (with_reducible repeat (first | apply Kd.R_alloc | apply Kd.R_drewN | apply Kd.R_drew)); exact HO_5.out⟩, ⟨by (with_reducible repeat (first | apply Kd.R_alloc | apply Kd.R_drewN | apply Kd.R_drew)); exact HO_6.out⟩, ⟨by (with_reducible repeat (first | apply Kd.R_alloc | apply Kd.R_drewN | apply Kd.R_drew)); exact HO_12.out⟩, ⟨by (with_reducible repeat (first | refine blk_drewN ?_ _ | refine blk_drew ?_ | refine blk_alloc ?_ _)); exact BK818.out⟩, ⟨by (with_reducible repeat (first | refine blk_drewN ?_ _ | refine blk_drew ?_ | refine blk_alloc ?_ _)); exact BK838.out⟩, ⟨by repeat (first | (with_reducible first | exact HB.out | apply below_alloc | apply pw_below_drewN | apply below_drew1 | refine below_set ?_ GE818.out | refine below_set ?_ GE838.out) | exact HB.out)⟩⟩
                             ·
                              replace c142 := Bool.eq_false_iff.mpr c142
                              subst c142
                              have H1 : (herbariumlaw2_kinds.j9 kj127 l1 x5_8 y832 x7_2 (rd l1 x7_2) x9_3 true x12_35 x23_7 t871 t872 t873 1 0 0 false ((rd_T27 y832 x9_3).f0) ((rd_T27 y832 x9_3).f1)) = some true := by rw [if_neg (show ¬ (false = true) by decide)] at H; exact H
                              clear H
                              have H := H1
                              clear H1
                              have H' := Aside0.mk H
                              clear H
                              have hnb146 := NB838_818.out
                              have hnc146 := NB818_838.out
                              have hcz147_0 : w139.cell? ⟨gb838, 0, none⟩ = some (.string ((rd_T27 y832 x9_3).f0)) := (blk_cell BK838.out 0).trans rfl
                              have hcz147_1 : w139.cell? ⟨gb838, 1, none⟩ = some (.int .i64 ((rd_T27 y832 x9_3).f1)) := (blk_cell BK838.out 1).trans rfl
                              have hfz147_0 := blk_frozen BK838.out 0
                              have hfz147_1 := blk_frozen BK838.out 1
                              go_wp2_with (first | (go_at_call 53; (with_reducible refine (herbariumref0_Num.calls x23_7 ((rd_T27 y832 x9_3).f1) false _ A141.out).mono ?_); rintro e w' ⟨rfl, ⟨nd, rfl⟩⟩))
                              go_meet
                              case rel => exact ⟨_, (false), (by first | rfl | (simp; done) | (simp [*]; done)), H', ⟨by have := HJ8.out; have := HK2.out; have := HK3.out; have := HJ27.out; have := HJ35.out; have := HK6.out; have := HK7.out; have := HJ127.out; first | omega | exact Nat.le_refl _⟩, ⟨by (with_reducible repeat (first | apply Kd.R_alloc | apply Kd.R_drewN | apply Kd.R_drew)); exact HO_5.out⟩, ⟨by (with_reducible repeat (first | apply Kd.R_alloc | apply Kd.R_drewN | apply Kd.R_drew)); exact HO_6.out⟩, ⟨by (with_reducible repeat (first | apply Kd.R_alloc | apply Kd.R_drewN | apply Kd.R_drew)); exact HO_12.out⟩, ⟨by (with_reducible repeat (first | refine blk_drewN ?_ _ | refine blk_drew ?_ | refine blk_alloc ?_ _)); exact BK818.out⟩, ⟨by (with_reducible repeat (first | refine blk_drewN ?_ _ | refine blk_drew ?_ | refine blk_alloc ?_ _)); exact BK838.out⟩, ⟨by repeat (first | (with_reducible first | exact HB.out | apply below_alloc | apply pw_below_drewN | apply below_drew1 | refine below_set ?_ GE818.out | refine below_set ?_ GE838.out) | exact HB.out)⟩⟩
                            ·
                             replace c140 := Bool.eq_false_iff.mpr c140
                             subst c140
                             have H1 : (herbariumlaw2_kinds.j9 kj127 l1 x5_8 y832 x7_2 (rd l1 x7_2) x9_3 false x12_35 x23_7 t871 t872 t873 1 0 0 false ((rd_T27 y832 x9_3).f0) ((rd_T27 y832 x9_3).f1)) = some true := by rw [if_neg (show ¬ (false = true) by decide)] at H; exact H
                             clear H
                             have H := H1
                             clear H1
                             have H' := Aside0.mk H
                             clear H
                             go_wp2
                             go_meet
                             case rel => exact ⟨_, (false), (by first | rfl | (simp; done) | (simp [*]; done)), H', ⟨by have := HJ8.out; have := HK2.out; have := HK3.out; have := HJ27.out; have := HJ35.out; have := HK6.out; have := HK7.out; have := HJ127.out; first | omega | exact Nat.le_refl _⟩, ⟨by (with_reducible repeat (first | apply Kd.R_alloc | apply Kd.R_drewN | apply Kd.R_drew)); exact HO_5.out⟩, ⟨by (with_reducible repeat (first | apply Kd.R_alloc | apply Kd.R_drewN | apply Kd.R_drew)); exact HO_6.out⟩, ⟨by (with_reducible repeat (first | apply Kd.R_alloc | apply Kd.R_drewN | apply Kd.R_drew)); exact HO_12.out⟩, ⟨by (with_reducible repeat (first | refine blk_drewN ?_ _ | refine blk_drew ?_ | refine blk_alloc ?_ _)); exact BK818.out⟩, ⟨by (with_reducible repeat (first | refine blk_drewN ?_ _ | refine blk_drew ?_ | refine blk_alloc ?_ _)); exact BK838.out⟩, ⟨by repeat (first | (with_reducible first | exact HB.out | apply below_alloc | apply pw_below_drewN | apply below_drew1 | refine below_set ?_ GE818.out | refine below_set ?_ GE838.out) | exact HB.out)⟩⟩
                           case rest => as_aux_lemma =>
                            clear HC136
                            (try clear c1); (try clear c2); (try clear p2); (try clear q2); (try clear c3); (try clear c4); (try clear c5); (try clear c6); (try clear p6); (try clear c7); (try clear c8); (try clear p8); (try clear q8); (try clear hx8); (try clear c9); (try clear c10); (try clear c11); (try clear c12); (try clear c13); (try clear c14); (try clear c18); (try clear c18b0); (try clear c18b1); (try clear c19); (try clear c19b0); (try clear c19b1); (try clear q20); (try clear c21); (try clear c26); (try clear c26b0); (try clear c27); (try clear c27b0); (try clear c29); (try clear c29b0)
                            (try clear c32); (try clear c33); (try clear c33b0); (try clear c34); (try clear c34b0); (try clear c39); (try clear c42); (try clear c44); (try clear c47); (try clear c47b0); (try clear c48); (try clear c48b0); (try clear c56); (try clear c58); (try clear c59); (try clear c61); (try clear c62); (try clear c64); (try clear p64); (try clear c65); (try clear c65b0); (try clear c66); (try clear c67); (try clear c71); (try clear c72); (try clear c73); (try clear c82); (try clear c83); (try clear p83); (try clear q83); (try clear hx83); (try clear p84); (try clear q84); (try clear hx84)
                            (try clear p85); (try clear q85); (try clear hx85); (try clear c87); (try clear c88); (try clear c89); (try clear c94); (try clear c94b0); (try clear c94b1); (try clear c95); (try clear c95b0); (try clear c96); (try clear c97); (try clear c98); (try clear c100); (try clear c101); (try clear c104); (try clear c104b0); (try clear c104b1); (try clear c105); (try clear c105b0); (try clear c105b1); (try clear c106); (try clear c107); (try clear c108); (try clear c110); (try clear c111); (try clear c113); (try clear c114); (try clear c115); (try clear c117); (try clear c118)
                            (try clear c120); (try clear c121); (try clear c122); (try clear c124); (try clear c125); (try clear c129); (try clear c129b0); (try clear c130); (try clear c132); (try clear c134); (try clear c137); (try clear c140); (try clear c142); (try clear c144); (try clear c146); (try clear hcz102_0); (try clear hcz102_1); (try clear hcz109_0); (try clear hcz109_1); (try clear hcz112_0); (try clear hcz112_1); (try clear hcz116_0); (try clear hcz116_1); (try clear hcz119_0); (try clear hcz119_1); (try clear hcz11_0); (try clear hcz11_1); (try clear hcz123_0); (try clear hcz123_1)
                            (try clear hcz126_0); (try clear hcz126_1); (try clear hcz131_0); (try clear hcz131_1); (try clear hcz133_0); (try clear hcz133_1); (try clear hcz138_0); (try clear hcz138_1); (try clear hcz145_0); (try clear hcz145_1); (try clear hcz147_0); (try clear hcz147_1); (try clear hcz15_0); (try clear hcz15_1); (try clear hcz24_0); (try clear hcz24_1); (try clear hcz40_0); (try clear hcz40_1); (try clear hcz45_0); (try clear hcz45_1); (try clear hcz6_0); (try clear hcz6_1); (try clear hcz74_0); (try clear hcz74_1); (try clear hcz84_0); (try clear hcz84_1); (try clear hcz90_0)
                            (try clear hcz90_1); (try clear hcz99_0); (try clear hcz99_1); (try clear hfz102_0); (try clear hfz102_1); (try clear hfz109_0); (try clear hfz109_1); (try clear hfz112_0); (try clear hfz112_1); (try clear hfz116_0); (try clear hfz116_1); (try clear hfz119_0); (try clear hfz119_1); (try clear hfz11_0); (try clear hfz11_1); (try clear hfz123_0); (try clear hfz123_1); (try clear hfz126_0); (try clear hfz126_1); (try clear hfz131_0); (try clear hfz131_1); (try clear hfz133_0); (try clear hfz133_1); (try clear hfz138_0); (try clear hfz138_1); (try clear hfz145_0); (try clear hfz145_1)
                            (try clear hfz147_0); (try clear hfz147_1); (try clear hfz15_0); (try clear hfz15_1); (try clear hfz24_0); (try clear hfz24_1); (try clear hfz40_0); (try clear hfz40_1); (try clear hfz45_0); (try clear hfz45_1); (try clear hfz6_0); (try clear hfz6_1); (try clear hfz74_0); (try clear hfz74_1); (try clear hfz84_0); (try clear hfz84_1); (try clear hfz90_0); (try clear hfz90_1); (try clear hfz99_0); (try clear hfz99_1); (try clear hx836_0); (try clear hx837_0); (try clear hx837_1); (try clear hx843_0); (try clear hx848_0); (try clear hx852_0); (try clear hx854_0); (try clear p2)
                            (try clear p6); (try clear p64); (try clear p8); (try clear p83); (try clear p836); (try clear p837); (try clear p84); (try clear p843); (try clear p848); (try clear p85); (try clear p852); (try clear p854); (try clear q2); (try clear q20); (try clear q8); (try clear q83); (try clear q836); (try clear q837); (try clear q84); (try clear q843); (try clear q848); (try clear q85); (try clear q852); (try clear q854); (try clear HA); (try clear HJ135); (try clear HO_5); (try clear HO_6); (try clear HO_12); (try clear BK818); (try clear BK838); (try clear HB)
                            obtain ⟨kq, x178_135, rfl, HA, HJ135, HO_5, HO_6, HO_12, BK818, BK838, HB⟩ := hcut
                            cases kq with
                            | zero => exact absurd HA.out (by simp [herbariumlaw2_kinds.j9])
                            | succ kj135 =>
                             have H := HA.out
                             clear HA
                             simp only [herbariumlaw2_kinds.j9] at H
                             by_cases c148 : x178_135 = true
                             ·
                              subst c148
                              have H1 : ((herbariumref1_List_Read.f kj135 x12_35 x23_7 (rd l1 x7_2)).bind fun bt876 => (if bt876.1 ≥ 0 then ((herbariumlaw2_num.f t873).bind fun t878 => (if t878 = 0 then (if t871 = bt876.1 then (if t872 = bt876.2 then (herbariumlaw2_kinds.l3 kj135 l1 x5_8 y832 x7_2 (rd l1 x7_2) x9_3 t839 x12_35 (wrap64 (x23_7 + 1)) ((rd_T27 y832 x9_3).f0) ((rd_T27 y832 x9_3).f1)) else (some false)) else (some false)) else (some false))) else ((herbariumlaw2_num.f t873).bind fun t879 => (if t879 = 9 then (if t871 = 0 then (if t872 = 0 then (herbariumlaw2_kinds.l3 kj135 l1 x5_8 y832 x7_2 (rd l1 x7_2) x9_3 t839 x12_35 (wrap64 (x23_7 + 1)) ((rd_T27 y832 x9_3).f0) ((rd_T27 y832 x9_3).f1)) else (some false)) else (some false)) else (some false))))) = some true := by rw [if_pos rfl] at H; exact H
                              clear H
                              have H := H1
                              clear H1
                              replace H := Option.bind_eq_some_iff.mp H
                              obtain ⟨⟨t876, t877⟩, A1490, H⟩ := H
                              replace H : (if t876 ≥ 0 then ((herbariumlaw2_num.f t873).bind fun t878 => (if t878 = 0 then (if t871 = t876 then (if t872 = t877 then (herbariumlaw2_kinds.l3 kj135 l1 x5_8 y832 x7_2 (rd l1 x7_2) x9_3 t839 x12_35 (wrap64 (x23_7 + 1)) ((rd_T27 y832 x9_3).f0) ((rd_T27 y832 x9_3).f1)) else (some false)) else (some false)) else (some false))) else ((herbariumlaw2_num.f t873).bind fun t879 => (if t879 = 9 then (if t871 = 0 then (if t872 = 0 then (herbariumlaw2_kinds.l3 kj135 l1 x5_8 y832 x7_2 (rd l1 x7_2) x9_3 t839 x12_35 (wrap64 (x23_7 + 1)) ((rd_T27 y832 x9_3).f0) ((rd_T27 y832 x9_3).f1)) else (some false)) else (some false)) else (some false)))) = some true := H
                              have A149 := Aside0.mk A1490
                              clear A1490
                              by_cases c150 : t876 ≥ 0
                              ·
                               rw [if_pos c150] at H
                               have c150b0 : decide (0 ≤ t876) = true := decide_eq_true c150
                               clear c150
                               replace H := Option.bind_eq_some_iff.mp H
                               obtain ⟨t878, A1510, H⟩ := H
                               replace H : (if t878 = 0 then (if t871 = t876 then (if t872 = t877 then (herbariumlaw2_kinds.l3 kj135 l1 x5_8 y832 x7_2 (rd l1 x7_2) x9_3 t839 x12_35 (wrap64 (x23_7 + 1)) ((rd_T27 y832 x9_3).f0) ((rd_T27 y832 x9_3).f1)) else (some false)) else (some false)) else (some false)) = some true := H
                               have A151 := Aside0.mk A1510
                               clear A1510
                               by_cases c152 : t878 = 0
                               ·
                                rw [if_pos c152] at H
                                have c152b0 : (t878 == 0) = true := beq_iff_eq.mpr c152
                                have c152b1 : (t878 != 0) = false := bne_eq_false_iff_eq.mpr c152
                                clear c152
                                by_cases c153 : t871 = t876
                                ·
                                 rw [if_pos c153] at H
                                 have c153b0 : (t871 == t876) = true := beq_iff_eq.mpr c153
                                 have c153b1 : (t871 != t876) = false := bne_eq_false_iff_eq.mpr c153
                                 clear c153
                                 by_cases c154 : t872 = t877
                                 ·
                                  rw [if_pos c154] at H
                                  have c154b0 : (t872 == t877) = true := beq_iff_eq.mpr c154
                                  have c154b1 : (t872 != t877) = false := bne_eq_false_iff_eq.mpr c154
                                  clear c154
                                  have H' := Aside0.mk H
                                  clear H
                                  obtain ⟨Ao155, co155, eo155⟩ := Kd.R_slice HO_12.out
                                  subst eo155
                                  go_wp2_with (first | ((with_reducible refine gate_callee (f := 108) rfl ?_); refine goesL_ (some 183) rfl rfl Try.func108 (by kernel_rfl) rfl #[.slice Ao155 x12_35.length co155, .int .i64 x23_7, .int .i64 (rd l1 x7_2)] rfl (by (try simp only [List.map_toArray, List.map_cons, List.map_nil]); first | done | rfl | (simp only [List.length_drop, List.length_take]; rfl)) ?_; (with_reducible refine (herbariumref1_List_Read.calls kj135 _ _ x12_35 x23_7 (rd l1 x7_2) t876 t877 _ ?side1 ?side2 A149.out).mono ?_); (case side1 => repeat (first | exact (Kd.R_reads' HO_12.out).2.2 | (with_reducible refine Kd.C_alloc ?_ _) | (with_reducible refine Kd.C_drewN ?_ _) | (with_reducible refine Kd.C_drew ?_))); (case side2 => exact (Kd.R_reads' HO_12.out).2.1); rintro e w' ⟨rfl, ⟨nd, rfl⟩⟩; refine ⟨_, rfl, ?_⟩) | ((with_reducible refine gate_callee (f := 59) rfl ?_); refine goesL_ (some 191) rfl rfl Try.func59 (by kernel_rfl) rfl #[.int .i64 t873] rfl (by (try simp only [List.map_toArray, List.map_cons, List.map_nil]); first | done | rfl | (simp only [List.length_drop, List.length_take]; rfl)) ?_; (with_reducible refine (herbariumlaw2_num.calls t873 t878 _ A151.out).mono ?_); rintro e w' ⟨rfl, ⟨nd, rfl⟩⟩; refine ⟨_, rfl, ?_⟩))
                                  go_roundg kj135
                                  case measure => have := HJ8.out; have := HK2.out; have := HK3.out; have := HJ27.out; have := HJ35.out; have := HK6.out; have := HK7.out; have := HJ127.out; have := HJ135.out; omega
                                  case rel => exact ⟨(wrap64 (x23_7 + 1)), (by first | rfl | (simp; done) | (simp [*]; done)), H', ⟨by have := HJ8.out; have := HK2.out; have := HK3.out; have := HJ27.out; have := HJ35.out; have := HK6.out; have := HK7.out; have := HJ127.out; have := HJ135.out; omega⟩, ⟨by (with_reducible repeat (first | apply Kd.R_alloc | apply Kd.R_drewN | apply Kd.R_drew)); exact HO_5.out⟩, ⟨by (with_reducible repeat (first | apply Kd.R_alloc | apply Kd.R_drewN | apply Kd.R_drew)); exact HO_6.out⟩, ⟨by (with_reducible repeat (first | apply Kd.R_alloc | apply Kd.R_drewN | apply Kd.R_drew)); exact HO_12.out⟩, ⟨by (with_reducible repeat (first | refine blk_drewN ?_ _ | refine blk_drew ?_ | refine blk_alloc ?_ _)); exact BK818.out⟩, ⟨by (with_reducible repeat (first | refine blk_drewN ?_ _ | refine blk_drew ?_ | refine blk_alloc ?_ _)); exact BK838.out⟩, ⟨by repeat (first | (with_reducible first | exact HB.out | apply below_alloc | apply pw_below_drewN | apply below_drew1 | refine below_set ?_ GE818.out | refine below_set ?_ GE838.out) | exact HB.out)⟩⟩
                                 ·
                                  rw [if_neg c154] at H
                                  have c154b0 : (t872 == t877) = false := beq_eq_false_iff_ne.mpr c154
                                  have c154b1 : (t872 != t877) = true := bne_iff_ne.mpr c154
                                  exact absurd (Option.some.inj H) (by decide)
                                ·
                                 rw [if_neg c153] at H
                                 have c153b0 : (t871 == t876) = false := beq_eq_false_iff_ne.mpr c153
                                 have c153b1 : (t871 != t876) = true := bne_iff_ne.mpr c153
                                 exact absurd (Option.some.inj H) (by decide)
                               ·
                                rw [if_neg c152] at H
                                have c152b0 : (t878 == 0) = false := beq_eq_false_iff_ne.mpr c152
                                have c152b1 : (t878 != 0) = true := bne_iff_ne.mpr c152
                                exact absurd (Option.some.inj H) (by decide)
                              ·
                               rw [if_neg c150] at H
                               have c150b0 : decide (0 ≤ t876) = false := decide_eq_false c150
                               clear c150
                               replace H := Option.bind_eq_some_iff.mp H
                               obtain ⟨t879, A1590, H⟩ := H
                               replace H : (if t879 = 9 then (if t871 = 0 then (if t872 = 0 then (herbariumlaw2_kinds.l3 kj135 l1 x5_8 y832 x7_2 (rd l1 x7_2) x9_3 t839 x12_35 (wrap64 (x23_7 + 1)) ((rd_T27 y832 x9_3).f0) ((rd_T27 y832 x9_3).f1)) else (some false)) else (some false)) else (some false)) = some true := H
                               have A159 := Aside0.mk A1590
                               clear A1590
                               by_cases c160 : t879 = 9
                               ·
                                rw [if_pos c160] at H
                                have c160b0 : (t879 == 9) = true := beq_iff_eq.mpr c160
                                have c160b1 : (t879 != 9) = false := bne_eq_false_iff_eq.mpr c160
                                clear c160
                                by_cases c161 : t871 = 0
                                ·
                                 rw [if_pos c161] at H
                                 have c161b0 : (t871 == 0) = true := beq_iff_eq.mpr c161
                                 have c161b1 : (t871 != 0) = false := bne_eq_false_iff_eq.mpr c161
                                 clear c161
                                 by_cases c162 : t872 = 0
                                 ·
                                  rw [if_pos c162] at H
                                  have c162b0 : (t872 == 0) = true := beq_iff_eq.mpr c162
                                  have c162b1 : (t872 != 0) = false := bne_eq_false_iff_eq.mpr c162
                                  clear c162
                                  have H' := Aside0.mk H
                                  clear H
                                  obtain ⟨Ao163, co163, eo163⟩ := Kd.R_slice HO_12.out
                                  subst eo163
                                  go_wp2_with (first | ((with_reducible refine gate_callee (f := 108) rfl ?_); refine goesL_ (some 183) rfl rfl Try.func108 (by kernel_rfl) rfl #[.slice Ao163 x12_35.length co163, .int .i64 x23_7, .int .i64 (rd l1 x7_2)] rfl (by (try simp only [List.map_toArray, List.map_cons, List.map_nil]); first | done | rfl | (simp only [List.length_drop, List.length_take]; rfl)) ?_; (with_reducible refine (herbariumref1_List_Read.calls kj135 _ _ x12_35 x23_7 (rd l1 x7_2) t876 t877 _ ?side1 ?side2 A149.out).mono ?_); (case side1 => repeat (first | exact (Kd.R_reads' HO_12.out).2.2 | (with_reducible refine Kd.C_alloc ?_ _) | (with_reducible refine Kd.C_drewN ?_ _) | (with_reducible refine Kd.C_drew ?_))); (case side2 => exact (Kd.R_reads' HO_12.out).2.1); rintro e w' ⟨rfl, ⟨nd, rfl⟩⟩; refine ⟨_, rfl, ?_⟩) | ((with_reducible refine gate_callee (f := 59) rfl ?_); refine goesL_ (some 191) rfl rfl Try.func59 (by kernel_rfl) rfl #[.int .i64 t873] rfl (by (try simp only [List.map_toArray, List.map_cons, List.map_nil]); first | done | rfl | (simp only [List.length_drop, List.length_take]; rfl)) ?_; (with_reducible refine (herbariumlaw2_num.calls t873 t879 _ A159.out).mono ?_); rintro e w' ⟨rfl, ⟨nd, rfl⟩⟩; refine ⟨_, rfl, ?_⟩))
                                  go_roundg kj135
                                  case measure => have := HJ8.out; have := HK2.out; have := HK3.out; have := HJ27.out; have := HJ35.out; have := HK6.out; have := HK7.out; have := HJ127.out; have := HJ135.out; omega
                                  case rel => exact ⟨(wrap64 (x23_7 + 1)), (by first | rfl | (simp; done) | (simp [*]; done)), H', ⟨by have := HJ8.out; have := HK2.out; have := HK3.out; have := HJ27.out; have := HJ35.out; have := HK6.out; have := HK7.out; have := HJ127.out; have := HJ135.out; omega⟩, ⟨by (with_reducible repeat (first | apply Kd.R_alloc | apply Kd.R_drewN | apply Kd.R_drew)); exact HO_5.out⟩, ⟨by (with_reducible repeat (first | apply Kd.R_alloc | apply Kd.R_drewN | apply Kd.R_drew)); exact HO_6.out⟩, ⟨by (with_reducible repeat (first | apply Kd.R_alloc | apply Kd.R_drewN | apply Kd.R_drew)); exact HO_12.out⟩, ⟨by (with_reducible repeat (first | refine blk_drewN ?_ _ | refine blk_drew ?_ | refine blk_alloc ?_ _)); exact BK818.out⟩, ⟨by (with_reducible repeat (first | refine blk_drewN ?_ _ | refine blk_drew ?_ | refine blk_alloc ?_ _)); exact BK838.out⟩, ⟨by repeat (first | (with_reducible first | exact HB.out | apply below_alloc | apply pw_below_drewN | apply below_drew1 | refine below_set ?_ GE818.out | refine below_set ?_ GE838.out) | exact HB.out)⟩⟩
                                 ·
                                  rw [if_neg c162] at H
                                  have c162b0 : (t872 == 0) = false := beq_eq_false_iff_ne.mpr c162
                                  have c162b1 : (t872 != 0) = true := bne_iff_ne.mpr c162
                                  exact absurd (Option.some.inj H) (by decide)
                                ·
                                 rw [if_neg c161] at H
                                 have c161b0 : (t871 == 0) = false := beq_eq_false_iff_ne.mpr c161
                                 have c161b1 : (t871 != 0) = true := bne_iff_ne.mpr c161
                                 exact absurd (Option.some.inj H) (by decide)
                               ·
                                rw [if_neg c160] at H
                                have c160b0 : (t879 == 9) = false := beq_eq_false_iff_ne.mpr c160
                                have c160b1 : (t879 != 9) = true := bne_iff_ne.mpr c160
                                exact absurd (Option.some.inj H) (by decide)
                             ·
                              replace c148 := Bool.eq_false_iff.mpr c148
                              subst c148
                              have H1 : ((herbariumlaw2_num.f t873).bind fun t880 => (if t880 = 1 then (if t871 = 0 then (if t872 = 0 then (herbariumlaw2_kinds.l3 kj135 l1 x5_8 y832 x7_2 (rd l1 x7_2) x9_3 t839 x12_35 (wrap64 (x23_7 + 1)) ((rd_T27 y832 x9_3).f0) ((rd_T27 y832 x9_3).f1)) else (some false)) else (some false)) else (some false))) = some true := by rw [if_neg (show ¬ (false = true) by decide)] at H; exact H
                              clear H
                              have H := H1
                              clear H1
                              replace H := Option.bind_eq_some_iff.mp H
                              obtain ⟨t880, A1670, H⟩ := H
                              replace H : (if t880 = 1 then (if t871 = 0 then (if t872 = 0 then (herbariumlaw2_kinds.l3 kj135 l1 x5_8 y832 x7_2 (rd l1 x7_2) x9_3 t839 x12_35 (wrap64 (x23_7 + 1)) ((rd_T27 y832 x9_3).f0) ((rd_T27 y832 x9_3).f1)) else (some false)) else (some false)) else (some false)) = some true := H
                              have A167 := Aside0.mk A1670
                              clear A1670
                              by_cases c168 : t880 = 1
                              ·
                               rw [if_pos c168] at H
                               have c168b0 : (t880 == 1) = true := beq_iff_eq.mpr c168
                               have c168b1 : (t880 != 1) = false := bne_eq_false_iff_eq.mpr c168
                               clear c168
                               by_cases c169 : t871 = 0
                               ·
                                rw [if_pos c169] at H
                                have c169b0 : (t871 == 0) = true := beq_iff_eq.mpr c169
                                have c169b1 : (t871 != 0) = false := bne_eq_false_iff_eq.mpr c169
                                clear c169
                                by_cases c170 : t872 = 0
                                ·
                                 rw [if_pos c170] at H
                                 have c170b0 : (t872 == 0) = true := beq_iff_eq.mpr c170
                                 have c170b1 : (t872 != 0) = false := bne_eq_false_iff_eq.mpr c170
                                 clear c170
                                 have H' := Aside0.mk H
                                 clear H
                                 go_wp2_with (first | ((with_reducible refine gate_callee (f := 59) rfl ?_); refine goesL_ (some 191) rfl rfl Try.func59 (by kernel_rfl) rfl #[.int .i64 t873] rfl (by (try simp only [List.map_toArray, List.map_cons, List.map_nil]); first | done | rfl | (simp only [List.length_drop, List.length_take]; rfl)) ?_; (with_reducible refine (herbariumlaw2_num.calls t873 t880 _ A167.out).mono ?_); rintro e w' ⟨rfl, ⟨nd, rfl⟩⟩; refine ⟨_, rfl, ?_⟩))
                                 go_roundg kj135
                                 case measure => have := HJ8.out; have := HK2.out; have := HK3.out; have := HJ27.out; have := HJ35.out; have := HK6.out; have := HK7.out; have := HJ127.out; have := HJ135.out; omega
                                 case rel => exact ⟨(wrap64 (x23_7 + 1)), (by first | rfl | (simp; done) | (simp [*]; done)), H', ⟨by have := HJ8.out; have := HK2.out; have := HK3.out; have := HJ27.out; have := HJ35.out; have := HK6.out; have := HK7.out; have := HJ127.out; have := HJ135.out; omega⟩, ⟨by (with_reducible repeat (first | apply Kd.R_alloc | apply Kd.R_drewN | apply Kd.R_drew)); exact HO_5.out⟩, ⟨by (with_reducible repeat (first | apply Kd.R_alloc | apply Kd.R_drewN | apply Kd.R_drew)); exact HO_6.out⟩, ⟨by (with_reducible repeat (first | apply Kd.R_alloc | apply Kd.R_drewN | apply Kd.R_drew)); exact HO_12.out⟩, ⟨by (with_reducible repeat (first | refine blk_drewN ?_ _ | refine blk_drew ?_ | refine blk_alloc ?_ _)); exact BK818.out⟩, ⟨by (with_reducible repeat (first | refine blk_drewN ?_ _ | refine blk_drew ?_ | refine blk_alloc ?_ _)); exact BK838.out⟩, ⟨by repeat (first | (with_reducible first | exact HB.out | apply below_alloc | apply pw_below_drewN | apply below_drew1 | refine below_set ?_ GE818.out | refine below_set ?_ GE838.out) | exact HB.out)⟩⟩
                                ·
                                 rw [if_neg c170] at H
                                 have c170b0 : (t872 == 0) = false := beq_eq_false_iff_ne.mpr c170
                                 have c170b1 : (t872 != 0) = true := bne_iff_ne.mpr c170
                                 exact absurd (Option.some.inj H) (by decide)
                               ·
                                rw [if_neg c169] at H
                                have c169b0 : (t871 == 0) = false := beq_eq_false_iff_ne.mpr c169
                                have c169b1 : (t871 != 0) = true := bne_iff_ne.mpr c169
                                exact absurd (Option.some.inj H) (by decide)
                              ·
                               rw [if_neg c168] at H
                               have c168b0 : (t880 == 1) = false := beq_eq_false_iff_ne.mpr c168
                               have c168b1 : (t880 != 1) = true := bne_iff_ne.mpr c168
                               exact absurd (Option.some.inj H) (by decide)
                          ·
                           replace c134 := Bool.eq_false_iff.mpr c134
                           subst c134
                           have H1 : (herbariumlaw2_kinds.l1 kj127 l1 x5_8 y832 x7_2 (rd l1 x7_2) (wrap64 (x9_3 + 1))) = some true := by rw [if_neg (show ¬ (false = true) by decide)] at H; exact H
                           clear H
                           have H := H1
                           clear H1
                           have H' := Aside0.mk H
                           clear H
                           go_wp2
                           go_roundg kj127
                           case measure => have := HJ8.out; have := HK2.out; have := HK3.out; have := HJ27.out; have := HJ35.out; have := HK6.out; have := HK7.out; have := HJ127.out; omega
                           case rel => exact ⟨(wrap64 (x9_3 + 1)), (by first | rfl | (simp; done) | (simp [*]; done)), H', ⟨by have := HJ8.out; have := HK2.out; have := HK3.out; have := HJ27.out; have := HJ35.out; have := HK6.out; have := HK7.out; have := HJ127.out; omega⟩, ⟨by (with_reducible repeat (first | apply Kd.R_alloc | apply Kd.R_drewN | apply Kd.R_drew)); exact HO_5.out⟩, ⟨by (with_reducible repeat (first | apply Kd.R_alloc | apply Kd.R_drewN | apply Kd.R_drew)); exact Kd.R_mono HO_6.out (fun _ hk => trivial)⟩, ⟨by (with_reducible repeat (first | refine blk_drewN ?_ _ | refine blk_drew ?_ | refine blk_alloc ?_ _)); exact BK818.out⟩, ⟨by repeat (first | (with_reducible first | exact HB.out | apply below_alloc | apply pw_below_drewN | apply below_drew1 | refine below_set ?_ GE818.out | refine below_set ?_ GE838.out) | exact HB.out)⟩⟩
                ·
                 rw [if_neg c34] at H
                 exact absurd H (by simp)
               ·
                rw [if_neg c33] at H
                exact absurd H (by simp)
              ·
               replace c32 := Bool.eq_false_iff.mpr c32
               subst c32
               have H1 : (herbariumlaw2_kinds.l0 kj27 l1 x5_8 y832 (wrap64 (x7_2 + 1))) = some true := by rw [if_neg (show ¬ (false = true) by decide)] at H; exact H
               clear H
               have H := H1
               clear H1
               have H' := Aside0.mk H
               clear H
               go_wp2
               go_roundg kj27
               case measure => have := HJ8.out; have := HK2.out; have := HK3.out; have := HJ27.out; omega
               case rel => exact ⟨(wrap64 (x7_2 + 1)), (by first | rfl | (simp; done) | (simp [*]; done)), H', ⟨by have := HJ8.out; have := HK2.out; have := HK3.out; have := HJ27.out; omega⟩, ⟨by (with_reducible repeat (first | apply Kd.R_alloc | apply Kd.R_drewN | apply Kd.R_drew)); exact HO_5.out⟩, ⟨by (with_reducible repeat (first | apply Kd.R_alloc | apply Kd.R_drewN | apply Kd.R_drew)); exact HO_6.out⟩, ⟨by (with_reducible repeat (first | refine blk_drewN ?_ _ | refine blk_drew ?_ | refine blk_alloc ?_ _)); exact BK818.out⟩, ⟨by repeat (first | (with_reducible first | exact HB.out | apply below_alloc | apply pw_below_drewN | apply below_drew1 | refine below_set ?_ GE818.out) | exact HB.out)⟩⟩
         ·
          rw [if_neg c27] at H
          exact absurd H (by simp)
        ·
         rw [if_neg c26] at H
         have c26b0 : decide (x7_2 < (l1.length : Int)) = false := decide_eq_false c26
         clear c26
         replace H := Option.bind_eq_some_iff.mp H
         obtain ⟨t835, A1710, H⟩ := H
         replace H : (some t835) = some true := H
         have A171 := Aside0.mk A1710
         clear A1710
         obtain rfl := Option.some.inj H
         go_wp2_with (first | ((with_reducible refine gate_callee (f := 62) rfl ?_); refine goesL_ (some 204) rfl rfl Try.func62 (by kernel_rfl) rfl #[] rfl (by (try simp only [List.map_toArray, List.map_cons, List.map_nil]); first | done | rfl | (simp only [List.length_drop, List.length_take]; rfl)) ?_; (with_reducible refine (herbariumlaw2_wakes.calls k2  true _ A171.out).mono ?_); rintro e w172 ⟨rfl, hb⟩; refine ⟨_, rfl, ?_⟩; have n0_ := Aside0.mk (Kd.R_below (by (with_reducible repeat (first | apply Kd.R_alloc | apply Kd.R_drewN | apply Kd.R_drew)); exact HO_5.out) hb); have n1_ := Aside0.mk (Kd.R_below (by (with_reducible repeat (first | apply Kd.R_alloc | apply Kd.R_drewN | apply Kd.R_drew)); exact HO_6.out) hb); have n2_ := Aside0.mk (blk_below (g := gb818) (o := .cells #[.slice A0_0 l0_0.length c0_0, .slice A0_1 l0_1.length c0_1] 25 (0, 0)) (by (with_reducible repeat (first | refine blk_drewN ?_ _ | refine blk_drew ?_ | refine blk_alloc ?_ _)); exact BK818.out) hb); have n3_ := Aside0.mk (below_step (by repeat (first | (with_reducible first | exact HB.out | apply below_alloc | apply pw_below_drewN | apply below_drew1 | refine below_set ?_ GE818.out) | exact HB.out)) hb); clear HO_5; clear HO_6; clear BK818; clear HB; have HO_5 := n0_; have HO_6 := n1_; have BK818 := n2_; have HB := n3_; clear n0_ n1_ n2_ n3_; (try clear hb); (try clear hb2); (try clear hk); (try clear hi)))
         go_ret
         exact ⟨by first | rfl | (simp [errW_none, errW_some] <;> rfl) | (simp [*, errW_none, errW_some] <;> rfl), by repeat (first | (with_reducible first | exact HB.out | apply below_alloc | apply pw_below_drewN | apply below_drew1 | refine below_set ?_ GE818.out) | exact HB.out)⟩
     ·
      rw [if_neg c21] at H
      exact absurd H (by simp)
  ·
   rw [if_neg c8] at H
   exact absurd H (by simp)
end Go.Proofs.Ytnpghcikhpglkaa.Q
namespace Go.Proofs.Ytnpghcikhpglkaa.Q
open Go.RowKit Go.Proofs.YtnpghcikhpglkaaW.PrintWords Go.Proofs.YtnpghcikhpglkaaW.PrintLast Go.Proofs.YtnpghcikhpglkaaW.PrintMore
attribute [local go_sem] max2_int min2_int max_two min_two max_three min_three max_four min_four   -- for this text's walks alone
set_option linter.unusedVariables false
set_option linter.unusedSimpArgs false

/-! ### herbariumlaw2_CodeAny: function 12 -/
def herbariumlaw2_CodeAny.f (k : Nat) (l0_0 : List (S27)) (l0_1 : List Int) : Option (Bool) := (herbariumlaw2_kinds.f k l0_0 l0_1 (([0, 6, (-1)] : List Int))).bind fun t885 => (some t885)
theorem herbariumlaw2_CodeAny.mono : ∀ a0 a1 k, LeO (herbariumlaw2_CodeAny.f k a0 a1) (herbariumlaw2_CodeAny.f (k + 1) a0 a1) := by
  intro a0 a1 k
  unfold herbariumlaw2_CodeAny.f
  repeat' first
      | (with_reducible exact herbariumlaw2_kinds.mono _ _ _ _)
      | (with_reducible exact LeO.refl _)
      | (with_reducible exact LeO.none _)
      | (with_reducible refine LeO.ite ?_ ?_)
      | (with_reducible refine LeO.bind ?_ (fun _ => ?_))
      | exact herbariumlaw2_kinds.mono _ _ _ _
      | exact LeO.none _
      | refine LeO.ite ?_ ?_
      | refine LeO.bind ?_ (fun _ => ?_)
set_option maxHeartbeats 8000000 in
set_option maxRecDepth 100000 in
theorem herbariumlaw2_CodeAny.calls (k : Nat) (A0_0 : Option Addr) (c0_0 : Nat) (l0_0 : List (S27)) (A0_1 : Option Addr) (c0_1 : Nat) (l0_1 : List Int) (w : World) (hr0_0 : Kd.C k27 w A0_0 l0_0.length l0_0) (hc0_0 : l0_0.length ≤ c0_0) (hr0_1 : Kd.C (Kd.int .i64) w A0_1 l0_1.length l0_1) (hc0_1 : l0_1.length ≤ c0_1) (h : herbariumlaw2_CodeAny.f k l0_0 l0_1 = some true) :
    Calls Try.prog 12 #[.agg #[.slice A0_0 l0_0.length c0_0, .slice A0_1 l0_1.length c0_1]] w fun e w' => e = .returned (.bool true) ∧ Below w.heap.size w w' := by
  have hu25 := Try.underlying25
  have HR0_0 := Aside0.mk hr0_0
  have HC0_0 := Aside0.mk hc0_0
  clear hr0_0 hc0_0
  have HR0_1 := Aside0.mk hr0_1
  have HC0_1 := Aside0.mk hc0_1
  clear hr0_1 hc0_1
  have HB := Aside0.mk (Below.refl w.heap.size w)
  have H : ((herbariumlaw2_kinds.f k l0_0 l0_1 (([0, 6, (-1)] : List Int))).bind fun t885 => (some t885)) = some true := h
  clear h
  obtain ⟨y882, hy882⟩ : ∃ y_ : List Int, y_ = (([0, 6, (-1)] : List Int)) := ⟨_, rfl⟩
  replace H : ((herbariumlaw2_kinds.f k l0_0 l0_1 y882).bind fun t885 => (some t885)) = some true := by first | (rw [hy882]; with_reducible exact H) | (have H2_ := (Option.bind_some _ _).symm.trans H; rw [hy882]; with_reducible exact H2_) | (have H2_ := (Option.bind_some _ _).symm.trans H; with_reducible exact H2_) | with_reducible exact H | (rw [hy882]; exact H) | exact H
  have Ny882 := Aside0.mk hy882
  clear hy882
  replace H := Option.bind_eq_some_iff.mp H
  obtain ⟨t885, A20, H⟩ := H
  replace H : (some t885) = some true := H
  have A2 := Aside0.mk A20
  clear A20
  obtain rfl := Option.some.inj H
  go_enter Try.func12, Try.ntmps12
  go_wp2_with (first | ((with_reducible refine gate_dst (N := 1) rfl ?_); refine box_event ?hg (N := 1) ?hd (cs := #[.slice A0_0 l0_0.length c0_0, .slice A0_1 l0_1.length c0_1]) (t := 25) ?hr ?_; (case hd => rfl); (case hg => rfl); (case hr => first | (go_simp; done) | (go_simp; rfl)); intro gb881 hg w3 hbox hb; have n0_ := Aside0.mk (below_step (by repeat (first | (with_reducible first | exact HB.out | apply below_alloc | apply pw_below_drewN | apply below_drew1) | exact HB.out)) hb); have n1_ := Aside0.mk (hbox); have n2_ := Aside0.mk ((by rw [hg]; exact (below_size (by repeat (first | (with_reducible first | exact HB.out | apply below_alloc | apply pw_below_drewN | apply below_drew1) | exact HB.out))) : w.heap.size ≤ gb881)); have n3_ := Aside0.mk ((by rw [hg]; exact (below_size (by repeat (first | (with_reducible first | exact HB.out | apply below_alloc | apply pw_below_drewN | apply below_drew1) | exact HB.out))) : w.heap.size ≤ gb881)); clear HB; have HB := n0_; have BK881 := n1_; have GW881 := n2_; have GE881 := n3_; clear n0_ n1_ n2_ n3_; clear hb hbox hg; have hcz4_0 : w3.cell? ⟨gb881, 0, none⟩ = some (.slice A0_0 l0_0.length c0_0) := (blk_cell BK881.out 0).trans rfl; have hcz4_1 : w3.cell? ⟨gb881, 1, none⟩ = some (.slice A0_1 l0_1.length c0_1) := (blk_cell BK881.out 1).trans rfl; have hfz4_0 := blk_frozen BK881.out 0; have hfz4_1 := blk_frozen BK881.out 1) | ((with_reducible refine gate_dst (N := 4) rfl ?_); refine Kd.R_lit (Kd.int .i64) _ 3 ?hg (N := 4) ?hd (xs := ([0, 6, (-1)] : List Int)) (inner := [.int .i64 0, .int .i64 6, .int .i64 (-1)]) (ok := fun _ => True) (okp := fun _ => True) ?hr ?hp (fun _ hk => hk) trivial (Below.refl _ _) (Nat.le_refl _) (by simp) ?_; (case hd => rfl); (case hg => rfl); (case hr => first | (go_simp; done) | (go_simp; rfl)); (case hp => exact (Reps.one (show Kd.M (Kd.int .i64) _ _ _ 0 [.int .i64 0] from rfl) (Reps.one (show Kd.M (Kd.int .i64) _ _ _ 6 [.int .i64 6] from rfl) (Reps.one (show Kd.M (Kd.int .i64) _ _ _ (-1) [.int .i64 (-1)] from rfl) (Reps.none _ _))))); intro v883 w5 ho6 hb hg_ hnew_; clear hg_ hnew_; (first | rw [← Ny882.out] at ho6 | (simp only [Int.reduceToNat] at ho6; rw [← Ny882.out] at ho6)); have n0_ := Aside0.mk (Kd.R_lower ho6 (below_size (by repeat (first | (with_reducible first | exact HB.out | apply below_alloc | apply pw_below_drewN | apply below_drew1 | refine below_set ?_ GE881.out) | exact HB.out)))); have n1_ := Aside0.mk (blk_below (g := gb881) (o := .cells #[.slice A0_0 l0_0.length c0_0, .slice A0_1 l0_1.length c0_1] 25 (0, 0)) (by (with_reducible repeat (first | refine blk_drewN ?_ _ | refine blk_drew ?_ | refine blk_alloc ?_ _)); exact BK881.out) hb); have n2_ := Aside0.mk (below_step (by repeat (first | (with_reducible first | exact HB.out | apply below_alloc | apply pw_below_drewN | apply below_drew1 | refine below_set ?_ GE881.out) | exact HB.out)) hb); clear BK881; clear HB; have HO884 := n0_; have BK881 := n1_; have HB := n2_; clear n0_ n1_ n2_; clear hb ho6; obtain ⟨Ao7, co7, eo7⟩ := Kd.R_slice HO884.out; subst eo7) | ((with_reducible refine gate_callee (f := 63) rfl ?_); refine goesL_ (some 5) rfl rfl Try.func63 (by kernel_rfl) rfl #[.agg #[.slice A0_0 l0_0.length c0_0, .slice A0_1 l0_1.length c0_1], .slice Ao7 y882.length co7] rfl (by (try simp only [List.map_toArray, List.map_cons, List.map_nil]); first | done | rfl | (simp only [List.length_drop, List.length_take]; rfl)) ?_; (with_reducible refine (herbariumlaw2_kinds.calls k _ _ l0_0 _ _ l0_1 _ _ y882 _ ?side1 ?side2 ?side3 ?side4 ?side5 ?side6 A2.out).mono ?_); (case side1 => repeat (first | exact (Kd.C_below HR0_0.out HB.out) | (with_reducible refine Kd.C_alloc ?_ _) | (with_reducible refine Kd.C_drewN ?_ _) | (with_reducible refine Kd.C_drew ?_))); (case side2 => exact HC0_0.out); (case side3 => repeat (first | exact (Kd.C_below HR0_1.out HB.out) | (with_reducible refine Kd.C_alloc ?_ _) | (with_reducible refine Kd.C_drewN ?_ _) | (with_reducible refine Kd.C_drew ?_))); (case side4 => exact HC0_1.out); (case side5 => repeat (first | exact (Kd.R_reads' HO884.out).2.2 | (with_reducible refine Kd.C_alloc ?_ _) | (with_reducible refine Kd.C_drewN ?_ _) | (with_reducible refine Kd.C_drew ?_))); (case side6 => exact (Kd.R_reads' HO884.out).2.1); rintro e w8 ⟨rfl, hb⟩; refine ⟨_, rfl, ?_⟩; have n0_ := Aside0.mk (Kd.R_below (by (with_reducible repeat (first | apply Kd.R_alloc | apply Kd.R_drewN | apply Kd.R_drew)); exact HO884.out) hb); have n1_ := Aside0.mk (blk_below (g := gb881) (o := .cells #[.slice A0_0 l0_0.length c0_0, .slice A0_1 l0_1.length c0_1] 25 (0, 0)) (by (with_reducible repeat (first | refine blk_drewN ?_ _ | refine blk_drew ?_ | refine blk_alloc ?_ _)); exact BK881.out) hb); have n2_ := Aside0.mk (below_step (by repeat (first | (with_reducible first | exact HB.out | apply below_alloc | apply pw_below_drewN | apply below_drew1 | refine below_set ?_ GE881.out) | exact HB.out)) hb); clear HO884; clear BK881; clear HB; have HO884 := n0_; have BK881 := n1_; have HB := n2_; clear n0_ n1_ n2_; (try clear hb); (try clear hb2); (try clear hk); (try clear hi)))
  go_ret
  exact ⟨by first | rfl | (simp [errW_none, errW_some] <;> rfl) | (simp [*, errW_none, errW_some] <;> rfl), by repeat (first | (with_reducible first | exact HB.out | apply below_alloc | apply pw_below_drewN | apply below_drew1 | refine below_set ?_ GE881.out) | exact HB.out)⟩
end Go.Proofs.Ytnpghcikhpglkaa.Q
namespace Go.Proofs.Ytnpghcikhpglkaa.Pb
open Go.RowKit Go.Proofs.YtnpghcikhpglkaaW.PrintWords Go.Proofs.YtnpghcikhpglkaaW.PrintLast Go.Proofs.YtnpghcikhpglkaaW.PrintMore Go.Proofs.Ytnpghcikhpglkaa.Hand Go.Proofs.Ytnpghcikhpglkaa.Pu Go.Proofs.Ytnpghcikhpglkaa.Q
set_option linter.unusedVariables false
set_option linter.unusedSimpArgs false
/-! ### a list's text -/
theorem packS_size (l : List Int) : (packS l).size = (l.length + 7) / 8 := by rw [packS, strOfNums_size, packL_length]
theorem bt_strOfNums (xs : List Int) (i : Nat) (hi : i < xs.length) (h : 0 ≤ xs.getD i 0 ∧ xs.getD i 0 < 256) : bt (strOfNums xs) (i : Int) = xs.getD i 0 := by
  have hs : i < (strOfNums xs).size := by rw [strOfNums_size]; exact hi
  rw [← bt_at (strOfNums xs) (i : Int) hs]
  have h2 : i < (strOfNums xs).data.toList.length := hs
  have h3 : (strOfNums xs).data.toList[i]'h2 = UInt8.ofNat (xs[i]'hi).toNat := by simp [strOfNums_data]
  have h4 : (strOfNums xs)[(i : Int).toNat]'hs = UInt8.ofNat (xs[i]'hi).toNat := h3
  rw [h4]
  rw [List.getD_eq_getElem?_getD, List.getElem?_eq_getElem hi] at h ⊢
  simp only [Option.getD_some] at h ⊢
  rw [UInt8.toNat_ofNat']
  omega
theorem bt_packS (l : List Int) (hl : IsBits l) (j : Nat) (hj : j < (l.length + 7) / 8) : bt (packS l) (j : Int) = byteAt l j := by
  have h1 : (packL l).getD j 0 = byteAt l j := by rw [List.getD_eq_getElem?_getD, packL_get l j hj]; rfl
  have := bt_strOfNums (packL l) j (by rw [packL_length]; exact hj) (by rw [h1]; exact byteAt_range hl j)
  rw [packS, this, h1]
theorem b01 {x : Int} (h : x = 0 ∨ x = 1) : 0 ≤ x ∧ x ≤ 1 := by omega
theorem byte8 (x0 x1 x2 x3 x4 x5 x6 x7 : Int) (h0 : 0 ≤ x0 ∧ x0 ≤ 1) (h1 : 0 ≤ x1 ∧ x1 ≤ 1) (h2 : 0 ≤ x2 ∧ x2 ≤ 1) (h3 : 0 ≤ x3 ∧ x3 ≤ 1) (h4 : 0 ≤ x4 ∧ x4 ≤ 1) (h5 : 0 ≤ x5 ∧ x5 ≤ 1) (h6 : 0 ≤ x6 ∧ x6 ≤ 1) (h7 : 0 ≤ x7 ∧ x7 ≤ 1) :
    let b := x0 * 128 + x1 * 64 + x2 * 32 + x3 * 16 + x4 * 8 + x5 * 4 + x6 * 2 + x7
    b / 128 % 2 = x0 ∧ b / 64 % 2 = x1 ∧ b / 32 % 2 = x2 ∧ b / 16 % 2 = x3 ∧ b / 8 % 2 = x4 ∧ b / 4 % 2 = x5 ∧ b / 2 % 2 = x6 ∧ b / 1 % 2 = x7 := by
  refine ⟨?_, ?_, ?_, ?_, ?_, ?_, ?_, ?_⟩ <;> omega
theorem bit_byteAt (l : List Int) (hl : IsBits l) (j i : Nat) (hi : i < 8) : byteAt l j / 2 ^ (7 - i) % 2 = l.getD (8 * j + i) 0 := by
  have h := byte8 _ _ _ _ _ _ _ _ (b01 (hl.getD (8 * j))) (b01 (hl.getD (8 * j + 1))) (b01 (hl.getD (8 * j + 2))) (b01 (hl.getD (8 * j + 3))) (b01 (hl.getD (8 * j + 4))) (b01 (hl.getD (8 * j + 5))) (b01 (hl.getD (8 * j + 6))) (b01 (hl.getD (8 * j + 7)))
  have hi' : i = 0 ∨ i = 1 ∨ i = 2 ∨ i = 3 ∨ i = 4 ∨ i = 5 ∨ i = 6 ∨ i = 7 := by omega
  rcases hi' with rfl | rfl | rfl | rfl | rfl | rfl | rfl | rfl
  · exact h.1
  · exact h.2.1
  · exact h.2.2.1
  · exact h.2.2.2.1
  · exact h.2.2.2.2.1
  · exact h.2.2.2.2.2.1
  · exact h.2.2.2.2.2.2.1
  · exact h.2.2.2.2.2.2.2
theorem bitOf_packS (l : List Int) (hl : IsBits l) (i : Nat) (hi : i < l.length) : bitOf (packS l) (i : Int) = l.getD i 0 := by
  have h := bitOf_at (packS l) (i / 8) (i % 8) (by omega)
  rw [show 8 * (i / 8) + i % 8 = i by omega] at h
  rw [h, bt_packS l hl (i / 8) (by omega), bit_byteAt l hl (i / 8) (i % 8) (by omega), show 8 * (i / 8) + i % 8 = i by omega]
theorem ofS_packS (l : List Int) (hl : IsBits l) : ofS (packS l) (l.length : Int) = l := by
  refine List.ext_getElem? fun i => ?_
  rcases Nat.lt_or_ge i l.length with hi | hi
  · have h := ofS_getD (packS l) (l.length : Int) i (by simpa using hi)
    rw [bitOf_packS l hl i hi] at h
    have hi2 : i < (ofS (packS l) (l.length : Int)).length := by rw [ofS_length]; simpa using hi
    rw [List.getD_eq_getElem?_getD, List.getD_eq_getElem?_getD, List.getElem?_eq_getElem hi2, List.getElem?_eq_getElem hi] at h
    rw [List.getElem?_eq_getElem hi2, List.getElem?_eq_getElem hi]
    simpa using h
  · rw [List.getElem?_eq_none (by rw [ofS_length]; simpa using hi), List.getElem?_eq_none hi]
theorem may_packS (l : List Int) (hl : IsBits l) (h : l.length ≤ 6000) : MayP (packS l) (l.length : Int) := by
  refine ⟨by omega, by omega, by rw [packS_size]; omega, ?_⟩
  rcases Nat.eq_zero_or_pos (l.length % 8) with h8 | h8
  · exact .inl (by omega)
  · refine .inr ?_
    have hj : ((packS l).size : Int) - 1 = ((l.length / 8 : Nat) : Int) := by rw [packS_size]; omega
    rw [hj, bt_packS l hl _ (by omega)]
    have := (byteAt_snoc_new l 0).2
    rw [show (8 - (l.length : Int) % 8).toNat = 7 - l.length % 8 + 1 by omega]
    exact this
/-- Bits that may be are their list's. -/
theorem canon (s : ByteArray) (n : Int) (h : MayP s n) : s = packS (ofS s n) ∧ n = ((ofS s n).length : Int) ∧ IsBits (ofS s n) ∧ (ofS s n).length ≤ 6000 := by
  refine ⟨(packS_ofS s n h).symm, by rw [ofS_length]; have := h.1; omega, ofS_bits s n, by rw [ofS_length]; have := h.2.1; omega⟩
/-! ### numbers out of bits -/
def numL (l : List Int) : Int := l.foldl (fun v b => 2 * v + b) 0
theorem numL_snoc (l : List Int) (b : Int) : numL (l ++ [b]) = 2 * numL l + b := by simp [numL]
theorem numL_from (l : List Int) : ∀ v : Int, l.foldl (fun v b => 2 * v + b) v = v * 2 ^ l.length + numL l := by
  induction l with
  | nil => intro v; simp [numL]
  | cons a r ih =>
    intro v
    have h0 := ih (2 * v + a)
    have h1 : numL (a :: r) = a * 2 ^ r.length + numL r := by
      have := ih a
      simp only [numL, List.foldl_cons] at this ⊢
      simpa using this
    simp only [List.foldl_cons, List.length_cons]
    rw [h0, h1, Int.pow_succ]
    rw [Int.add_mul]
    have e : 2 * v * 2 ^ r.length = v * (2 ^ r.length * 2) := by rw [Int.mul_comm 2 v, Int.mul_assoc, Int.mul_comm 2]
    rw [e]
    omega
theorem numL_cons (a : Int) (r : List Int) : numL (a :: r) = a * 2 ^ r.length + numL r := by
  have := numL_from r a
  simp only [numL, List.foldl_cons] at this ⊢
  simpa using this
theorem numL_range {l : List Int} (h : IsBits l) : 0 ≤ numL l ∧ numL l < 2 ^ l.length := by
  induction l with
  | nil => simp [numL]
  | cons a r ih =>
    have hr := ih (fun x hx => h x (List.mem_cons_of_mem _ hx))
    have ha := h a (List.mem_cons_self)
    have hp : (0 : Int) < 2 ^ r.length := Int.pow_pos (by decide)
    rw [numL_cons, List.length_cons, Int.pow_succ]
    rcases ha with rfl | rfl <;> omega
/-! ### bits.Look, bits.Get -/
theorem or_step (v b : Int) (h0 : 0 ≤ v) (h1 : v < 2 ^ 61) (hb : b = 0 ∨ b = 1) : Go.bits .or .i64 (wrap64 (v * 2)) b = 2 * v + b := by
  rw [wrap_in _ (by omega) (by omega), bits_join .i64 63 (by decide) wraps_i64 1 (v * 2) b (by omega) (by simp) (by omega) (by omega) (by simp; omega) (by omega)]
  omega
theorem look_loop (l : List Int) (hl : IsBits l) (hlen : l.length ≤ 1000000) (n : Int) (a w : Nat) (haw : a + w ≤ l.length) (hw : w ≤ 61) (d : Nat) : ∀ (k i : Nat), i + d = w → d < k →
    bits_Look.l0 k (a : Int) (numL ((l.drop a).take i)) (w : Int) (i : Int) (packS l) n = some (numL ((l.drop a).take w), true) := by
  induction d with
  | zero =>
    intro k i hi hk
    obtain ⟨k, rfl⟩ : ∃ m, k = m + 1 := ⟨k - 1, by omega⟩
    obtain rfl : i = w := by omega
    simp only [bits_Look.l0]
    rw [if_neg (by omega)]
  | succ d ih =>
    intro k i hi hk
    obtain ⟨k, rfl⟩ : ∃ m, k = m + 1 := ⟨k - 1, by omega⟩
    simp only [bits_Look.l0]
    rw [if_pos (by omega)]
    have hw1 : wrap64 ((a : Int) + (i : Int)) = ((a + i : Nat) : Int) := by rw [wrap_in _ (by omega) (by omega)]; omega
    have hsz := packS_size l
    rw [hw1, bit_some _ _ _ (by omega) (by omega) (by omega), bitOf_packS l hl (a + i) (by omega), Option.bind_some]
    have hib : IsBits ((l.drop a).take i) := fun x hx => hl x (List.mem_of_mem_drop (List.mem_of_mem_take hx))
    have hr := numL_range hib
    have hlt : (l.drop a).length = l.length - a := List.length_drop ..
    have hlen2 : ((l.drop a).take i).length = i := by rw [List.length_take, hlt]; omega
    rw [hlen2] at hr
    have hp : (2 : Int) ^ i ≤ 2 ^ 60 := by have := Nat.pow_le_pow_right (n := 2) (by decide) (show i ≤ 60 by omega); exact_mod_cast this
    have h60 : (2 : Int) ^ 60 < 2 ^ 61 := by decide
    have hb := hl.getD (a + i)
    rw [or_step _ _ hr.1 (by omega) hb]
    have hsn : (l.drop a).take (i + 1) = (l.drop a).take i ++ [l.getD (a + i) 0] := by
      rw [List.take_succ_eq_append_getElem (by rw [hlt]; omega), List.getElem_drop, List.getD_eq_getElem?_getD, List.getElem?_eq_getElem (by omega)]
      rfl
    rw [← numL_snoc, ← hsn, wrap_in _ (by omega) (by omega)]
    have := ih k (i + 1) (by omega) (by omega)
    rw [show ((i + 1 : Nat) : Int) = (i : Int) + 1 by omega] at this
    exact this
theorem look_yes (l : List Int) (hl : IsBits l) (hlen : l.length ≤ 1000000) (a w : Nat) (haw : a + w ≤ l.length) (hw : w ≤ 61) (k : Nat) (hk : w + 1 < k) :
    bits_Look.f k (packS l) (l.length : Int) (a : Int) (w : Int) = some (numL ((l.drop a).take w), true) := by
  obtain ⟨k, rfl⟩ : ∃ m, k = m + 1 := ⟨k - 1, by omega⟩
  unfold bits_Look.f
  rw [if_neg (by omega)]
  have hd : decide ((w : Int) > wrap64 ((l.length : Int) - (a : Int))) = false := by
    rw [wrap_in _ (by omega) (by omega)]
    simp
    omega
  rw [hd]
  simp only [bits_Look.j0]
  rw [if_neg (by decide)]
  exact look_loop l hl hlen _ a w haw hw w k 0 (by omega) (by omega)
theorem look_no (s : ByteArray) (n a w : Int) (hn : 0 ≤ n ∧ n ≤ 1000000) (ha : 0 ≤ a) (hw0 : 0 ≤ w) (h : n < a + w) (k : Nat) (hk : 0 < k) : bits_Look.f k s n a w = some (0, false) := by
  obtain ⟨k, rfl⟩ : ∃ m, k = m + 1 := ⟨k - 1, by omega⟩
  unfold bits_Look.f
  by_cases h1 : a > n
  · rw [if_pos h1]
    simp only [bits_Look.j0]
    rw [if_pos trivial]
  · rw [if_neg h1]
    have hd : decide (w > wrap64 (n - a)) = true := by
      rw [wrap_in _ (by omega) (by omega)]
      simp
      omega
    rw [hd]
    simp only [bits_Look.j0]
    rw [if_pos trivial]
/-! ### bits.Put -/
/-! ### slices of lists -/
end Go.Proofs.Ytnpghcikhpglkaa.Pb
