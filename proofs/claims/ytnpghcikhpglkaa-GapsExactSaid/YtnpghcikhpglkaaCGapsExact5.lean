/- What the row of GapsExact rests on, part 6 of 7: functions, contracts, plain laws. -/
import Derived.Test.YtnpghcikhpglkaaCGapsExact4
namespace Go.Proofs.Ytnpghcikhpglkaa.Q
open Go.RowKit Go.Proofs.YtnpghcikhpglkaaW.PrintWords Go.Proofs.YtnpghcikhpglkaaW.PrintLast Go.Proofs.YtnpghcikhpglkaaW.PrintMore
attribute [local go_sem] max2_int min2_int max_two min_two max_three min_three max_four min_four   -- for this text's walks alone
set_option linter.unusedVariables false
set_option linter.unusedSimpArgs false

attribute [local go_sem high] eqA27
/-! ### herbariumlaw3_GapsExact: function 23 -/
mutual
def herbariumlaw3_GapsExact.j0 : Nat → List (List Int) → List Int → List (List Int) → List (S27) → List Int → Option (Bool)
  | 0, _, _, _, _, _ => none
  | k + 1, x3, x4, x1107000, x1107001, x1107002 => herbariumlaw3_GapsExact.l0 k x3 x4 ([] : List (List Int)) 0 x1107000 x1107001 x1107002
def herbariumlaw3_GapsExact.l0 : Nat → List (List Int) → List Int → List (List Int) → Int → List (List Int) → List (S27) → List Int → Option (Bool)
  | 0, _, _, _, _, _, _, _ => none
  | k + 1, x3, x4, x5, x6, x1107000, x1107001, x1107002 => if x6 < (x3.length : Int) then (if 0 ≤ x6 then ((herbariumref3_May.f k (rd_L7 x3 x6)).bind fun t1121 => ((herbariumref0_CopyNumbers.f k (rd_L7 x3 x6)).bind fun t1123 => ((gaps_Check.f k t1123).bind fun t1126 => ((herbariumlaw3_num.f t1126).bind fun t1127 => (if ((t1127 == 0) != t1121) = true then (some false) else (herbariumlaw3_GapsExact.l1 k x3 x4 x5 x6 t1121 t1123 0 x1107000 x1107001 x1107002)))))) else (none)) else ((herbariumlaw3_Texts.f k x1107000 x1107001 x1107002 x5).bind fun t1164 => (herbariumlaw3_GapsExact.l3 k x4 t1164 0))
def herbariumlaw3_GapsExact.l1 : Nat → List (List Int) → List Int → List (List Int) → Int → Bool → List Int → Int → List (List Int) → List (S27) → List Int → Option (Bool)
  | 0, _, _, _, _, _, _, _, _, _, _ => none
  | k + 1, x3, x4, x5, x6, x7, x8, x9, x1107000, x1107001, x1107002 => if x9 < (x4.length : Int) then (if 0 ≤ x9 then ((gaps_Size.f (rd x4 x9) x8).bind fun bt1129 => (if x7 = true then ((herbariumref3_Origin.f (rd x4 x9)).bind fun t1132 => (herbariumlaw3_GapsExact.j3 k x3 x4 x5 x6 x7 x8 x9 bt1129.1 bt1129.2 1 0 ([] : List Int) t1132 x1107000 x1107001 x1107002)) else (herbariumlaw3_GapsExact.j3 k x3 x4 x5 x6 x7 x8 x9 bt1129.1 bt1129.2 1 0 ([] : List Int) false x1107000 x1107001 x1107002))) else (none)) else (herbariumlaw3_GapsExact.l0 k x3 x4 x5 (wrap64 (x6 + 1)) x1107000 x1107001 x1107002)
def herbariumlaw3_GapsExact.j3 : Nat → List (List Int) → List Int → List (List Int) → Int → Bool → List Int → Int → Int → Int → Int → Int → List Int → Bool → List (List Int) → List (S27) → List Int → Option (Bool)
  | 0, _, _, _, _, _, _, _, _, _, _, _, _, _, _, _, _ => none
  | k + 1, x3, x4, x5, x6, x7, x8, x9, x10, x11, x12, x13, x14, x92, x1107000, x1107001, x1107002 => if x92 = true then (if 0 ≤ x9 then (if x9 < (x4.length : Int) then (if 0 ≤ x6 then (if x6 < (x3.length : Int) then ((herbariumref3_Gaps.f k ([] : List Int) (rd x4 x9) (rd_L7 x3 x6)).bind fun t1135 => (if x5.length < 5864062014805 then (herbariumlaw3_GapsExact.j4 k x3 x4 (x5 ++ [t1135]) x6 x7 x8 x9 x10 x11 0 (t1135.length : Int) t1135 x1107000 x1107001 x1107002) else (none))) else (none)) else (none)) else (none)) else (none)) else (herbariumlaw3_GapsExact.j4 k x3 x4 x5 x6 x7 x8 x9 x10 x11 x12 x13 x14 x1107000 x1107001 x1107002)
def herbariumlaw3_GapsExact.j4 : Nat → List (List Int) → List Int → List (List Int) → Int → Bool → List Int → Int → Int → Int → Int → Int → List Int → List (List Int) → List (S27) → List Int → Option (Bool)
  | 0, _, _, _, _, _, _, _, _, _, _, _, _, _, _, _ => none
  | k + 1, x3, x4, x5, x6, x7, x8, x9, x10, x11, x12, x13, x14, x1107000, x1107001, x1107002 => (herbariumlaw3_num.f x11).bind fun t1141 => (if t1141 = x12 then (herbariumlaw3_GapsExact.j5 k x3 x4 x5 x6 x7 x8 x9 x12 x13 x14 (x10 != x13) x1107000 x1107001 x1107002) else (herbariumlaw3_GapsExact.j5 k x3 x4 x5 x6 x7 x8 x9 x12 x13 x14 true x1107000 x1107001 x1107002))
def herbariumlaw3_GapsExact.j5 : Nat → List (List Int) → List Int → List (List Int) → Int → Bool → List Int → Int → Int → Int → List Int → Bool → List (List Int) → List (S27) → List Int → Option (Bool)
  | 0, _, _, _, _, _, _, _, _, _, _, _, _, _, _ => none
  | k + 1, x3, x4, x5, x6, x7, x8, x9, x12, x13, x14, x116, x1107000, x1107001, x1107002 => if x116 = true then (some false) else (herbariumlaw3_GapsExact.l2 k x3 x4 x5 x6 x7 x8 x9 x12 x13 x14 0 x1107000 x1107001 x1107002)
def herbariumlaw3_GapsExact.l2 : Nat → List (List Int) → List Int → List (List Int) → Int → Bool → List Int → Int → Int → Int → List Int → Int → List (List Int) → List (S27) → List Int → Option (Bool)
  | 0, _, _, _, _, _, _, _, _, _, _, _, _, _, _ => none
  | k + 1, x3, x4, x5, x6, x7, x8, x9, x12, x13, x14, x15, x1107000, x1107001, x1107002 => if x15 < (x1107001.length : Int) then (herbariumlaw3_GapsExact.j7 k x3 x4 x5 x6 x7 x8 x9 x12 x13 x14 x15 (decide (x15 < 3)) x1107000 x1107001 x1107002) else (herbariumlaw3_GapsExact.j7 k x3 x4 x5 x6 x7 x8 x9 x12 x13 x14 x15 false x1107000 x1107001 x1107002)
def herbariumlaw3_GapsExact.j7 : Nat → List (List Int) → List Int → List (List Int) → Int → Bool → List Int → Int → Int → Int → List Int → Int → Bool → List (List Int) → List (S27) → List Int → Option (Bool)
  | 0, _, _, _, _, _, _, _, _, _, _, _, _, _, _, _ => none
  | k + 1, x3, x4, x5, x6, x7, x8, x9, x12, x13, x14, x15, x125, x1107000, x1107001, x1107002 => if x125 = true then (if 0 ≤ x15 then (if x15 < (x1107001.length : Int) then (if 0 ≤ x9 then (if x9 < (x4.length : Int) then ((gaps_Put.f ((rd_T27 x1107001 x15).f0) ((rd_T27 x1107001 x15).f1) (rd x4 x9) x8).bind fun bt1144 => (if x12 = 0 then ((herbariumref1_Bits.f k ((rd_T27 x1107001 x15).f0) ((rd_T27 x1107001 x15).f1)).bind fun t1150 => (herbariumlaw3_GapsExact.j8 k x3 x4 x5 x6 x7 x8 x9 x12 x13 x14 x15 bt1144.2.2 1 t1150 x1107000 x1107001 x1107002 bt1144.1 bt1144.2.1 (⟨#[]⟩ : ByteArray) 0)) else (herbariumlaw3_GapsExact.j8 k x3 x4 x5 x6 x7 x8 x9 x12 x13 x14 x15 bt1144.2.2 1 false x1107000 x1107001 x1107002 bt1144.1 bt1144.2.1 (⟨#[]⟩ : ByteArray) 0))) else (none)) else (none)) else (none)) else (none)) else (herbariumlaw3_GapsExact.l1 k x3 x4 x5 x6 x7 x8 (wrap64 (x9 + 1)) x1107000 x1107001 x1107002)
def herbariumlaw3_GapsExact.j8 : Nat → List (List Int) → List Int → List (List Int) → Int → Bool → List Int → Int → Int → Int → List Int → Int → Int → Int → Bool → List (List Int) → List (S27) → List Int → ByteArray → Int → ByteArray → Int → Option (Bool)
  | 0, _, _, _, _, _, _, _, _, _, _, _, _, _, _, _, _, _, _, _, _, _ => none
  | k + 1, x3, x4, x5, x6, x7, x8, x9, x12, x13, x14, x15, x17, x18, x152, x1107000, x1107001, x1107002, x1148000, x1148001, x1149000, x1149001 => if x152 = true then (if 0 ≤ x15 then (if x15 < (x1107001.length : Int) then (if (wrap64 (((rd_T27 x1107001 x15).f1) + x13)) ≤ 6000 then ((herbariumref1_Of.f k ((rd_T27 x1107001 x15).f0) ((rd_T27 x1107001 x15).f1)).bind fun t1153 => (if t1153.length + x14.length < 140737488355328 then ((herbariumref1_List_Pack.f k (t1153 ++ x14)).bind fun bt1159 => (herbariumlaw3_GapsExact.j9 k x3 x4 x5 x6 x7 x8 x9 x12 x13 x14 x15 x17 0 x1107000 x1107001 x1107002 x1148000 x1148001 bt1159.1 bt1159.2)) else (none))) else (herbariumlaw3_GapsExact.j9 k x3 x4 x5 x6 x7 x8 x9 x12 x13 x14 x15 x17 2 x1107000 x1107001 x1107002 x1148000 x1148001 x1149000 x1149001)) else (none)) else (none)) else (herbariumlaw3_GapsExact.j9 k x3 x4 x5 x6 x7 x8 x9 x12 x13 x14 x15 x17 x18 x1107000 x1107001 x1107002 x1148000 x1148001 x1149000 x1149001)
def herbariumlaw3_GapsExact.j9 : Nat → List (List Int) → List Int → List (List Int) → Int → Bool → List Int → Int → Int → Int → List Int → Int → Int → Int → List (List Int) → List (S27) → List Int → ByteArray → Int → ByteArray → Int → Option (Bool)
  | 0, _, _, _, _, _, _, _, _, _, _, _, _, _, _, _, _, _, _, _, _ => none
  | k + 1, x3, x4, x5, x6, x7, x8, x9, x12, x13, x14, x15, x17, x18, x1107000, x1107001, x1107002, x1148000, x1148001, x1149000, x1149001 => (herbariumlaw3_num.f x17).bind fun t1161 => (if t1161 = x18 then (if (!(x1148000.toList == x1149000.toList) || (!(x1148001 == x1149001))) = true then (some false) else (if 0 ≤ x6 then (if x6 < (x3.length : Int) then ((herbariumref0_EqNumbers.f k x8 (rd_L7 x3 x6)).bind fun t1163 => (if t1163 = true then (herbariumlaw3_GapsExact.l2 k x3 x4 x5 x6 x7 x8 x9 x12 x13 x14 (wrap64 (x15 + 1)) x1107000 x1107001 x1107002) else (some false))) else (none)) else (none))) else (some false))
def herbariumlaw3_GapsExact.l3 : Nat → List Int → List (S27) → Int → Option (Bool)
  | 0, _, _, _ => none
  | k + 1, x4, x20, x21 => if x21 < (x20.length : Int) then (if 0 ≤ x21 then ((herbariumref1_Bits.f k ((rd_T27 x20 x21).f0) ((rd_T27 x20 x21).f1)).bind fun t1169 => (if t1169 = true then ((herbariumref1_Of.f k ((rd_T27 x20 x21).f0) ((rd_T27 x20 x21).f1)).bind fun t1171 => (herbariumlaw3_GapsExact.j11 k x4 x20 x21 t1169 t1171)) else (herbariumlaw3_GapsExact.j11 k x4 x20 x21 t1169 ([] : List Int)))) else (none)) else ((herbariumlaw3_wakes.f k).bind fun t1167 => (some t1167))
def herbariumlaw3_GapsExact.j11 : Nat → List Int → List (S27) → Int → Bool → List Int → Option (Bool)
  | 0, _, _, _, _, _ => none
  | k + 1, x4, x20, x21, x22, x23 => herbariumlaw3_GapsExact.l4 k x4 x20 x21 x22 x23 0
def herbariumlaw3_GapsExact.l4 : Nat → List Int → List (S27) → Int → Bool → List Int → Int → Option (Bool)
  | 0, _, _, _, _, _, _ => none
  | k + 1, x4, x20, x21, x22, x23, x24 => if x24 < (x4.length : Int) then (herbariumlaw3_GapsExact.j13 k x4 x20 x21 x22 x23 x24 (decide (x24 < 6))) else (herbariumlaw3_GapsExact.j13 k x4 x20 x21 x22 x23 x24 false)
def herbariumlaw3_GapsExact.j13 : Nat → List Int → List (S27) → Int → Bool → List Int → Int → Bool → Option (Bool)
  | 0, _, _, _, _, _, _, _ => none
  | k + 1, x4, x20, x21, x22, x23, x24, x216 => if x216 = true then (herbariumlaw3_GapsExact.l5 k x4 x20 x21 x22 x23 x24 (-1)) else (herbariumlaw3_GapsExact.l3 k x4 x20 (wrap64 (x21 + 1)))
def herbariumlaw3_GapsExact.l5 : Nat → List Int → List (S27) → Int → Bool → List Int → Int → Int → Option (Bool)
  | 0, _, _, _, _, _, _, _ => none
  | k + 1, x4, x20, x21, x22, x23, x24, x25 => if x25 < 4 then (if 0 ≤ x21 then (if x21 < (x20.length : Int) then (if 0 ≤ x24 then (if x24 < (x4.length : Int) then ((gaps_Take.f k ((rd_T27 x20 x21).f0) ((rd_T27 x20 x21).f1) x25 (rd x4 x24)).bind fun bt1176 => (if x22 = true then ((herbariumref0_Num.f x25 ((rd_T27 x20 x21).f1)).bind fun t1182 => (if t1182 = true then ((herbariumref3_Origin.f (rd x4 x24)).bind fun t1184 => (herbariumlaw3_GapsExact.j15 k x4 x20 x21 x22 x23 x24 x25 bt1176.1 bt1176.2.1 bt1176.2.2 1 0 ([] : List Int) t1184)) else (herbariumlaw3_GapsExact.j15 k x4 x20 x21 x22 x23 x24 x25 bt1176.1 bt1176.2.1 bt1176.2.2 1 0 ([] : List Int) false))) else (herbariumlaw3_GapsExact.j15 k x4 x20 x21 x22 x23 x24 x25 bt1176.1 bt1176.2.1 bt1176.2.2 1 0 ([] : List Int) false))) else (none)) else (none)) else (none)) else (none)) else (herbariumlaw3_GapsExact.l4 k x4 x20 x21 x22 x23 (wrap64 (x24 + 1)))
def herbariumlaw3_GapsExact.j15 : Nat → List Int → List (S27) → Int → Bool → List Int → Int → Int → List Int → Int → Int → Int → Int → List Int → Bool → Option (Bool)
  | 0, _, _, _, _, _, _, _, _, _, _, _, _, _, _ => none
  | k + 1, x4, x20, x21, x22, x23, x24, x25, x26, x27, x28, x29, x30, x31, x253 => if x253 = true then (if 0 ≤ x24 then (if x24 < (x4.length : Int) then ((herbariumref3_TakeGaps.f k x23 x25 (rd x4 x24)).bind fun bt1186 => (if bt1186.2.2 = true then (herbariumlaw3_GapsExact.j16 k x4 x20 x21 x22 x23 x24 x25 x26 x27 x28 0 bt1186.2.1 bt1186.1) else (herbariumlaw3_GapsExact.j16 k x4 x20 x21 x22 x23 x24 x25 x26 x27 x28 9 x30 x31))) else (none)) else (none)) else (herbariumlaw3_GapsExact.j16 k x4 x20 x21 x22 x23 x24 x25 x26 x27 x28 x29 x30 x31)
def herbariumlaw3_GapsExact.j16 : Nat → List Int → List (S27) → Int → Bool → List Int → Int → Int → List Int → Int → Int → Int → Int → List Int → Option (Bool)
  | 0, _, _, _, _, _, _, _, _, _, _, _, _, _ => none
  | k + 1, x4, x20, x21, x22, x23, x24, x25, x26, x27, x28, x29, x30, x31 => (herbariumlaw3_num.f x28).bind fun t1191 => (if t1191 = x29 then (if x27 = x30 then ((herbariumref0_EqNumbers.f k x26 x31).bind fun t1192 => (if t1192 = true then ((herbariumlaw0_Numbers.f k x26).bind fun t1193 => (herbariumlaw3_GapsExact.l5 k x4 x20 x21 x22 x23 x24 (wrap64 (x25 + 1)))) else (some false))) else (some false)) else (some false))
end
def herbariumlaw3_GapsExact.f (k : Nat) (l0_0 : List (List Int)) (l0_1 : List (S27)) (l0_2 : List Int) : Option (Bool) := (herbariumlaw3_Heavy.f k l0_0 l0_1 l0_2).bind fun t1107 => (if t1107 = true then (some true) else ((herbariumlaw3_Lists.f l0_0 l0_1 l0_2).bind fun t1108 => ((some (([0, 7, 15, 16, (-1)] : List Int) : List Int)).bind fun y1111 => (if y1111.length + l0_2.length < 17592186044416 then ((some (y1111 ++ l0_2 : List Int)).bind fun y1114 => (if (y1114.length : Int) > 10 then (if 10 ≤ (y1114.length : Int) then (herbariumlaw3_GapsExact.j0 k t1108 (y1114.take (10 : Int).toNat) l0_0 l0_1 l0_2) else (none)) else (herbariumlaw3_GapsExact.j0 k t1108 y1114 l0_0 l0_1 l0_2))) else (none)))))
def herbariumlaw3_GapsExact.T22 : Bool × List (List Nat × List Nat) := (true, [([], []), ([], []), ([0, 1], [0, 1]), ([2], [2]), ([], []), ([], []), ([4, 5], [4, 5]), ([6], [6]), ([3, 7], [3, 7]), ([8, 8, 0, 1, 2, 3, 4, 5, 6, 7, 8], [8])])
def herbariumlaw3_GapsExact.B22 : List Nat := [0, 0, 3, 7, 0, 0, 48, 112, 255, 511]
theorem herbariumlaw3_GapsExact.tab22 : rtab .any (opsOf Try.f23 22) = herbariumlaw3_GapsExact.T22 := by kernel_rfl
theorem herbariumlaw3_GapsExact.bits22 : waitsOk herbariumlaw3_GapsExact.T22.2 herbariumlaw3_GapsExact.B22 = true := by kernel_rfl
def herbariumlaw3_GapsExact.T30 : Bool × List (List Nat × List Nat) := (true, [([], []), ([0], [0]), ([], []), ([1, 2], [1, 2]), ([3], [3]), ([], []), ([], []), ([5, 6], [5, 6]), ([7], [7]), ([], []), ([4, 8, 9], [4, 8, 9]), ([10], [10]), ([11], [11]), ([11], [11]), ([], []), ([14, 12, 10, 0, 1, 2, 3, 4, 5, 6, 7, 8, 9, 10, 11, 12, 14], [12, 14]), ([13, 15, 0, 1, 2, 3, 4, 5, 6, 7, 8, 9, 10, 11, 12, 13, 14, 15], [13])])
def herbariumlaw3_GapsExact.B30 : List Nat := [0, 1, 0, 7, 15, 0, 0, 96, 224, 0, 1023, 2047, 4095, 4095, 0, 24575, 65535]
theorem herbariumlaw3_GapsExact.tab30 : rtab .any (opsOf Try.f23 30) = herbariumlaw3_GapsExact.T30 := by kernel_rfl
theorem herbariumlaw3_GapsExact.bits30 : waitsOk herbariumlaw3_GapsExact.T30.2 herbariumlaw3_GapsExact.B30 = true := by kernel_rfl
def herbariumlaw3_GapsExact.T52 : Bool × List (List Nat × List Nat) := (true, [([], []), ([], []), ([0, 1], [0, 1]), ([2], [2]), ([], []), ([], []), ([], []), ([5, 6], [5, 6]), ([7], [7]), ([3, 4, 8], [3, 4, 8]), ([9], [9]), ([10], [10]), ([10], [10]), ([10], [10]), ([11, 9, 0, 1, 2, 3, 4, 5, 6, 7, 8, 9, 10, 11], [11]), ([12, 14, 0, 1, 2, 3, 4, 5, 6, 7, 8, 9, 10, 11, 12, 14], [12]), ([13, 15, 0, 1, 2, 3, 4, 5, 6, 7, 8, 9, 10, 11, 12, 13, 14, 15], [13])])
def herbariumlaw3_GapsExact.B52 : List Nat := [0, 0, 3, 7, 0, 0, 0, 96, 224, 511, 1023, 2047, 2047, 2047, 4095, 24575, 65535]
theorem herbariumlaw3_GapsExact.tab52 : rtab .any (opsOf Try.f23 52) = herbariumlaw3_GapsExact.T52 := by kernel_rfl
theorem herbariumlaw3_GapsExact.bits52 : waitsOk herbariumlaw3_GapsExact.T52.2 herbariumlaw3_GapsExact.B52 = true := by kernel_rfl
theorem herbariumlaw3_GapsExact.own_cut {A : Option Addr} {n c m d k : Nat} (h : some k ≠ (.slice A n c : Value).ownBlock) : some k ≠ (.slice A m d : Value).ownBlock := by cases A <;> exact h
theorem herbariumlaw3_GapsExact.j5_no : ∀ k y0 y1 y2 y3 y4 y5 y6 y7 y8 y9 y11 y12 y13, ¬ (herbariumlaw3_GapsExact.j5 k y0 y1 y2 y3 y4 y5 y6 y7 y8 y9 true y11 y12 y13 = some true) := by
  intro k y0 y1 y2 y3 y4 y5 y6 y7 y8 y9 y11 y12 y13
  cases k with
  | zero => simp [herbariumlaw3_GapsExact.j5]
  | succ k => rw [herbariumlaw3_GapsExact.j5, if_pos rfl]; simp
set_option maxHeartbeats 8000000 in
set_option maxRecDepth 100000 in
theorem herbariumlaw3_GapsExact.calls (k : Nat) (A0_0 : Option Addr) (c0_0 : Nat) (l0_0 : List (List Int)) (A0_1 : Option Addr) (c0_1 : Nat) (l0_1 : List (S27)) (A0_2 : Option Addr) (c0_2 : Nat) (l0_2 : List Int) (w : World) (hr0_0 : Kd.C (Kd.slice 3 (Kd.int .i64)) w A0_0 l0_0.length l0_0) (hc0_0 : l0_0.length ≤ c0_0) (hr0_1 : Kd.C k27 w A0_1 l0_1.length l0_1) (hc0_1 : l0_1.length ≤ c0_1) (hr0_2 : Kd.C (Kd.int .i64) w A0_2 l0_2.length l0_2) (hc0_2 : l0_2.length ≤ c0_2) (h : herbariumlaw3_GapsExact.f k l0_0 l0_1 l0_2 = some true) :
    Calls Try.prog 23 #[.agg #[.slice A0_0 l0_0.length c0_0, .slice A0_1 l0_1.length c0_1, .slice A0_2 l0_2.length c0_2]] w fun e w' => e = .returned (.bool true) ∧ Below w.heap.size w w' := by
 have hu78 := Try.underlying78
 have hu27 := Try.underlying27
 have HR0_0 := ak hr0_0
 have HC0_0 := ak hc0_0
 clear hr0_0 hc0_0
 have HR0_1 := ak hr0_1
 have HC0_1 := ak hc0_1
 clear hr0_1 hc0_1
 have HR0_2 := ak hr0_2
 have HC0_2 := ak hc0_2
 clear hr0_2 hc0_2
 have HB := ak (Below.refl w.heap.size w)
 have H : ((herbariumlaw3_Heavy.f k l0_0 l0_1 l0_2).bind fun t1107 => (if t1107 = true then (some true) else ((herbariumlaw3_Lists.f l0_0 l0_1 l0_2).bind fun t1108 => ((some (([0, 7, 15, 16, (-1)] : List Int) : List Int)).bind fun y1111 => (if y1111.length + l0_2.length < 17592186044416 then ((some (y1111 ++ l0_2 : List Int)).bind fun y1114 => (if (y1114.length : Int) > 10 then (if 10 ≤ (y1114.length : Int) then (herbariumlaw3_GapsExact.j0 k t1108 (y1114.take (10 : Int).toNat) l0_0 l0_1 l0_2) else (none)) else (herbariumlaw3_GapsExact.j0 k t1108 y1114 l0_0 l0_1 l0_2))) else (none)))))) = some true := h
 clear h
 replace H := Option.bind_eq_some_iff.mp H
 obtain ⟨t1107, A20, H⟩ := H
 try dsimp only at H
 have A2 := ak A20
 clear A20
 by_cases c3 : t1107 = true
 ·
  subst c3
  have H1 : (some true) = some true := rfl
  clear H
  have H := H1
  clear H1 H
  go_enter Try.func23, Try.ntmps23
  go_wp2_with (first | ((with_reducible refine gate_dst (N := 1) rfl ?_); refine box_event ?hg (N := 1) ?hd (cs := #[.slice A0_0 l0_0.length c0_0, .slice A0_1 l0_1.length c0_1, .slice A0_2 l0_2.length c0_2]) (t := 78) ?hr ?_; (case hd => rfl); (case hg => rfl); (case hr => first | (go_simp; done) | (go_simp; rfl)); intro gb1106 hg w4 hbox hb; have n0_ := ak (below_step (ul HB.out) hb); have n1_ := ak (hbox); have n2_ := ak ((by rw [hg]; exact (below_size (ul HB.out)) : w.heap.size ≤ gb1106)); have n3_ := ak ((by rw [hg]; exact (below_size (ul HB.out)) : w.heap.size ≤ gb1106)); clear HB; have HB := n0_; have BK1106 := n1_; have GW1106 := n2_; have GE1106 := n3_; clear n0_ n1_ n2_ n3_; clear hb hbox hg; have hcz5_0 : w4.cell? ⟨gb1106, 0, none⟩ = some (.slice A0_0 l0_0.length c0_0) := (blk_cell BK1106.out 0).trans rfl; have hcz5_1 : w4.cell? ⟨gb1106, 1, none⟩ = some (.slice A0_1 l0_1.length c0_1) := (blk_cell BK1106.out 1).trans rfl; have hcz5_2 : w4.cell? ⟨gb1106, 2, none⟩ = some (.slice A0_2 l0_2.length c0_2) := (blk_cell BK1106.out 2).trans rfl; have hfz5_0 := blk_frozen BK1106.out 0; have hfz5_1 := blk_frozen BK1106.out 1; have hfz5_2 := blk_frozen BK1106.out 2) | ((with_reducible refine gate_callee (f := 69) rfl ?_); refine goesL_ (some 36) rfl rfl Try.func69 (by kernel_rfl) rfl #[.agg #[.slice A0_0 l0_0.length c0_0, .slice A0_1 l0_1.length c0_1, .slice A0_2 l0_2.length c0_2]] rfl (by (try simp only [List.map_toArray, List.map_cons, List.map_nil]); first | done | rfl | (simp only [List.length_drop, List.length_take]; rfl)) ?_; (with_reducible refine (herbariumlaw3_Heavy.calls k _ _ l0_0 _ _ l0_1 _ _ l0_2 true _ ?side1 ?side2 ?side3 ?side4 ?side5 ?side6 A2.out).mono ?_); (case side1 => exact uc (Kd.C_below HR0_0.out HB.out)); (case side2 => exact HC0_0.out); (case side3 => exact uc (Kd.C_below HR0_1.out HB.out)); (case side4 => exact HC0_1.out); (case side5 => exact uc (Kd.C_below HR0_2.out HB.out)); (case side6 => exact HC0_2.out); rintro e w6 ⟨rfl, hb⟩; refine ⟨_, rfl, ?_⟩; have n0_ := ak (blk_below (g := gb1106) (o := .cells #[.slice A0_0 l0_0.length c0_0, .slice A0_1 l0_1.length c0_1, .slice A0_2 l0_2.length c0_2] 78 (0, 0)) (ub BK1106.out) hb); have n1_ := ak (below_step (by repeat with_reducible first | exact HB.out | apply b1 | apply b2 | apply b3 | refine b4 ?_ GE1106.out) hb); clear BK1106; clear HB; have BK1106 := n0_; have HB := n1_; clear n0_ n1_; (try clear hb); (try clear hb2); (try clear hk); (try clear hi)))
  go_ret
  exact ⟨by first | rfl | (simp [errW_none, errW_some] <;> rfl) | (simp [*, errW_none, errW_some] <;> rfl), by repeat with_reducible first | exact HB.out | apply b1 | apply b2 | apply b3 | refine b4 ?_ GE1106.out⟩
 replace c3 := Bool.eq_false_iff.mpr c3
 subst c3
 rw [if_neg (show ¬ (false = true) by decide)] at H
 replace H := Option.bind_eq_some_iff.mp H
 obtain ⟨t1108, A70, H⟩ := H
 try dsimp only at H
 have A7 := ak A70
 clear A70
 obtain ⟨y1111, hy1111⟩ : ∃ y_ : List Int, y_ = (([0, 7, 15, 16, (-1)] : List Int)) := ⟨_, rfl⟩
 replace H : (if y1111.length + l0_2.length < 17592186044416 then ((some (y1111 ++ l0_2 : List Int)).bind fun y1114 => (if (y1114.length : Int) > 10 then (if 10 ≤ (y1114.length : Int) then (herbariumlaw3_GapsExact.j0 k t1108 (y1114.take (10 : Int).toNat) l0_0 l0_1 l0_2) else (none)) else (herbariumlaw3_GapsExact.j0 k t1108 y1114 l0_0 l0_1 l0_2))) else (none)) = some true := by first | (rw [hy1111]; with_reducible exact H) | (have H2_ := (Option.bind_some _ _).symm.trans H; rw [hy1111]; with_reducible exact H2_) | (have H2_ := (Option.bind_some _ _).symm.trans H; with_reducible exact H2_) | with_reducible exact H | (rw [hy1111]; exact H) | exact H
 have Ny1111 := ak hy1111
 clear hy1111
 by_cases c8 : y1111.length + l0_2.length < 17592186044416
 rotate_left
 ·
  rw [if_neg c8] at H
  exact absurd H (by simp)
 rw [if_pos c8] at H
 have LMc8 := ak c8
 clear c8
 obtain ⟨y1114, hy1114⟩ : ∃ y_ : List Int, y_ = (y1111 ++ l0_2) := ⟨_, rfl⟩
 replace H : (if (y1114.length : Int) > 10 then (if 10 ≤ (y1114.length : Int) then (herbariumlaw3_GapsExact.j0 k t1108 (y1114.take (10 : Int).toNat) l0_0 l0_1 l0_2) else (none)) else (herbariumlaw3_GapsExact.j0 k t1108 y1114 l0_0 l0_1 l0_2)) = some true := by first | (rw [hy1114]; with_reducible exact H) | (have H2_ := (Option.bind_some _ _).symm.trans H; rw [hy1114]; with_reducible exact H2_) | (have H2_ := (Option.bind_some _ _).symm.trans H; with_reducible exact H2_) | with_reducible exact H | (rw [hy1114]; exact H) | exact H
 have Ny1114 := ak hy1114
 clear hy1114
 have HC9 := ak H
 clear H
 go_enter Try.func23, Try.ntmps23
 go_upto_if 45 with (first | ((with_reducible refine gate_dst (N := 1) rfl ?_); refine box_event ?hg (N := 1) ?hd (cs := #[.slice A0_0 l0_0.length c0_0, .slice A0_1 l0_1.length c0_1, .slice A0_2 l0_2.length c0_2]) (t := 78) ?hr ?_; (case hd => rfl); (case hg => rfl); (case hr => first | (go_simp; done) | (go_simp; rfl)); intro gb1106 hg w10 hbox hb; have n0_ := ak (below_step (ul HB.out) hb); have n1_ := ak (hbox); have n2_ := ak ((by rw [hg]; exact (below_size (ul HB.out)) : w.heap.size ≤ gb1106)); have n3_ := ak ((by rw [hg]; exact (below_size (ul HB.out)) : w.heap.size ≤ gb1106)); clear HB; have HB := n0_; have BK1106 := n1_; have GW1106 := n2_; have GE1106 := n3_; clear n0_ n1_ n2_ n3_; clear hb hbox hg; have hcz11_0 : w10.cell? ⟨gb1106, 0, none⟩ = some (.slice A0_0 l0_0.length c0_0) := (blk_cell BK1106.out 0).trans rfl; have hcz11_1 : w10.cell? ⟨gb1106, 1, none⟩ = some (.slice A0_1 l0_1.length c0_1) := (blk_cell BK1106.out 1).trans rfl; have hcz11_2 : w10.cell? ⟨gb1106, 2, none⟩ = some (.slice A0_2 l0_2.length c0_2) := (blk_cell BK1106.out 2).trans rfl; have hfz11_0 := blk_frozen BK1106.out 0; have hfz11_1 := blk_frozen BK1106.out 1; have hfz11_2 := blk_frozen BK1106.out 2) | ((with_reducible refine gate_callee (f := 69) rfl ?_); refine goesL_ (some 36) rfl rfl Try.func69 (by kernel_rfl) rfl #[.agg #[.slice A0_0 l0_0.length c0_0, .slice A0_1 l0_1.length c0_1, .slice A0_2 l0_2.length c0_2]] rfl (by (try simp only [List.map_toArray, List.map_cons, List.map_nil]); first | done | rfl | (simp only [List.length_drop, List.length_take]; rfl)) ?_; (with_reducible refine (herbariumlaw3_Heavy.calls k _ _ l0_0 _ _ l0_1 _ _ l0_2 false _ ?side1 ?side2 ?side3 ?side4 ?side5 ?side6 A2.out).mono ?_); (case side1 => exact uc (Kd.C_below HR0_0.out HB.out)); (case side2 => exact HC0_0.out); (case side3 => exact uc (Kd.C_below HR0_1.out HB.out)); (case side4 => exact HC0_1.out); (case side5 => exact uc (Kd.C_below HR0_2.out HB.out)); (case side6 => exact HC0_2.out); rintro e w12 ⟨rfl, hb⟩; refine ⟨_, rfl, ?_⟩; have n0_ := ak (blk_below (g := gb1106) (o := .cells #[.slice A0_0 l0_0.length c0_0, .slice A0_1 l0_1.length c0_1, .slice A0_2 l0_2.length c0_2] 78 (0, 0)) (ub BK1106.out) hb); have n1_ := ak (below_step (by repeat with_reducible first | exact HB.out | apply b1 | apply b2 | apply b3 | refine b4 ?_ GE1106.out) hb); clear BK1106; clear HB; have BK1106 := n0_; have HB := n1_; clear n0_ n1_; (try clear hb); (try clear hb2); (try clear hk); (try clear hi); have hcz13_0 : w12.cell? ⟨gb1106, 0, none⟩ = some (.slice A0_0 l0_0.length c0_0) := (blk_cell BK1106.out 0).trans rfl; have hcz13_1 : w12.cell? ⟨gb1106, 1, none⟩ = some (.slice A0_1 l0_1.length c0_1) := (blk_cell BK1106.out 1).trans rfl; have hcz13_2 : w12.cell? ⟨gb1106, 2, none⟩ = some (.slice A0_2 l0_2.length c0_2) := (blk_cell BK1106.out 2).trans rfl; have hfz13_0 := blk_frozen BK1106.out 0; have hfz13_1 := blk_frozen BK1106.out 1; have hfz13_2 := blk_frozen BK1106.out 2) | ((with_reducible refine gate_callee (f := 70) rfl ?_); refine goesL_ (some 38) rfl rfl Try.func70 (by kernel_rfl) rfl #[.agg #[.slice A0_0 l0_0.length c0_0, .slice A0_1 l0_1.length c0_1, .slice A0_2 l0_2.length c0_2]] rfl (by (try simp only [List.map_toArray, List.map_cons, List.map_nil]); first | done | rfl | (simp only [List.length_drop, List.length_take]; rfl)) ?_; (with_reducible refine (herbariumlaw3_Lists.calls (fun k_ => k_ < w.heap.size) _ _ l0_0 _ _ l0_1 _ _ l0_2 t1108 _ ?side1 ?side2 ?side3 ?side4 ?side5 A7.out).mono ?_); (case side1 => exact Kd.V_mk HC0_0.out (Kd.F_below (Kd.C_F (Kd.heap_slice 3 (Kd.heap_int .i64)) HR0_0.out) (by repeat with_reducible first | exact HB.out | apply b1 | apply b2 | apply b3 | refine b4 ?_ GE1106.out))); (case side2 => exact uc (Kd.C_below HR0_1.out HB.out)); (case side3 => exact HC0_1.out); (case side4 => exact uc (Kd.C_below HR0_2.out HB.out)); (case side5 => exact HC0_2.out); rintro e w14 ⟨v1109, rfl, ho0, hb⟩; refine ⟨_, rfl, ?_⟩; have n0_ := ak (Kd.N_lower (Kd.N_mono (ok' := fun k_ => k_ ≠ gb1106) ho0 (fun k_ hk_ => Or.elim hk_ (fun hs_ => fun e_ => Nat.not_le.2 hs_ (by rw [e_]; exact GW1106.out)) (fun hn_ => (Kd.freshB (g := gb1106) (o := .cells #[.slice A0_0 l0_0.length c0_0, .slice A0_1 l0_1.length c0_1, .slice A0_2 l0_2.length c0_2] 78 (0, 0)) (ub BK1106.out) k_ hn_)))) (below_size (by repeat with_reducible first | exact HB.out | apply b1 | apply b2 | apply b3 | refine b4 ?_ GE1106.out))); have n1_ := ak (blk_below (g := gb1106) (o := .cells #[.slice A0_0 l0_0.length c0_0, .slice A0_1 l0_1.length c0_1, .slice A0_2 l0_2.length c0_2] 78 (0, 0)) (ub BK1106.out) hb); have n2_ := ak (below_step (by repeat with_reducible first | exact HB.out | apply b1 | apply b2 | apply b3 | refine b4 ?_ GE1106.out) hb); clear BK1106; clear HB; have HO1110 := n0_; have BK1106 := n1_; have HB := n2_; clear n0_ n1_ n2_; (try clear hb); (try clear hb2); (try clear hk); (try clear hi); (try clear ho0)) | ((with_reducible refine gate_dst (N := 39) rfl ?_); refine Kd.R_lit (Kd.int .i64) _ 3 ?hg (N := 39) ?hd (xs := ([0, 7, 15, 16, (-1)] : List Int)) (inner := [.int .i64 0, .int .i64 7, .int .i64 15, .int .i64 16, .int .i64 (-1)]) (ok := fun _ => True) (okp := fun _ => True) ?hr ?hp (fun _ hk => hk) trivial (Below.refl _ _) (Nat.le_refl _) (by simp) ?_; (case hd => rfl); (case hg => rfl); (case hr => first | (go_simp; done) | (go_simp; rfl)); (case hp => exact (Reps.one (show Kd.M (Kd.int .i64) _ _ _ 0 [.int .i64 0] from rfl) (Reps.one (show Kd.M (Kd.int .i64) _ _ _ 7 [.int .i64 7] from rfl) (Reps.one (show Kd.M (Kd.int .i64) _ _ _ 15 [.int .i64 15] from rfl) (Reps.one (show Kd.M (Kd.int .i64) _ _ _ 16 [.int .i64 16] from rfl) (Reps.one (show Kd.M (Kd.int .i64) _ _ _ (-1) [.int .i64 (-1)] from rfl) (Reps.none _ _))))))); intro v1112 w15 ho16 hb hg_ hnew_; clear hg_ hnew_; (first | rw [← Ny1111.out] at ho16 | (simp only [Int.reduceToNat] at ho16; rw [← Ny1111.out] at ho16)); have n0_ := ak (Kd.N_elder' (un <| HO1110.out) (Kd.R_base ho16) hb); have n1_ := ak (Kd.R_lower ho16 (below_size (by repeat with_reducible first | exact HB.out | apply b1 | apply b2 | apply b3 | refine b4 ?_ GE1106.out))); have n2_ := ak (blk_below (g := gb1106) (o := .cells #[.slice A0_0 l0_0.length c0_0, .slice A0_1 l0_1.length c0_1, .slice A0_2 l0_2.length c0_2] 78 (0, 0)) (ub BK1106.out) hb); have n3_ := ak (below_step (by repeat with_reducible first | exact HB.out | apply b1 | apply b2 | apply b3 | refine b4 ?_ GE1106.out) hb); clear HO1110; clear BK1106; clear HB; have HO1110 := n0_; have HO1113 := n1_; have BK1106 := n2_; have HB := n3_; clear n0_ n1_ n2_ n3_; clear hb ho16; have hcz17_0 : w15.cell? ⟨gb1106, 0, none⟩ = some (.slice A0_0 l0_0.length c0_0) := (blk_cell BK1106.out 0).trans rfl; have hcz17_1 : w15.cell? ⟨gb1106, 1, none⟩ = some (.slice A0_1 l0_1.length c0_1) := (blk_cell BK1106.out 1).trans rfl; have hcz17_2 : w15.cell? ⟨gb1106, 2, none⟩ = some (.slice A0_2 l0_2.length c0_2) := (blk_cell BK1106.out 2).trans rfl; have hfz17_0 := blk_frozen BK1106.out 0; have hfz17_1 := blk_frozen BK1106.out 1; have hfz17_2 := blk_frozen BK1106.out 2) | ((with_reducible refine gate_builtin (b := .append) (xs := #[.tmp 39, .tmp 41]) rfl ?_); at_builtin; refine Kd.R_append_rows (Kd.int .i64) (w0 := w) w.heap.size rfl (.tmp 39) (.tmp 41) 23 3 (.int .i64 0) 8 rfl Try.underlying23 info3 rfl (by decide) (by omega) v1112 y1111 l0_2 _ _ _ (fun _ => True) (fun _ => False) rfl rfl ?aO ?aR (fun _ _ h => h) (fun _ h => h.elim) ?aF ?aB ?aS ?aL ?_; (case aR => exact uc (Kd.C_below HR0_2.out HB.out)); (case aB => exact (by repeat with_reducible first | exact HB.out | apply b1 | apply b2 | apply b3 | refine b4 ?_ GE1106.out)); (case aF => exact (fun _ _ => trivial)); (case aO => exact (ur <| HO1113.out)); (case aS => exact (below_size (by repeat with_reducible first | exact HB.out | apply b1 | apply b2 | apply b3 | refine b4 ?_ GE1106.out))); (case aL => have := LMc8.out; omega); intro v1115 w18 ho hb hg hat; rw [← Ny1114.out] at ho; have n0_ := ak (blk_grown (g := gb1106) (o := .cells #[.slice A0_0 l0_0.length c0_0, .slice A0_1 l0_1.length c0_1, .slice A0_2 l0_2.length c0_2] 78 (0, 0)) (ub BK1106.out) hg (Kd.R_ne HO1113.out BK1106.out (by decide))); have n1_ := ak (Kd.N_afterv (ok := (fun k_ => k_ ≠ gb1106)) (un <| HO1110.out) hg hat); have n2_ := ak (hb); have n3_ := ak (ho); clear BK1106; clear HO1110; clear HB; clear HO1113; have BK1106 := n0_; have HO1110 := n1_; have HB := n2_; have HO1116 := n3_; clear n0_ n1_ n2_ n3_; clear ho hb hg hat; obtain ⟨Ao19, co19, eo19⟩ := Kd.R_slice HO1116.out; subst eo19))
 (try simp only [Act.put, s1, s2, s3])
 go_cut [4] (fun v4 wc => ∃ (kq : Nat) (x4_8 : List Int), Aside0 (herbariumlaw3_GapsExact.j0 kq t1108 x4_8 l0_0 l0_1 l0_2 = some true) ∧ Aside0 (kq ≤ k) ∧ Aside0 (Kd.N (Kd.slice 3 (Kd.int .i64)) 23 wc w.heap.size (fun k_ => some k_ ≠ (v4 : Value).ownBlock ∧ k_ ≠ gb1106) v1109 t1108) ∧ Aside0 (Kd.R (Kd.int .i64) 3 wc w.heap.size (fun _ => True) v4 x4_8) ∧ Aside0 (wc.heap[gb1106]? = some (.cells #[(.slice A0_0 l0_0.length c0_0), (.slice A0_1 l0_1.length c0_1), (.slice A0_2 l0_2.length c0_2)] 78 (0, 0))) ∧ Aside0 (Below w.heap.size w wc))
 case first => as_aux_lemma =>
  have H := HC9.out
  clear HC9
  by_cases c20 : (y1114.length : Int) > 10
  rotate_left
  ·
   rw [if_neg c20] at H
   have c20b0 : decide (10 < (y1114.length : Int)) = false := decide_eq_false c20
   have c20b1 : decide (10 < y1114.length) = false := decide_eq_false (by omega)
   clear c20
   (first | rw [c20b0] | (simp only [i64_w, i32_w]; rw [c20b0]) | skip)
   have H' := ak H
   clear H
   go_wp2
   go_meet
   case rel => exact ⟨_, (y1114), H', ⟨by first | omega | exact Nat.le_refl _⟩, ⟨un <| Kd.N_mono HO1110.out (fun _ hk => ⟨hk.2, hk.1⟩)⟩, ⟨ur <| HO1116.out⟩, ⟨ub BK1106.out⟩, ⟨by repeat with_reducible first | exact HB.out | apply b1 | apply b2 | apply b3 | refine b4 ?_ GE1106.out⟩⟩
  rw [if_pos c20] at H
  have c20b0 : decide (10 < (y1114.length : Int)) = true := decide_eq_true c20
  have c20b1 : decide (10 < y1114.length) = true := decide_eq_true (by omega)
  clear c20
  (first | rw [c20b0] | (simp only [i64_w, i32_w]; rw [c20b0]) | skip)
  by_cases c21 : 10 ≤ (y1114.length : Int)
  rotate_left
  ·
   rw [if_neg c21] at H
   exact absurd H (by simp)
  rw [if_pos c21] at H
  have c21b0 := eq_true c21
  have c21b1 : decide (10 ≤ (y1114.length : Int)) = true := decide_eq_true c21
  clear c21
  obtain ⟨y1117, hy1117⟩ : ∃ y_ : List Int, y_ = (y1114.take (10 : Int).toNat) := ⟨_, rfl⟩
  replace H : (herbariumlaw3_GapsExact.j0 k t1108 y1117 l0_0 l0_1 l0_2) = some true := by first | (rw [hy1117]; with_reducible exact H) | (have H2_ := (Option.bind_some _ _).symm.trans H; rw [hy1117]; with_reducible exact H2_) | (have H2_ := (Option.bind_some _ _).symm.trans H; with_reducible exact H2_) | with_reducible exact H | (rw [hy1117]; exact H) | exact H
  have Ny1117 := ak hy1117
  clear hy1117
  have H' := ak H
  clear H
  have q22 : (10 : Int) ≤ ((y1114.length : Int) : Int) := of_decide_eq_true (by first | (with_reducible assumption) | assumption)
  obtain ⟨i022, hi022, _, hsz22, _⟩ := info_parts info3
  have hcut22 := cut_to (P := Try.prog) 23 3 .i64 Try.underlying23 hi022 Ao19 y1114.length co19 10 (by omega) q22 (Kd.R_reads' HO1116.out).2.1
  have hr22 := Kd.R_take (m := (10 : Int).toNat) HO1116.out (by omega)
  have hy22 : y1117.length = (10 : Int).toNat := (by rw [Ny1117.out, List.length_take]; omega)
  rw [← Ny1117.out] at hr22
  rw [← hy22] at hr22 hcut22
  clear hy22 hi022 hsz22 HO1116
  have HO1119 := ak hr22
  clear hr22
  replace q22 := eq_true q22
  go_wp2
  go_meet
  case rel => exact ⟨_, (y1117), H', ⟨by first | omega | exact Nat.le_refl _⟩, ⟨un <| Kd.N_mono HO1110.out (fun _ hk => ⟨herbariumlaw3_GapsExact.own_cut hk.2, hk.1⟩)⟩, ⟨ur <| HO1119.out⟩, ⟨ub BK1106.out⟩, ⟨by repeat with_reducible first | exact HB.out | apply b1 | apply b2 | apply b3 | refine b4 ?_ GE1106.out⟩⟩
 as_aux_lemma =>
  clear HC9
  (try clear c3); (try clear c8); (try clear hcz11_0); (try clear hcz11_1); (try clear hcz11_2); (try clear hcz13_0); (try clear hcz13_1); (try clear hcz13_2); (try clear hcz17_0); (try clear hcz17_1); (try clear hcz17_2); (try clear hfz11_0); (try clear hfz11_1); (try clear hfz11_2); (try clear hfz13_0); (try clear hfz13_1); (try clear hfz13_2); (try clear hfz17_0); (try clear hfz17_1); (try clear hfz17_2); (try clear BK1106); (try clear HB)
  obtain ⟨kq, x4_8, HA, HJ8, HO_3, HO_4, BK1106, HB⟩ := hcut
  cases kq with
  | zero => exact absurd HA.out (by simp [herbariumlaw3_GapsExact.j0])
  | succ kj8 => ?_
  have H := HA.out
  clear HA
  simp only [herbariumlaw3_GapsExact.j0] at H
  have H' := ak H
  clear H
  go_wp2
  go_loopg [5, 6] kj8 (fun kq v5 v6 w' => ∃ (x5_2 : List (List Int)) (x6_2 : Int), v6 = .int .i64 x6_2 ∧ Aside0 (herbariumlaw3_GapsExact.l0 kq t1108 x4_8 x5_2 x6_2 l0_0 l0_1 l0_2 = some true) ∧ Aside0 (kq ≤ kj8) ∧ Aside0 (Kd.N (Kd.slice 3 (Kd.int .i64)) 23 w' w.heap.size (fun k_ => some k_ ≠ (u4 : Value).ownBlock ∧ some k_ ≠ (v5 : Value).ownBlock ∧ k_ ≠ gb1106) v1109 t1108) ∧ Aside0 (Kd.R (Kd.int .i64) 3 w' w.heap.size (fun _ => True) u4 x4_8) ∧ Aside0 (Kd.N (Kd.slice 5 (Kd.int .u8)) 64 w' w.heap.size (fun k_ => some k_ ≠ (v1109 : Value).ownBlock ∧ some k_ ≠ (u4 : Value).ownBlock ∧ k_ ≠ gb1106) v5 x5_2) ∧ Aside0 (w'.heap[gb1106]? = some (.cells #[(.slice A0_0 l0_0.length c0_0), (.slice A0_1 l0_1.length c0_1), (.slice A0_2 l0_2.length c0_2)] 78 (0, 0))) ∧ Aside0 (Below w.heap.size w w'))
  case atStart => exact ⟨(([] : List (List Int))), (0), (by first | rfl | (simp; done) | (simp [*]; done)), H', ⟨Nat.le_refl _⟩, ⟨un <| Kd.N_mono HO_3.out (fun _ hk => ⟨hk.1, ⟨(by simp [Value.ownBlock]), hk.2⟩⟩)⟩, ⟨ur <| HO_4.out⟩, ⟨by first | exact Kd.S_nil _ _ _ _ _ | exact Kd.N_nil _ _ _ _ _ | exact Kd.V_nil _ _ _ _ _ | exact Kd.Q_nil _ _ _ _ _ | exact Kd.R_nil _ _ _ _ _⟩, ⟨ub BK1106.out⟩, ⟨by repeat with_reducible first | exact HB.out | apply b1 | apply b2 | apply b3 | refine b4 ?_ GE1106.out⟩⟩
  as_aux_lemma =>
   clear H'
   (try clear c3); (try clear c8); (try clear hcz11_0); (try clear hcz11_1); (try clear hcz11_2); (try clear hcz13_0); (try clear hcz13_1); (try clear hcz13_2); (try clear hcz17_0); (try clear hcz17_1); (try clear hcz17_2); (try clear hfz11_0); (try clear hfz11_1); (try clear hfz11_2); (try clear hfz13_0); (try clear hfz13_1); (try clear hfz13_2); (try clear hfz17_0); (try clear hfz17_1); (try clear hfz17_2); (try clear HA); (try clear HO_3); (try clear HO_4); (try clear BK1106); (try clear HB)
   obtain ⟨x5_2, x6_2, rfl, HA, HK2, HO_3, HO_4, HO_5, BK1106, HB⟩ := hrel
   cases gk with
   | zero => exact absurd HA.out (by simp [herbariumlaw3_GapsExact.l0])
   | succ k2 => ?_
   have H := HA.out
   clear HA
   simp only [herbariumlaw3_GapsExact.l0] at H
   by_cases c23 : x6_2 < (t1108.length : Int)
   rotate_left
   ·
    rw [if_neg c23] at H
    have c23b0 : decide (x6_2 < (t1108.length : Int)) = false := decide_eq_false c23
    clear c23
    replace H := Option.bind_eq_some_iff.mp H
    obtain ⟨t1164, A1180, H⟩ := H
    try dsimp only at H
    have A118 := ak A1180
    clear A1180
    have H' := ak H
    clear H
    obtain ⟨Ao119, co119, eo119⟩ := Kd.N_slice HO_3.out
    subst eo119
    have hcz120_0 : wr.cell? ⟨gb1106, 0, none⟩ = some (.slice A0_0 l0_0.length c0_0) := (blk_cell BK1106.out 0).trans rfl
    have hcz120_1 : wr.cell? ⟨gb1106, 1, none⟩ = some (.slice A0_1 l0_1.length c0_1) := (blk_cell BK1106.out 1).trans rfl
    have hcz120_2 : wr.cell? ⟨gb1106, 2, none⟩ = some (.slice A0_2 l0_2.length c0_2) := (blk_cell BK1106.out 2).trans rfl
    have hfz120_0 := blk_frozen BK1106.out 0
    have hfz120_1 := blk_frozen BK1106.out 1
    have hfz120_2 := blk_frozen BK1106.out 2
    obtain ⟨Ao121, co121, eo121⟩ := Kd.N_slice HO_5.out
    subst eo121
    go_wp2_with (first | ((with_reducible refine gate_callee (f := 83) rfl ?_); refine goesL_ (some 191) rfl rfl Try.func83 (by kernel_rfl) rfl #[.agg #[.slice A0_0 l0_0.length c0_0, .slice A0_1 l0_1.length c0_1, .slice A0_2 l0_2.length c0_2], .slice Ao121 x5_2.length co121] rfl (by (try simp only [List.map_toArray, List.map_cons, List.map_nil]); first | done | rfl | (simp only [List.length_drop, List.length_take]; rfl)) ?_; (with_reducible refine (herbariumlaw3_Texts.calls k2 _ _ l0_0 _ _ l0_1 _ _ l0_2 _ _ x5_2 t1164 _ ?side1 ?side2 ?side3 ?side4 ?side5 ?side6 ?side7 ?side8 A118.out).mono ?_); (case side1 => exact uc (Kd.C_below HR0_0.out HB.out)); (case side2 => exact HC0_0.out); (case side3 => exact uc (Kd.C_below HR0_1.out HB.out)); (case side4 => exact HC0_1.out); (case side5 => exact uc (Kd.C_below HR0_2.out HB.out)); (case side6 => exact HC0_2.out); (case side7 => exact uc (Kd.N_reads' HO_5.out).2.2); (case side8 => exact (Kd.N_reads' HO_5.out).2.1); rintro e w122 ⟨v1165, rfl, ho0, hb⟩; refine ⟨_, rfl, ?_⟩; have n0_ := ak (Kd.N_elder' (un <| HO_3.out) (Kd.R_base ho0) hb); have n1_ := ak (Kd.R_below (ur <| HO_4.out) hb); have n2_ := ak (Kd.N_elder' (un <| HO_5.out) (Kd.R_base ho0) hb); have n3_ := ak (Kd.R_lower ho0 (below_size (by repeat with_reducible first | exact HB.out | apply b1 | apply b2 | apply b3 | refine b4 ?_ GE1106.out))); have n4_ := ak (blk_below (g := gb1106) (o := .cells #[.slice A0_0 l0_0.length c0_0, .slice A0_1 l0_1.length c0_1, .slice A0_2 l0_2.length c0_2] 78 (0, 0)) (ub BK1106.out) hb); have n5_ := ak (below_step (by repeat with_reducible first | exact HB.out | apply b1 | apply b2 | apply b3 | refine b4 ?_ GE1106.out) hb); clear HO_3; clear HO_4; clear HO_5; clear BK1106; clear HB; have HO_3 := n0_; have HO_4 := n1_; have HO_5 := n2_; have HO1166 := n3_; have BK1106 := n4_; have HB := n5_; clear n0_ n1_ n2_ n3_ n4_ n5_; (try clear hb); (try clear hb2); (try clear hk); (try clear hi); (try clear ho0)))
    go_loopg [21] k2 (fun kq v21 w' => ∃ (x4_3 : List Int) (x21_3 : Int), v21 = .int .i64 x21_3 ∧ Aside0 (herbariumlaw3_GapsExact.l3 kq x4_3 t1164 x21_3 = some true) ∧ Aside0 (kq ≤ k2) ∧ Aside0 (Kd.R (Kd.int .i64) 3 w' w.heap.size (fun _ => True) u4 x4_3) ∧ Aside0 (Kd.R k27 27 w' w.heap.size (fun _ => True) v1165 t1164) ∧ Aside0 (w'.heap[gb1106]? = some (.cells #[(.slice A0_0 l0_0.length c0_0), (.slice A0_1 l0_1.length c0_1), (.slice A0_2 l0_2.length c0_2)] 78 (0, 0))) ∧ Aside0 (Below w.heap.size w w'))
    case atStart => exact ⟨(x4_8), (0), (by first | rfl | (simp; done) | (simp [*]; done)), H', ⟨Nat.le_refl _⟩, ⟨ur <| HO_4.out⟩, ⟨ur <| HO1166.out⟩, ⟨ub BK1106.out⟩, ⟨by repeat with_reducible first | exact HB.out | apply b1 | apply b2 | apply b3 | refine b4 ?_ GE1106.out⟩⟩
    as_aux_lemma =>
     clear H'
     (try clear c3); (try clear c8); (try clear c23); (try clear c23b0); (try clear hcz11_0); (try clear hcz11_1); (try clear hcz11_2); (try clear hcz120_0); (try clear hcz120_1); (try clear hcz120_2); (try clear hcz13_0); (try clear hcz13_1); (try clear hcz13_2); (try clear hcz17_0); (try clear hcz17_1); (try clear hcz17_2); (try clear hfz11_0); (try clear hfz11_1); (try clear hfz11_2); (try clear hfz120_0); (try clear hfz120_1); (try clear hfz120_2); (try clear hfz13_0); (try clear hfz13_1); (try clear hfz13_2); (try clear hfz17_0); (try clear hfz17_1); (try clear hfz17_2); (try clear HA); (try clear HO_4)
     (try clear BK1106); (try clear HB)
     obtain ⟨x4_3, x21_3, rfl, HA, HK3, HO_4, HO_20, BK1106, HB⟩ := hrel
     cases gk with
     | zero => exact absurd HA.out (by simp [herbariumlaw3_GapsExact.l3])
     | succ k3 => ?_
     have H := HA.out
     clear HA
     simp only [herbariumlaw3_GapsExact.l3] at H
     by_cases c123 : x21_3 < (t1164.length : Int)
     rotate_left
     ·
      rw [if_neg c123] at H
      have c123b0 : decide (x21_3 < (t1164.length : Int)) = false := decide_eq_false c123
      clear c123
      replace H := Option.bind_eq_some_iff.mp H
      obtain ⟨t1167, A1700, H⟩ := H
      try dsimp only at H
      have A170 := ak A1700
      clear A1700
      obtain rfl := Option.some.inj H
      obtain ⟨Ao171, co171, eo171⟩ := Kd.R_slice HO_20.out
      subst eo171
      go_wp2_with (first | ((with_reducible refine gate_callee (f := 76) rfl ?_); refine goesL_ (some 285) rfl rfl Try.func76 (by kernel_rfl) rfl #[] rfl (by (try simp only [List.map_toArray, List.map_cons, List.map_nil]); first | done | rfl | (simp only [List.length_drop, List.length_take]; rfl)) ?_; (with_reducible refine (herbariumlaw3_wakes.calls k3  true _ A170.out).mono ?_); rintro e w172 ⟨rfl, hb⟩; refine ⟨_, rfl, ?_⟩; have n0_ := ak (Kd.R_below (ur <| HO_4.out) hb); have n1_ := ak (Kd.R_below (ur <| HO_20.out) hb); have n2_ := ak (blk_below (g := gb1106) (o := .cells #[.slice A0_0 l0_0.length c0_0, .slice A0_1 l0_1.length c0_1, .slice A0_2 l0_2.length c0_2] 78 (0, 0)) (ub BK1106.out) hb); have n3_ := ak (below_step (by repeat with_reducible first | exact HB.out | apply b1 | apply b2 | apply b3 | refine b4 ?_ GE1106.out) hb); clear HO_4; clear HO_20; clear BK1106; clear HB; have HO_4 := n0_; have HO_20 := n1_; have BK1106 := n2_; have HB := n3_; clear n0_ n1_ n2_ n3_; (try clear hb); (try clear hb2); (try clear hk); (try clear hi)))
      go_ret
      exact ⟨by first | rfl | (simp [errW_none, errW_some] <;> rfl) | (simp [*, errW_none, errW_some] <;> rfl), by repeat with_reducible first | exact HB.out | apply b1 | apply b2 | apply b3 | refine b4 ?_ GE1106.out⟩
     rw [if_pos c123] at H
     have c123b0 : decide (x21_3 < (t1164.length : Int)) = true := decide_eq_true c123
     clear c123
     by_cases c124 : 0 ≤ x21_3
     rotate_left
     ·
      rw [if_neg c124] at H
      exact absurd H (by simp)
     rw [if_pos c124] at H
     have c124b0 : decide (0 ≤ x21_3) = true := decide_eq_true c124
     clear c124
     replace H := Option.bind_eq_some_iff.mp H
     obtain ⟨t1169, A1250, H⟩ := H
     try dsimp only at H
     have A125 := ak A1250
     clear A1250
     have HC126 := ak H
     clear H
     obtain ⟨Ao127, co127, eo127⟩ := Kd.R_slice HO_20.out
     subst eo127
     have p1168 : 0 ≤ (x21_3 : Int) := of_decide_eq_true (by first | (with_reducible assumption) | assumption)
     have q1168 : x21_3 < (t1164.length : Int) := of_decide_eq_true (by first | (with_reducible assumption) | assumption)
     obtain ⟨ad1168, e1168, hx1168_0, hx1168_1⟩ := at_T27 (Kd.R_reads' HO_20.out).2.2 x21_3 p1168 q1168
     cases e1168
     replace p1168 := eq_true p1168
     replace q1168 := eq_true q1168
     go_upto_if 203 with (first | ((with_reducible refine gate_callee (f := 50) rfl ?_); refine goesL_ (some 202) rfl rfl Try.func50 (by kernel_rfl) rfl #[.agg #[.string ((rd_T27 t1164 x21_3).f0), .int .i64 ((rd_T27 t1164 x21_3).f1)]] rfl (by (try simp only [List.map_toArray, List.map_cons, List.map_nil]); first | done | rfl | (simp only [List.length_drop, List.length_take]; rfl)) ?_; (with_reducible refine (herbariumref1_Bits.calls k3 ((rd_T27 t1164 x21_3).f0) ((rd_T27 t1164 x21_3).f1) t1169 _ A125.out).mono ?_); rintro e w128 ⟨rfl, hb⟩; refine ⟨_, rfl, ?_⟩; have n0_ := ak (Kd.R_below (ur <| HO_4.out) hb); have n1_ := ak (Kd.R_below (ur <| HO_20.out) hb); have n2_ := ak (blk_below (g := gb1106) (o := .cells #[.slice A0_0 l0_0.length c0_0, .slice A0_1 l0_1.length c0_1, .slice A0_2 l0_2.length c0_2] 78 (0, 0)) (ub BK1106.out) hb); have n3_ := ak (below_step (by repeat with_reducible first | exact HB.out | apply b1 | apply b2 | apply b3 | refine b4 ?_ GE1106.out) hb); clear HO_4; clear HO_20; clear BK1106; clear HB; have HO_4 := n0_; have HO_20 := n1_; have BK1106 := n2_; have HB := n3_; clear n0_ n1_ n2_ n3_; (try clear hb); (try clear hb2); (try clear hk); (try clear hi)))
     (try simp only [Act.put, s1, s2, s3])
     go_cut [23] (fun v23 wc => ∃ (kq : Nat) (x23_125 : List Int), Aside0 (herbariumlaw3_GapsExact.j11 kq x4_3 t1164 x21_3 t1169 x23_125 = some true) ∧ Aside0 (kq ≤ k3) ∧ Aside0 (Kd.R (Kd.int .i64) 3 wc w.heap.size (fun _ => True) u4 x4_3) ∧ Aside0 (Kd.R k27 27 wc w.heap.size (fun _ => True) (.slice (some ad1168) t1164.length co127) t1164) ∧ Aside0 (Kd.R (Kd.int .u8) 5 wc w.heap.size (fun _ => True) v23 x23_125) ∧ Aside0 (wc.heap[gb1106]? = some (.cells #[(.slice A0_0 l0_0.length c0_0), (.slice A0_1 l0_1.length c0_1), (.slice A0_2 l0_2.length c0_2)] 78 (0, 0))) ∧ Aside0 (Below w.heap.size w wc))
     case first => as_aux_lemma =>
      have H := HC126.out
      clear HC126
      by_cases c129 : t1169 = true
      rotate_left
      ·
       replace c129 := Bool.eq_false_iff.mpr c129
       subst c129
       rw [if_neg (show ¬ (false = true) by decide)] at H
       have H' := ak H
       clear H
       go_wp2
       go_meet
       case rel => exact ⟨_, (([] : List Int)), H', ⟨by have := HJ8.out; have := HK2.out; have := HK3.out; first | omega | exact Nat.le_refl _⟩, ⟨ur <| HO_4.out⟩, ⟨ur <| HO_20.out⟩, ⟨by first | exact Kd.R_nil _ _ _ _ _ | exact Kd.N_nil _ _ _ _ _ | exact Kd.V_nil _ _ _ _ _ | exact Kd.Q_nil _ _ _ _ _ | exact Kd.S_nil _ _ _ _ _⟩, ⟨ub BK1106.out⟩, ⟨by repeat with_reducible first | exact HB.out | apply b1 | apply b2 | apply b3 | refine b4 ?_ GE1106.out⟩⟩
      subst c129
      rw [if_pos rfl] at H
      replace H := Option.bind_eq_some_iff.mp H
      obtain ⟨t1171, A1300, H⟩ := H
      try dsimp only at H
      have A130 := ak A1300
      clear A1300
      have H' := ak H
      clear H
      have p1170 : 0 ≤ (x21_3 : Int) := of_decide_eq_true (by first | (with_reducible assumption) | assumption)
      have q1170 : x21_3 < (t1164.length : Int) := of_decide_eq_true (by first | (with_reducible assumption) | assumption)
      obtain ⟨ad1170, e1170, hx1170_0, hx1170_1⟩ := at_T27 (Kd.R_reads' HO_20.out).2.2 x21_3 p1170 q1170
      obtain rfl : ad1168 = ad1170 := (by injection e1170)
      replace p1170 := eq_true p1170
      replace q1170 := eq_true q1170
      go_wp2_with (first | ((with_reducible refine gate_callee (f := 52) rfl ?_); refine goesL_ (some 208) rfl rfl Try.func52 (by kernel_rfl) rfl #[.agg #[.string ((rd_T27 t1164 x21_3).f0), .int .i64 ((rd_T27 t1164 x21_3).f1)]] rfl (by (try simp only [List.map_toArray, List.map_cons, List.map_nil]); first | done | rfl | (simp only [List.length_drop, List.length_take]; rfl)) ?_; (with_reducible refine (herbariumref1_Of.calls k3 ((rd_T27 t1164 x21_3).f0) ((rd_T27 t1164 x21_3).f1) t1171 _ A130.out).mono ?_); rintro e w131 ⟨v1172, rfl, ho0, hb⟩; refine ⟨_, rfl, ?_⟩; have n0_ := ak (Kd.R_below (ur <| HO_4.out) hb); have n1_ := ak (Kd.R_below (ur <| HO_20.out) hb); have n2_ := ak (Kd.R_lower ho0 (below_size (by repeat with_reducible first | exact HB.out | apply b1 | apply b2 | apply b3 | refine b4 ?_ GE1106.out))); have n3_ := ak (blk_below (g := gb1106) (o := .cells #[.slice A0_0 l0_0.length c0_0, .slice A0_1 l0_1.length c0_1, .slice A0_2 l0_2.length c0_2] 78 (0, 0)) (ub BK1106.out) hb); have n4_ := ak (below_step (by repeat with_reducible first | exact HB.out | apply b1 | apply b2 | apply b3 | refine b4 ?_ GE1106.out) hb); clear HO_4; clear HO_20; clear BK1106; clear HB; have HO_4 := n0_; have HO_20 := n1_; have HO1173 := n2_; have BK1106 := n3_; have HB := n4_; clear n0_ n1_ n2_ n3_ n4_; (try clear hb); (try clear hb2); (try clear hk); (try clear hi); (try clear ho0)))
      go_meet
      case rel => exact ⟨_, (t1171), H', ⟨by have := HJ8.out; have := HK2.out; have := HK3.out; first | omega | exact Nat.le_refl _⟩, ⟨ur <| HO_4.out⟩, ⟨ur <| HO_20.out⟩, ⟨ur <| HO1173.out⟩, ⟨ub BK1106.out⟩, ⟨by repeat with_reducible first | exact HB.out | apply b1 | apply b2 | apply b3 | refine b4 ?_ GE1106.out⟩⟩
     as_aux_lemma =>
      clear HC126
      (try clear c3); (try clear c8); (try clear c23); (try clear c23b0); (try clear c123); (try clear c123b0); (try clear c124); (try clear c124b0); (try clear hcz11_0); (try clear hcz11_1); (try clear hcz11_2); (try clear hcz120_0); (try clear hcz120_1); (try clear hcz120_2); (try clear hcz13_0); (try clear hcz13_1); (try clear hcz13_2); (try clear hcz17_0); (try clear hcz17_1); (try clear hcz17_2); (try clear hfz11_0); (try clear hfz11_1); (try clear hfz11_2); (try clear hfz120_0); (try clear hfz120_1); (try clear hfz120_2); (try clear hfz13_0); (try clear hfz13_1); (try clear hfz13_2); (try clear hfz17_0)
      (try clear hfz17_1); (try clear hfz17_2); (try clear hx1168_0); (try clear hx1168_1); (try clear p1168); (try clear q1168); (try clear HA); (try clear HO_4); (try clear HO_20); (try clear BK1106); (try clear HB)
      obtain ⟨kq, x23_125, HA, HJ125, HO_4, HO_20, HO_23, BK1106, HB⟩ := hcut
      cases kq with
      | zero => exact absurd HA.out (by simp [herbariumlaw3_GapsExact.j11])
      | succ kj125 => ?_
      have H := HA.out
      clear HA
      simp only [herbariumlaw3_GapsExact.j11] at H
      have H' := ak H
      clear H
      go_wp2
      go_loopg [24] kj125 (fun kq v24 w' => ∃ (x4_5 : List Int) (x24_5 : Int), v24 = .int .i64 x24_5 ∧ Aside0 (herbariumlaw3_GapsExact.l4 kq x4_5 t1164 x21_3 t1169 x23_125 x24_5 = some true) ∧ Aside0 (kq ≤ kj125) ∧ Aside0 (Kd.R (Kd.int .i64) 3 w' w.heap.size (fun _ => True) u4 x4_5) ∧ Aside0 (Kd.R k27 27 w' w.heap.size (fun _ => True) (.slice (some ad1168) t1164.length co127) t1164) ∧ Aside0 (Kd.R (Kd.int .u8) 5 w' w.heap.size (fun _ => True) u23 x23_125) ∧ Aside0 (w'.heap[gb1106]? = some (.cells #[(.slice A0_0 l0_0.length c0_0), (.slice A0_1 l0_1.length c0_1), (.slice A0_2 l0_2.length c0_2)] 78 (0, 0))) ∧ Aside0 (Below w.heap.size w w'))
      case atStart => exact ⟨(x4_3), (0), (by first | rfl | (simp; done) | (simp [*]; done)), H', ⟨Nat.le_refl _⟩, ⟨ur <| HO_4.out⟩, ⟨ur <| HO_20.out⟩, ⟨ur <| HO_23.out⟩, ⟨ub BK1106.out⟩, ⟨by repeat with_reducible first | exact HB.out | apply b1 | apply b2 | apply b3 | refine b4 ?_ GE1106.out⟩⟩
      as_aux_lemma =>
       clear H'
       (try clear c3); (try clear c8); (try clear c23); (try clear c23b0); (try clear c123); (try clear c123b0); (try clear c124); (try clear c124b0); (try clear hcz11_0); (try clear hcz11_1); (try clear hcz11_2); (try clear hcz120_0); (try clear hcz120_1); (try clear hcz120_2); (try clear hcz13_0); (try clear hcz13_1); (try clear hcz13_2); (try clear hcz17_0); (try clear hcz17_1); (try clear hcz17_2); (try clear hfz11_0); (try clear hfz11_1); (try clear hfz11_2); (try clear hfz120_0); (try clear hfz120_1); (try clear hfz120_2); (try clear hfz13_0); (try clear hfz13_1); (try clear hfz13_2); (try clear hfz17_0)
       (try clear hfz17_1); (try clear hfz17_2); (try clear hx1168_0); (try clear hx1168_1); (try clear p1168); (try clear q1168); (try clear HA); (try clear HO_4); (try clear HO_20); (try clear HO_23); (try clear BK1106); (try clear HB)
       obtain ⟨x4_5, x24_5, rfl, HA, HK5, HO_4, HO_20, HO_23, BK1106, HB⟩ := hrel
       cases gk with
       | zero => exact absurd HA.out (by simp [herbariumlaw3_GapsExact.l4])
       | succ k5 => ?_
       have H := HA.out
       clear HA
       simp only [herbariumlaw3_GapsExact.l4] at H
       have HC132 := ak H
       clear H
       go_upto_region 47 with (fail)
       go_cut [216] (fun v216 wc => ∃ (kq : Nat) (x216_131 : Bool), v216 = .bool x216_131 ∧ Aside0 (herbariumlaw3_GapsExact.j13 kq x4_5 t1164 x21_3 t1169 x23_125 x24_5 x216_131 = some true) ∧ Aside0 (kq ≤ k5) ∧ Aside0 (Kd.R (Kd.int .i64) 3 wc w.heap.size (fun _ => True) u4 x4_5) ∧ Aside0 (Kd.R k27 27 wc w.heap.size (fun _ => True) (.slice (some ad1168) t1164.length co127) t1164) ∧ Aside0 (Kd.R (Kd.int .u8) 5 wc w.heap.size (fun _ => True) u23 x23_125) ∧ Aside0 (wc.heap[gb1106]? = some (.cells #[(.slice A0_0 l0_0.length c0_0), (.slice A0_1 l0_1.length c0_1), (.slice A0_2 l0_2.length c0_2)] 78 (0, 0))) ∧ Aside0 (Below w.heap.size w wc))
       case first => as_aux_lemma =>
        have H := HC132.out
        clear HC132
        by_cases c133 : x24_5 < (x4_5.length : Int)
        rotate_left
        ·
         rw [if_neg c133] at H
         have c133b0 : decide (x24_5 < (x4_5.length : Int)) = false := decide_eq_false c133
         clear c133
         (first | rw [c133b0] | (simp only [i64_w, i32_w]; rw [c133b0]) | skip)
         have H' := ak H
         clear H
         obtain ⟨Ao135, co135, eo135⟩ := Kd.R_slice HO_4.out
         subst eo135
         go_wp2
         go_meet
         case rel => exact ⟨_, (false), (by first | rfl | (simp; done) | (simp [*]; done)), H', ⟨by have := HJ8.out; have := HK2.out; have := HK3.out; have := HJ125.out; have := HK5.out; first | omega | exact Nat.le_refl _⟩, ⟨ur <| HO_4.out⟩, ⟨ur <| HO_20.out⟩, ⟨ur <| HO_23.out⟩, ⟨ub BK1106.out⟩, ⟨by repeat with_reducible first | exact HB.out | apply b1 | apply b2 | apply b3 | refine b4 ?_ GE1106.out⟩⟩
        rw [if_pos c133] at H
        have c133b0 : decide (x24_5 < (x4_5.length : Int)) = true := decide_eq_true c133
        clear c133
        (first | rw [c133b0] | (simp only [i64_w, i32_w]; rw [c133b0]) | skip)
        have H' := ak H
        clear H
        obtain ⟨Ao134, co134, eo134⟩ := Kd.R_slice HO_4.out
        subst eo134
        go_wp2
        go_meet
        case rel => exact ⟨_, (decide (x24_5 < 6)), (by first | rfl | (simp; done) | (simp [*]; done)), H', ⟨by have := HJ8.out; have := HK2.out; have := HK3.out; have := HJ125.out; have := HK5.out; first | omega | exact Nat.le_refl _⟩, ⟨ur <| HO_4.out⟩, ⟨ur <| HO_20.out⟩, ⟨ur <| HO_23.out⟩, ⟨ub BK1106.out⟩, ⟨by repeat with_reducible first | exact HB.out | apply b1 | apply b2 | apply b3 | refine b4 ?_ GE1106.out⟩⟩
       as_aux_lemma =>
        clear HC132
        (try clear c3); (try clear c8); (try clear c23); (try clear c23b0); (try clear c123); (try clear c123b0); (try clear c124); (try clear c124b0); (try clear hcz11_0); (try clear hcz11_1); (try clear hcz11_2); (try clear hcz120_0); (try clear hcz120_1); (try clear hcz120_2); (try clear hcz13_0); (try clear hcz13_1); (try clear hcz13_2); (try clear hcz17_0); (try clear hcz17_1); (try clear hcz17_2); (try clear hfz11_0); (try clear hfz11_1); (try clear hfz11_2); (try clear hfz120_0); (try clear hfz120_1); (try clear hfz120_2); (try clear hfz13_0); (try clear hfz13_1); (try clear hfz13_2); (try clear hfz17_0)
        (try clear hfz17_1); (try clear hfz17_2); (try clear hx1168_0); (try clear hx1168_1); (try clear p1168); (try clear q1168); (try clear HA); (try clear HO_4); (try clear HO_20); (try clear HO_23); (try clear BK1106); (try clear HB)
        obtain ⟨kq, x216_131, rfl, HA, HJ131, HO_4, HO_20, HO_23, BK1106, HB⟩ := hcut
        cases kq with
        | zero => exact absurd HA.out (by simp [herbariumlaw3_GapsExact.j13])
        | succ kj131 => ?_
        have H := HA.out
        clear HA
        simp only [herbariumlaw3_GapsExact.j13] at H
        by_cases c136 : x216_131 = true
        rotate_left
        ·
         replace c136 := Bool.eq_false_iff.mpr c136
         subst c136
         rw [if_neg (show ¬ (false = true) by decide)] at H
         have H' := ak H
         clear H
         go_wp2
         go_roundg kj131
         case measure => have := HJ8.out; have := HK2.out; have := HK3.out; have := HJ125.out; have := HK5.out; have := HJ131.out; omega
         case rel => exact ⟨(x4_5), (wrap64 (x21_3 + 1)), (by first | rfl | (simp; done) | (simp [*]; done)), H', ⟨by have := HJ8.out; have := HK2.out; have := HK3.out; have := HJ125.out; have := HK5.out; have := HJ131.out; omega⟩, ⟨ur <| HO_4.out⟩, ⟨ur <| HO_20.out⟩, ⟨ub BK1106.out⟩, ⟨by repeat with_reducible first | exact HB.out | apply b1 | apply b2 | apply b3 | refine b4 ?_ GE1106.out⟩⟩
        subst c136
        rw [if_pos rfl] at H
        have H' := ak H
        clear H
        go_wp2
        go_loopg [25] kj131 (fun kq v25 w' => ∃ (x4_7 : List Int) (x25_7 : Int), v25 = .int .i64 x25_7 ∧ Aside0 (herbariumlaw3_GapsExact.l5 kq x4_7 t1164 x21_3 t1169 x23_125 x24_5 x25_7 = some true) ∧ Aside0 (kq ≤ kj131) ∧ Aside0 (Kd.R (Kd.int .i64) 3 w' w.heap.size (fun _ => True) u4 x4_7) ∧ Aside0 (Kd.R k27 27 w' w.heap.size (fun _ => True) (.slice (some ad1168) t1164.length co127) t1164) ∧ Aside0 (Kd.R (Kd.int .u8) 5 w' w.heap.size (fun _ => True) u23 x23_125) ∧ Aside0 (w'.heap[gb1106]? = some (.cells #[(.slice A0_0 l0_0.length c0_0), (.slice A0_1 l0_1.length c0_1), (.slice A0_2 l0_2.length c0_2)] 78 (0, 0))) ∧ Aside0 (Below w.heap.size w w'))
        case atStart => exact ⟨(x4_5), ((-1)), (by first | rfl | (simp; done) | (simp [*]; done)), H', ⟨Nat.le_refl _⟩, ⟨ur <| HO_4.out⟩, ⟨ur <| HO_20.out⟩, ⟨ur <| HO_23.out⟩, ⟨ub BK1106.out⟩, ⟨by repeat with_reducible first | exact HB.out | apply b1 | apply b2 | apply b3 | refine b4 ?_ GE1106.out⟩⟩
        as_aux_lemma =>
         clear H'
         (try clear c3); (try clear c8); (try clear c23); (try clear c23b0); (try clear c123); (try clear c123b0); (try clear c124); (try clear c124b0); (try clear c136); (try clear hcz11_0); (try clear hcz11_1); (try clear hcz11_2); (try clear hcz120_0); (try clear hcz120_1); (try clear hcz120_2); (try clear hcz13_0); (try clear hcz13_1); (try clear hcz13_2); (try clear hcz17_0); (try clear hcz17_1); (try clear hcz17_2); (try clear hfz11_0); (try clear hfz11_1); (try clear hfz11_2); (try clear hfz120_0); (try clear hfz120_1); (try clear hfz120_2); (try clear hfz13_0); (try clear hfz13_1); (try clear hfz13_2)
         (try clear hfz17_0); (try clear hfz17_1); (try clear hfz17_2); (try clear hx1168_0); (try clear hx1168_1); (try clear p1168); (try clear q1168); (try clear HA); (try clear HO_4); (try clear HO_20); (try clear HO_23); (try clear BK1106); (try clear HB)
         obtain ⟨x4_7, x25_7, rfl, HA, HK7, HO_4, HO_20, HO_23, BK1106, HB⟩ := hrel
         cases gk with
         | zero => exact absurd HA.out (by simp [herbariumlaw3_GapsExact.l5])
         | succ k7 => ?_
         have H := HA.out
         clear HA
         simp only [herbariumlaw3_GapsExact.l5] at H
         by_cases c137 : x25_7 < 4
         rotate_left
         ·
          rw [if_neg c137] at H
          have c137b0 : decide (x25_7 < 4) = false := decide_eq_false c137
          clear c137
          have H' := ak H
          clear H
          go_wp2
          go_roundg k7
          case measure => have := HJ8.out; have := HK2.out; have := HK3.out; have := HJ125.out; have := HK5.out; have := HJ131.out; have := HK7.out; omega
          case rel => exact ⟨(x4_7), (wrap64 (x24_5 + 1)), (by first | rfl | (simp; done) | (simp [*]; done)), H', ⟨by have := HJ8.out; have := HK2.out; have := HK3.out; have := HJ125.out; have := HK5.out; have := HJ131.out; have := HK7.out; omega⟩, ⟨ur <| HO_4.out⟩, ⟨ur <| HO_20.out⟩, ⟨ur <| HO_23.out⟩, ⟨ub BK1106.out⟩, ⟨by repeat with_reducible first | exact HB.out | apply b1 | apply b2 | apply b3 | refine b4 ?_ GE1106.out⟩⟩
         rw [if_pos c137] at H
         have c137b0 : decide (x25_7 < 4) = true := decide_eq_true c137
         clear c137
         by_cases c138 : 0 ≤ x21_3
         rotate_left
         ·
          rw [if_neg c138] at H
          exact absurd H (by simp)
         rw [if_pos c138] at H
         have c138b0 : decide (0 ≤ x21_3) = true := decide_eq_true c138
         clear c138
         by_cases c139 : x21_3 < (t1164.length : Int)
         rotate_left
         ·
          rw [if_neg c139] at H
          exact absurd H (by simp)
         rw [if_pos c139] at H
         have c139b0 : decide (x21_3 < (t1164.length : Int)) = true := decide_eq_true c139
         clear c139
         by_cases c140 : 0 ≤ x24_5
         rotate_left
         ·
          rw [if_neg c140] at H
          exact absurd H (by simp)
         rw [if_pos c140] at H
         have c140b0 : decide (0 ≤ x24_5) = true := decide_eq_true c140
         clear c140
         by_cases c141 : x24_5 < (x4_7.length : Int)
         rotate_left
         ·
          rw [if_neg c141] at H
          exact absurd H (by simp)
         rw [if_pos c141] at H
         have c141b0 : decide (x24_5 < (x4_7.length : Int)) = true := decide_eq_true c141
         clear c141
         replace H := Option.bind_eq_some_iff.mp H
         obtain ⟨⟨t1176, t1179, t1180⟩, A1420, H⟩ := H
         try dsimp only at H
         have A142 := ak A1420
         clear A1420
         have HC143 := ak H
         clear H
         try go_wp2
         have n0_ := ak (Kd.R_drew HO_4.out)
         have n1_ := ak (Kd.R_drew HO_20.out)
         have n2_ := ak (Kd.R_drew HO_23.out)
         have n3_ := ak (blk_drew BK1106.out)
         have n4_ := ak (below_drew1 HB.out)
         clear HO_4 HO_20 HO_23 BK1106 HB
         have HO_4 := n0_; have HO_20 := n1_; have HO_23 := n2_; have BK1106 := n3_; have HB := n4_
         clear n0_ n1_ n2_ n3_ n4_
         have p1174 : 0 ≤ (x21_3 : Int) := of_decide_eq_true (by first | (with_reducible assumption) | assumption)
         have q1174 : x21_3 < (t1164.length : Int) := of_decide_eq_true (by first | (with_reducible assumption) | assumption)
         obtain ⟨ad1174, e1174, hx1174_0, hx1174_1⟩ := at_T27 (Kd.R_reads' HO_20.out).2.2 x21_3 p1174 q1174
         obtain rfl : ad1168 = ad1174 := (by injection e1174)
         replace p1174 := eq_true p1174
         replace q1174 := eq_true q1174
         obtain ⟨Ao145, co145, eo145⟩ := Kd.R_slice HO_4.out
         (first | subst eo145 | (injection eo145 with f1_ f2_ f3_; have f4_ := f1_.symm; have f5_ := f3_.symm; clear f1_ f2_ f3_; subst f4_; subst f5_))
         have p1175 : 0 ≤ (x24_5 : Int) := of_decide_eq_true (by first | (with_reducible assumption) | assumption)
         have q1175 : x24_5 < (x4_7.length : Int) := of_decide_eq_true (by first | (with_reducible assumption) | assumption)
         obtain ⟨ad1175, e1175, hx1175_0⟩ := Kd.at_int (Kd.R_reads' HO_4.out).2.2 x24_5 p1175 q1175
         cases e1175
         replace p1175 := eq_true p1175
         replace q1175 := eq_true q1175
         refine start_ (n := 17) (S := fun w' => w'.cell? (ad1168.add ((x21_3).toNat * 2)) = some (.string ((rd_T27 t1164 x21_3).f0)) ∧ w'.cell? ⟨(ad1168.add ((x21_3).toNat * 2)).block, (ad1168.add ((x21_3).toNat * 2)).off + 1, none⟩ = some (.int .i64 ((rd_T27 t1164 x21_3).f1)) ∧ w'.cell? (ad1175.add (x24_5).toNat) = some (.int .i64 (rd x4_7 x24_5))) (ds := []) #[false, false, false, false, false, false, false, false, false, false, false, false, false, false, false, false, false] (by kernel_rfl) rfl rfl ⟨hx1174_0, hx1174_1, hx1175_0⟩ (fun hHeld => ?_); refine with_tabW herbariumlaw3_GapsExact.tab52 herbariumlaw3_GapsExact.bits52 (fun HT_ HW_ => ?_)
         generalize wr.drew = w144 at HO_4 HO_20 HO_23 BK1106 HB hx1174_0 hx1174_1 hx1175_0 hHeld ⊢
         refine pure_ (i := 0) (N := some 224) (v := ?_) (a' := ?_) #[true, false, false, false, false, false, false, false, false, false, false, false, false, false, false, false, false] rfl rfl (any_of HT_.out (by kernel_rfl)) (fun _ _ _ h => h) (Or.inl ⟨by rfl, ?_⟩) ?_ ?_
         rotate_left
         ·
          intro w'
          go_simp
          with_reducible rfl
         rotate_left
         ·
          simp only [Act.put, s1, s2, s3, i64_w, i32_w]
          rfl
         refine pure_ (i := 1) (N := some 225) (v := ?_) (a' := ?_) #[true, true, false, false, false, false, false, false, false, false, false, false, false, false, false, false, false] rfl rfl (any_of HT_.out (by kernel_rfl)) (fun _ _ _ h => h) (Or.inl ⟨by rfl, ?_⟩) ?_ ?_
         rotate_left
         ·
          intro w'
          go_simp
          with_reducible rfl
         rotate_left
         ·
          simp only [Act.put, s1, s2, s3, i64_w, i32_w]
          rfl
         refine pure_ (i := 2) (N := some 226) (v := ?_) (a' := ?_) #[true, true, true, false, false, false, false, false, false, false, false, false, false, false, false, false, false] rfl rfl (any_of HT_.out (by kernel_rfl)) (fun _ _ _ h => h) (Or.inl ⟨by rfl, ?_⟩) ?_ ?_
         rotate_left
         ·
          intro w'
          go_simp
          with_reducible rfl
         rotate_left
         ·
          simp only [Act.put, s1, s2, s3, i64_w, i32_w]
          rfl
         refine pure_ (i := 4) (N := some 228) (v := ?_) (a' := ?_) #[true, true, true, false, true, false, false, false, false, false, false, false, false, false, false, false, false] rfl rfl (any_of HT_.out (by kernel_rfl)) (fun _ _ _ h => h) (Or.inl ⟨by rfl, ?_⟩) ?_ ?_
         rotate_left
         ·
          intro w'
          go_simp
          with_reducible rfl
         rotate_left
         ·
          simp only [Act.put, s1, s2, s3, i64_w, i32_w]
          rfl
         refine pure_ (i := 5) (N := some 229) (v := ?_) (a' := ?_) #[true, true, true, false, true, true, false, false, false, false, false, false, false, false, false, false, false] rfl rfl (any_of HT_.out (by kernel_rfl)) (fun _ _ _ h => h) (Or.inl ⟨by rfl, ?_⟩) ?_ ?_
         rotate_left
         ·
          intro w'
          go_simp
          with_reducible rfl
         rotate_left
         ·
          simp only [Act.put, s1, s2, s3, i64_w, i32_w]
          rfl
         refine pure_ (i := 6) (N := some 230) (v := ?_) (a' := ?_) #[true, true, true, false, true, true, true, false, false, false, false, false, false, false, false, false, false] rfl rfl (any_of HT_.out (by kernel_rfl)) (fun _ _ _ h => h) (Or.inl ⟨by rfl, ?_⟩) ?_ ?_
         rotate_left
         ·
          intro w'
          go_simp
          with_reducible rfl
         rotate_left
         ·
          simp only [Act.put, s1, s2, s3, i64_w, i32_w]
          rfl
         refine pure_ (i := 7) (N := some 231) (v := ?_) (a' := ?_) #[true, true, true, false, true, true, true, true, false, false, false, false, false, false, false, false, false] rfl rfl (any_of HT_.out (by kernel_rfl)) (fun _ _ _ h => h) (Or.inl ⟨by rfl, ?_⟩) ?_ ?_
         rotate_left
         ·
          intro w'
          go_simp
          with_reducible rfl
         rotate_left
         ·
          simp only [Act.put, s1, s2, s3, i64_w, i32_w]
          rfl
         refine take_ (i := 3) (N := some 227) (v := ?_) (a' := ?_) #[true, true, true, true, true, true, true, true, false, false, false, false, false, false, false, false, false] rfl rfl (take_ofW HT_.out HW_.out (by kernel_rfl)) (fun _ _ _ h => h) (Or.inl ⟨by rfl, ?_⟩) hHeld ?_ ?_
         rotate_left
         ·
          rintro w' ⟨s0, s1, s2⟩
          go_simp
          with_reducible rfl
         rotate_left
         ·
          simp only [Act.put, s1, s2, s3, i64_w, i32_w]
          rfl
         refine take_ (i := 8) (N := some 232) (v := ?_) (a' := ?_) #[true, true, true, true, true, true, true, true, true, false, false, false, false, false, false, false, false] rfl rfl (take_ofW HT_.out HW_.out (by kernel_rfl)) (fun _ _ _ h => h) (Or.inl ⟨by rfl, ?_⟩) hHeld ?_ ?_
         rotate_left
         ·
          rintro w' ⟨s0, s1, s2⟩
          go_simp
          with_reducible rfl
         rotate_left
         ·
          simp only [Act.put, s1, s2, s3, i64_w, i32_w]
          rfl
         refine one_ (i := 9) (N := some 233) #[true, true, true, true, true, true, true, true, true, true, false, false, false, false, false, false, false] rfl rfl (one_of HT_.out (by kernel_rfl)) (by decide) (fun K hK => ?_)
         refine goes_ Try.func73 (by kernel_rfl) rfl #[.agg #[.string ((rd_T27 t1164 x21_3).f0), .int .i64 ((rd_T27 t1164 x21_3).f1)], .int .i64 x25_7, .int .i64 (rd x4_7 x24_5)] (by rfl) rfl rfl (by (try simp only [List.map_toArray, List.map_cons, List.map_nil]); first | done | rfl | (simp only [List.length_drop, List.length_take]; rfl)) ?_
         with_reducible refine (gaps_Take.calls k7 ((rd_T27 t1164 x21_3).f0) ((rd_T27 t1164 x21_3).f1) x25_7 (rd x4_7 x24_5) t1176 t1179 t1180 _ A142.out).mono ?_
         rintro e w146 ⟨v1177, rfl, ho0, hb⟩
         have HS0_ := (hb.cell (World.block_lt_of_cell? _ _ (hHeld.1))).trans (hHeld.1)
         have HS1_ := (hb.cell (World.block_lt_of_cell? _ _ (hHeld.2.1))).trans (hHeld.2.1)
         have HS2_ := (hb.cell (World.block_lt_of_cell? _ _ (hHeld.2.2))).trans (hHeld.2.2)
         refine ⟨_, rfl, ?_⟩
         have n0_ := ak (Kd.R_elder' (ur <| HO_4.out) (Kd.R_base ho0) hb)
         have n1_ := ak (Kd.R_below (ur <| HO_20.out) hb)
         have n2_ := ak (Kd.R_below (ur <| HO_23.out) hb)
         have n3_ := ak (Kd.R_lower (Kd.R_new' ho0 (Kd.R_lt (ur <| HO_4.out))) (below_size (by repeat with_reducible first | exact HB.out | apply b1 | apply b2 | apply b3 | refine b4 ?_ GE1106.out)))
         have n4_ := ak (blk_below (g := gb1106) (o := .cells #[.slice A0_0 l0_0.length c0_0, .slice A0_1 l0_1.length c0_1, .slice A0_2 l0_2.length c0_2] 78 (0, 0)) (ub BK1106.out) hb)
         have n5_ := ak (below_step (by repeat with_reducible first | exact HB.out | apply b1 | apply b2 | apply b3 | refine b4 ?_ GE1106.out) hb)
         clear HO_4 HO_20 HO_23 BK1106 HB
         have HO_4 := n0_; have HO_20 := n1_; have HO_23 := n2_; have HO1178 := n3_; have BK1106 := n4_; have HB := n5_
         clear n0_ n1_ n2_ n3_ n4_ n5_
         (try clear hb); (try clear hb2); (try clear hk); (try clear hi); (try clear ho0)
         refine hK.out _ _ ⟨HS0_, HS1_, HS2_⟩ (fun hHeld => ?_)
         clear hK K
         refine norm_ (a' := ?_) ?_ ?_
         rotate_left
         ·
          show Act.put _ (some 233) _ = _
          simp only [Act.put, s1, s2, s3, i64_w, i32_w]
          rfl
         refine pure_ (i := 10) (N := some 223) (v := ?_) (a' := ?_) #[true, true, true, true, true, true, true, true, true, true, true, false, false, false, false, false, false] rfl rfl (any_of HT_.out (by kernel_rfl)) (fun _ _ _ h => h) (Or.inl ⟨by rfl, ?_⟩) ?_ ?_
         rotate_left
         ·
          intro w'
          go_simp
          with_reducible rfl
         rotate_left
         ·
          simp only [Act.put, s1, s2, s3, i64_w, i32_w]
          rfl
         refine pure_ (i := 11) (N := some 234) (v := ?_) (a' := ?_) #[true, true, true, true, true, true, true, true, true, true, true, true, false, false, false, false, false] rfl rfl (any_of HT_.out (by kernel_rfl)) (fun _ _ _ h => h) (Or.inl ⟨by rfl, ?_⟩) ?_ ?_
         rotate_left
         ·
          intro w'
          go_simp
          with_reducible rfl
         rotate_left
         ·
          simp only [Act.put, s1, s2, s3, i64_w, i32_w]
          rfl
         refine pure_ (i := 12) (N := some 235) (v := ?_) (a' := ?_) #[true, true, true, true, true, true, true, true, true, true, true, true, true, false, false, false, false] rfl rfl (any_of HT_.out (by kernel_rfl)) (fun _ _ _ h => h) (Or.inl ⟨by rfl, ?_⟩) ?_ ?_
         rotate_left
         ·
          intro w'
          go_simp
          with_reducible rfl
         rotate_left
         ·
          simp only [Act.put, s1, s2, s3, i64_w, i32_w]
          rfl
         refine pure_ (i := 13) (N := some 236) (v := ?_) (a' := ?_) #[true, true, true, true, true, true, true, true, true, true, true, true, true, true, false, false, false] rfl rfl (any_of HT_.out (by kernel_rfl)) (fun _ _ _ h => h) (Or.inl ⟨by rfl, ?_⟩) ?_ ?_
         rotate_left
         ·
          intro w'
          go_simp
          with_reducible rfl
         rotate_left
         ·
          simp only [Act.put, s1, s2, s3, i64_w, i32_w]
          rfl
         refine pure_ (i := 14) (N := some 26) (v := ?_) (a' := ?_) #[true, true, true, true, true, true, true, true, true, true, true, true, true, true, true, false, false] rfl rfl (any_of HT_.out (by kernel_rfl)) (fun _ _ _ h => h) (Or.inl ⟨by rfl, ?_⟩) ?_ ?_
         rotate_left
         ·
          intro w'
          go_simp
          with_reducible rfl
         rotate_left
         ·
          simp only [Act.put, s1, s2, s3, i64_w, i32_w]
          rfl
         refine pure_ (i := 15) (N := some 27) (v := ?_) (a' := ?_) #[true, true, true, true, true, true, true, true, true, true, true, true, true, true, true, true, false] rfl rfl (any_of HT_.out (by kernel_rfl)) (fun _ _ _ h => h) (Or.inl ⟨by rfl, ?_⟩) ?_ ?_
         rotate_left
         ·
          intro w'
          go_simp
          with_reducible rfl
         rotate_left
         ·
          simp only [Act.put, s1, s2, s3, i64_w, i32_w]
          rfl
         refine pure_ (i := 16) (N := some 28) (v := ?_) (a' := ?_) #[true, true, true, true, true, true, true, true, true, true, true, true, true, true, true, true, true] rfl rfl (any_of HT_.out (by kernel_rfl)) (fun _ _ _ h => h) (Or.inl ⟨by rfl, ?_⟩) ?_ ?_
         rotate_left
         ·
          intro w'
          go_simp
          with_reducible rfl
         rotate_left
         ·
          simp only [Act.put, s1, s2, s3, i64_w, i32_w]
          rfl
         refine done_ (done_of HT_.out (by kernel_rfl)) ?_
         go_upto_region 55 with (fail)
         go_cut [253] (fun v253 wc => ∃ (kq : Nat) (x253_142 : Bool), v253 = .bool x253_142 ∧ Aside0 (herbariumlaw3_GapsExact.j15 kq x4_7 t1164 x21_3 t1169 x23_125 x24_5 x25_7 t1176 t1179 t1180 1 0 ([] : List Int) x253_142 = some true) ∧ Aside0 (kq ≤ k7) ∧ Aside0 (Kd.R (Kd.int .i64) 3 wc w.heap.size (fun k_ => some k_ ≠ (v1177 : Value).ownBlock ∧ some k_ ≠ ((.slice none 0 0) : Value).ownBlock) (.slice (some ad1175) x4_7.length co145) x4_7) ∧ Aside0 (Kd.R k27 27 wc w.heap.size (fun _ => True) (.slice (some ad1168) t1164.length co127) t1164) ∧ Aside0 (Kd.R (Kd.int .u8) 5 wc w.heap.size (fun _ => True) u23 x23_125) ∧ Aside0 (Kd.R (Kd.int .i64) 3 wc w.heap.size (fun k_ => some k_ ≠ ((.slice (some ad1175) x4_7.length co145) : Value).ownBlock ∧ some k_ ≠ ((.slice none 0 0) : Value).ownBlock) v1177 t1176) ∧ Aside0 (Kd.R (Kd.int .i64) 3 wc w.heap.size (fun k_ => some k_ ≠ ((.slice (some ad1175) x4_7.length co145) : Value).ownBlock ∧ some k_ ≠ (v1177 : Value).ownBlock) (.slice none 0 0) ([] : List Int)) ∧ Aside0 (wc.heap[gb1106]? = some (.cells #[(.slice A0_0 l0_0.length c0_0), (.slice A0_1 l0_1.length c0_1), (.slice A0_2 l0_2.length c0_2)] 78 (0, 0))) ∧ Aside0 (Below w.heap.size w wc))
         case first => as_aux_lemma =>
          have H := HC143.out
          clear HC143
          by_cases c147 : t1169 = true
          rotate_left
          ·
           replace c147 := Bool.eq_false_iff.mpr c147
           subst c147
           rw [if_neg (show ¬ (false = true) by decide)] at H
           have H' := ak H
           clear H
           go_wp2
           go_meet
           case rel => exact ⟨_, (false), (by first | rfl | (simp; done) | (simp [*]; done)), H', ⟨by have := HJ8.out; have := HK2.out; have := HK3.out; have := HJ125.out; have := HK5.out; have := HJ131.out; have := HK7.out; first | omega | exact Nat.le_refl _⟩, ⟨ur <| Kd.R_mono HO_4.out (fun _ hk => ⟨hk.2, (by simp [Value.ownBlock])⟩)⟩, ⟨ur <| HO_20.out⟩, ⟨ur <| HO_23.out⟩, ⟨ur <| Kd.R_mono HO1178.out (fun _ hk => ⟨hk.2, (by simp [Value.ownBlock])⟩)⟩, ⟨by first | exact Kd.R_nil _ _ _ _ _ | exact Kd.N_nil _ _ _ _ _ | exact Kd.V_nil _ _ _ _ _ | exact Kd.Q_nil _ _ _ _ _ | exact Kd.S_nil _ _ _ _ _⟩, ⟨ub BK1106.out⟩, ⟨by repeat with_reducible first | exact HB.out | apply b1 | apply b2 | apply b3 | refine b4 ?_ GE1106.out⟩⟩
          subst c147
          rw [if_pos rfl] at H
          replace H := Option.bind_eq_some_iff.mp H
          obtain ⟨t1182, A1480, H⟩ := H
          try dsimp only at H
          have A148 := ak A1480
          clear A1480
          by_cases c149 : t1182 = true
          rotate_left
          ·
           replace c149 := Bool.eq_false_iff.mpr c149
           subst c149
           rw [if_neg (show ¬ (false = true) by decide)] at H
           have H' := ak H
           clear H
           have p1181 : 0 ≤ (x21_3 : Int) := of_decide_eq_true (by first | (with_reducible assumption) | assumption)
           have q1181 : x21_3 < (t1164.length : Int) := of_decide_eq_true (by first | (with_reducible assumption) | assumption)
           obtain ⟨ad1181, e1181, hx1181_0, hx1181_1⟩ := at_T27 (Kd.R_reads' HO_20.out).2.2 x21_3 p1181 q1181
           obtain rfl : ad1168 = ad1181 := (by injection e1181)
           replace p1181 := eq_true p1181
           replace q1181 := eq_true q1181
           go_wp2_with (first | (go_at_call 53; (with_reducible refine (herbariumref0_Num.calls x25_7 ((rd_T27 t1164 x21_3).f1) false _ A148.out).mono ?_); rintro e w' ⟨rfl, ⟨nd, rfl⟩⟩))
           go_meet
           case rel => exact ⟨_, (false), (by first | rfl | (simp; done) | (simp [*]; done)), H', ⟨by have := HJ8.out; have := HK2.out; have := HK3.out; have := HJ125.out; have := HK5.out; have := HJ131.out; have := HK7.out; first | omega | exact Nat.le_refl _⟩, ⟨ur <| Kd.R_mono HO_4.out (fun _ hk => ⟨hk.2, (by simp [Value.ownBlock])⟩)⟩, ⟨ur <| HO_20.out⟩, ⟨ur <| HO_23.out⟩, ⟨ur <| Kd.R_mono HO1178.out (fun _ hk => ⟨hk.2, (by simp [Value.ownBlock])⟩)⟩, ⟨by first | exact Kd.R_nil _ _ _ _ _ | exact Kd.N_nil _ _ _ _ _ | exact Kd.V_nil _ _ _ _ _ | exact Kd.Q_nil _ _ _ _ _ | exact Kd.S_nil _ _ _ _ _⟩, ⟨ub BK1106.out⟩, ⟨by repeat with_reducible first | exact HB.out | apply b1 | apply b2 | apply b3 | refine b4 ?_ GE1106.out⟩⟩
          subst c149
          rw [if_pos rfl] at H
          replace H := Option.bind_eq_some_iff.mp H
          obtain ⟨t1184, A1500, H⟩ := H
          try dsimp only at H
          have A150 := ak A1500
          clear A1500
          have H' := ak H
          clear H
          have p1181 : 0 ≤ (x21_3 : Int) := of_decide_eq_true (by first | (with_reducible assumption) | assumption)
          have q1181 : x21_3 < (t1164.length : Int) := of_decide_eq_true (by first | (with_reducible assumption) | assumption)
          obtain ⟨ad1181, e1181, hx1181_0, hx1181_1⟩ := at_T27 (Kd.R_reads' HO_20.out).2.2 x21_3 p1181 q1181
          obtain rfl : ad1168 = ad1181 := (by injection e1181)
          replace p1181 := eq_true p1181
          replace q1181 := eq_true q1181
          go_wp2_with (first | (go_at_call 53; (with_reducible refine (herbariumref0_Num.calls x25_7 ((rd_T27 t1164 x21_3).f1) true _ A148.out).mono ?_); rintro e w' ⟨rfl, ⟨nd, rfl⟩⟩; have p1183 : 0 ≤ (x24_5 : Int) := of_decide_eq_true (by first | (with_reducible assumption) | assumption); have q1183 : x24_5 < (x4_7.length : Int) := of_decide_eq_true (by first | (with_reducible assumption) | assumption); obtain ⟨ad1183, e1183, hx1183_0⟩ := Kd.at_int (Kd.R_reads' HO_4.out).2.2 x24_5 p1183 q1183; obtain rfl : ad1175 = ad1183 := (by injection e1183); replace p1183 := eq_true p1183; replace q1183 := eq_true q1183) | (go_at_call 81; (with_reducible refine (herbariumref3_Origin.calls (rd x4_7 x24_5) t1184 _ A150.out).mono ?_); rintro e w' ⟨rfl, ⟨nd, rfl⟩⟩))
          go_meet
          case rel => exact ⟨_, (t1184), (by first | rfl | (simp; done) | (simp [*]; done)), H', ⟨by have := HJ8.out; have := HK2.out; have := HK3.out; have := HJ125.out; have := HK5.out; have := HJ131.out; have := HK7.out; first | omega | exact Nat.le_refl _⟩, ⟨ur <| Kd.R_mono HO_4.out (fun _ hk => ⟨hk.2, (by simp [Value.ownBlock])⟩)⟩, ⟨ur <| HO_20.out⟩, ⟨ur <| HO_23.out⟩, ⟨ur <| Kd.R_mono HO1178.out (fun _ hk => ⟨hk.2, (by simp [Value.ownBlock])⟩)⟩, ⟨by first | exact Kd.R_nil _ _ _ _ _ | exact Kd.N_nil _ _ _ _ _ | exact Kd.V_nil _ _ _ _ _ | exact Kd.Q_nil _ _ _ _ _ | exact Kd.S_nil _ _ _ _ _⟩, ⟨ub BK1106.out⟩, ⟨by repeat with_reducible first | exact HB.out | apply b1 | apply b2 | apply b3 | refine b4 ?_ GE1106.out⟩⟩
         as_aux_lemma =>
          clear HC143
          (try clear c3); (try clear c8); (try clear c23); (try clear c23b0); (try clear c123); (try clear c123b0); (try clear c124); (try clear c124b0); (try clear c136); (try clear c137); (try clear c137b0); (try clear c138); (try clear c138b0); (try clear c139); (try clear c139b0); (try clear c140); (try clear c140b0); (try clear c141); (try clear c141b0); (try clear hcz11_0); (try clear hcz11_1); (try clear hcz11_2); (try clear hcz120_0); (try clear hcz120_1); (try clear hcz120_2); (try clear hcz13_0); (try clear hcz13_1); (try clear hcz13_2); (try clear hcz17_0); (try clear hcz17_1); (try clear hcz17_2)
          (try clear hfz11_0); (try clear hfz11_1); (try clear hfz11_2); (try clear hfz120_0); (try clear hfz120_1); (try clear hfz120_2); (try clear hfz13_0); (try clear hfz13_1); (try clear hfz13_2); (try clear hfz17_0); (try clear hfz17_1); (try clear hfz17_2); (try clear hx1168_0); (try clear hx1168_1); (try clear hx1174_0); (try clear hx1174_1); (try clear hx1175_0); (try clear p1168); (try clear p1174); (try clear p1175); (try clear q1168); (try clear q1174); (try clear q1175); (try clear HA); (try clear HO_4); (try clear HO_20); (try clear HO_23); (try clear BK1106); (try clear HB)
          obtain ⟨kq, x253_142, rfl, HA, HJ142, HO_4, HO_20, HO_23, HO_26, HO_31, BK1106, HB⟩ := hcut
          cases kq with
          | zero => exact absurd HA.out (by simp [herbariumlaw3_GapsExact.j15])
          | succ kj142 => ?_
          have H := HA.out
          clear HA
          simp only [herbariumlaw3_GapsExact.j15] at H
          have HC151 := ak H
          clear H
          go_upto_if 253 with (fail)
          go_cut [29, 30, 31] (fun v29 v30 v31 wc => ∃ (kq : Nat) (x29_150 : Int) (x30_150 : Int) (x31_150 : List Int), v29 = .int .i64 x29_150 ∧ v30 = .int .i64 x30_150 ∧ Aside0 (herbariumlaw3_GapsExact.j16 kq x4_7 t1164 x21_3 t1169 x23_125 x24_5 x25_7 t1176 t1179 t1180 x29_150 x30_150 x31_150 = some true) ∧ Aside0 (kq ≤ kj142) ∧ Aside0 (Kd.R (Kd.int .i64) 3 wc w.heap.size (fun k_ => some k_ ≠ (v1177 : Value).ownBlock ∧ some k_ ≠ (v31 : Value).ownBlock) (.slice (some ad1175) x4_7.length co145) x4_7) ∧ Aside0 (Kd.R k27 27 wc w.heap.size (fun _ => True) (.slice (some ad1168) t1164.length co127) t1164) ∧ Aside0 (Kd.R (Kd.int .u8) 5 wc w.heap.size (fun _ => True) u23 x23_125) ∧ Aside0 (Kd.R (Kd.int .i64) 3 wc w.heap.size (fun k_ => some k_ ≠ ((.slice (some ad1175) x4_7.length co145) : Value).ownBlock ∧ some k_ ≠ (v31 : Value).ownBlock) v1177 t1176) ∧ Aside0 (Kd.R (Kd.int .i64) 3 wc w.heap.size (fun k_ => some k_ ≠ ((.slice (some ad1175) x4_7.length co145) : Value).ownBlock ∧ some k_ ≠ (v1177 : Value).ownBlock) v31 x31_150) ∧ Aside0 (wc.heap[gb1106]? = some (.cells #[(.slice A0_0 l0_0.length c0_0), (.slice A0_1 l0_1.length c0_1), (.slice A0_2 l0_2.length c0_2)] 78 (0, 0))) ∧ Aside0 (Below w.heap.size w wc))
          case first => as_aux_lemma =>
           have H := HC151.out
           clear HC151
           by_cases c152 : x253_142 = true
           rotate_left
           ·
            replace c152 := Bool.eq_false_iff.mpr c152
            subst c152
            rw [if_neg (show ¬ (false = true) by decide)] at H
            have H' := ak H
            clear H
            go_wp2
            go_meet
            case rel => exact ⟨_, (1), (0), (([] : List Int)), (by first | rfl | (simp; done) | (simp [*]; done)), (by first | rfl | (simp; done) | (simp [*]; done)), H', ⟨by have := HJ8.out; have := HK2.out; have := HK3.out; have := HJ125.out; have := HK5.out; have := HJ131.out; have := HK7.out; have := HJ142.out; first | omega | exact Nat.le_refl _⟩, ⟨ur <| HO_4.out⟩, ⟨ur <| HO_20.out⟩, ⟨ur <| HO_23.out⟩, ⟨ur <| HO_26.out⟩, ⟨ur <| HO_31.out⟩, ⟨ub BK1106.out⟩, ⟨by repeat with_reducible first | exact HB.out | apply b1 | apply b2 | apply b3 | refine b4 ?_ GE1106.out⟩⟩
           subst c152
           rw [if_pos rfl] at H
           by_cases c153 : 0 ≤ x24_5
           rotate_left
           ·
            rw [if_neg c153] at H
            exact absurd H (by simp)
           rw [if_pos c153] at H
           have c153b0 : decide (0 ≤ x24_5) = true := decide_eq_true c153
           clear c153
           (first | rw [c153b0] | (simp only [i64_w, i32_w]; rw [c153b0]) | skip)
           by_cases c154 : x24_5 < (x4_7.length : Int)
           rotate_left
           ·
            rw [if_neg c154] at H
            exact absurd H (by simp)
           rw [if_pos c154] at H
           have c154b0 : decide (x24_5 < (x4_7.length : Int)) = true := decide_eq_true c154
           clear c154
           replace H := Option.bind_eq_some_iff.mp H
           obtain ⟨⟨t1186, t1187, t1188⟩, A1550, H⟩ := H
           try dsimp only at H
           have A155 := ak A1550
           clear A1550
           by_cases c156 : t1188 = true
           ·
            subst c156
            rw [if_pos rfl] at H
            have H' := ak H
            clear H
            have p1185 : 0 ≤ (x24_5 : Int) := of_decide_eq_true (by first | (with_reducible assumption) | assumption)
            have q1185 : x24_5 < (x4_7.length : Int) := of_decide_eq_true (by first | (with_reducible assumption) | assumption)
            obtain ⟨ad1185, e1185, hx1185_0⟩ := Kd.at_int (Kd.R_reads' HO_4.out).2.2 x24_5 p1185 q1185
            obtain rfl : ad1175 = ad1185 := (by injection e1185)
            replace p1185 := eq_true p1185
            replace q1185 := eq_true q1185
            obtain ⟨Ao157, co157, eo157⟩ := Kd.R_slice HO_23.out
            subst eo157
            go_wp2_with (first | ((with_reducible refine gate_callee (f := 84) rfl ?_); refine goesL_ (some 261) rfl rfl Try.func84 (by kernel_rfl) rfl #[.slice Ao157 x23_125.length co157, .int .i64 x25_7, .int .i64 (rd x4_7 x24_5)] rfl (by (try simp only [List.map_toArray, List.map_cons, List.map_nil]); first | done | rfl | (simp only [List.length_drop, List.length_take]; rfl)) ?_; (with_reducible refine (herbariumref3_TakeGaps.calls kj142 _ _ x23_125 x25_7 (rd x4_7 x24_5) t1186 t1187 true _ ?side1 ?side2 A155.out).mono ?_); (case side1 => exact uc (Kd.R_reads' HO_23.out).2.2); (case side2 => exact (Kd.R_reads' HO_23.out).2.1); rintro e w158 ⟨v1189, rfl, ho0, hb⟩; refine ⟨_, rfl, ?_⟩; have n0_ := ak (Kd.R_elder' (ur <| HO_4.out) (Kd.R_base ho0) hb); have n1_ := ak (Kd.R_below (ur <| HO_20.out) hb); have n2_ := ak (Kd.R_below (ur <| HO_23.out) hb); have n3_ := ak (Kd.R_elder' (ur <| HO_26.out) (Kd.R_base ho0) hb); have n4_ := ak (Kd.R_elder' (ur <| HO_31.out) (Kd.R_base ho0) hb); have n5_ := ak (Kd.R_lower (Kd.R_new' (Kd.R_new' (Kd.R_new' ho0 (Kd.R_lt (ur <| HO_4.out))) (Kd.R_lt (ur <| HO_26.out))) (Kd.R_lt (ur <| HO_31.out))) (below_size (by repeat with_reducible first | exact HB.out | apply b1 | apply b2 | apply b3 | refine b4 ?_ GE1106.out))); have n6_ := ak (blk_below (g := gb1106) (o := .cells #[.slice A0_0 l0_0.length c0_0, .slice A0_1 l0_1.length c0_1, .slice A0_2 l0_2.length c0_2] 78 (0, 0)) (ub BK1106.out) hb); have n7_ := ak (below_step (by repeat with_reducible first | exact HB.out | apply b1 | apply b2 | apply b3 | refine b4 ?_ GE1106.out) hb); clear HO_4; clear HO_20; clear HO_23; clear HO_26; clear HO_31; clear BK1106; clear HB; have HO_4 := n0_; have HO_20 := n1_; have HO_23 := n2_; have HO_26 := n3_; have HO_31 := n4_; have HO1190 := n5_; have BK1106 := n6_; have HB := n7_; clear n0_ n1_ n2_ n3_ n4_ n5_ n6_ n7_; (try clear hb); (try clear hb2); (try clear hk); (try clear hi); (try clear ho0)))
            go_meet
            case rel => exact ⟨_, (0), (t1187), (t1186), (by first | rfl | (simp; done) | (simp [*]; done)), (by first | rfl | (simp; done) | (simp [*]; done)), H', ⟨by have := HJ8.out; have := HK2.out; have := HK3.out; have := HJ125.out; have := HK5.out; have := HJ131.out; have := HK7.out; have := HJ142.out; first | omega | exact Nat.le_refl _⟩, ⟨ur <| Kd.R_mono HO_4.out (fun _ hk => ⟨hk.1.1, hk.2⟩)⟩, ⟨ur <| HO_20.out⟩, ⟨ur <| HO_23.out⟩, ⟨ur <| Kd.R_mono HO_26.out (fun _ hk => ⟨hk.1.1, hk.2⟩)⟩, ⟨ur <| Kd.R_mono HO1190.out (fun _ hk => ⟨hk.1.1.2, hk.1.2⟩)⟩, ⟨ub BK1106.out⟩, ⟨by repeat with_reducible first | exact HB.out | apply b1 | apply b2 | apply b3 | refine b4 ?_ GE1106.out⟩⟩
           replace c156 := Bool.eq_false_iff.mpr c156
           subst c156
           rw [if_neg (show ¬ (false = true) by decide)] at H
           have H' := ak H
           clear H
           have p1185 : 0 ≤ (x24_5 : Int) := of_decide_eq_true (by first | (with_reducible assumption) | assumption)
           have q1185 : x24_5 < (x4_7.length : Int) := of_decide_eq_true (by first | (with_reducible assumption) | assumption)
           obtain ⟨ad1185, e1185, hx1185_0⟩ := Kd.at_int (Kd.R_reads' HO_4.out).2.2 x24_5 p1185 q1185
           obtain rfl : ad1175 = ad1185 := (by injection e1185)
           replace p1185 := eq_true p1185
           replace q1185 := eq_true q1185
           obtain ⟨Ao159, co159, eo159⟩ := Kd.R_slice HO_23.out
           subst eo159
           go_wp2_with (first | ((with_reducible refine gate_callee (f := 84) rfl ?_); refine goesL_ (some 261) rfl rfl Try.func84 (by kernel_rfl) rfl #[.slice Ao159 x23_125.length co159, .int .i64 x25_7, .int .i64 (rd x4_7 x24_5)] rfl (by (try simp only [List.map_toArray, List.map_cons, List.map_nil]); first | done | rfl | (simp only [List.length_drop, List.length_take]; rfl)) ?_; (with_reducible refine (herbariumref3_TakeGaps.calls kj142 _ _ x23_125 x25_7 (rd x4_7 x24_5) t1186 t1187 false _ ?side1 ?side2 A155.out).mono ?_); (case side1 => exact uc (Kd.R_reads' HO_23.out).2.2); (case side2 => exact (Kd.R_reads' HO_23.out).2.1); rintro e w160 ⟨v1189, rfl, ho0, hb⟩; refine ⟨_, rfl, ?_⟩; have n0_ := ak (Kd.R_elder' (ur <| HO_4.out) (Kd.R_base ho0) hb); have n1_ := ak (Kd.R_below (ur <| HO_20.out) hb); have n2_ := ak (Kd.R_below (ur <| HO_23.out) hb); have n3_ := ak (Kd.R_elder' (ur <| HO_26.out) (Kd.R_base ho0) hb); have n4_ := ak (Kd.R_elder' (ur <| HO_31.out) (Kd.R_base ho0) hb); have n5_ := ak (Kd.R_lower (Kd.R_new' (Kd.R_new' (Kd.R_new' ho0 (Kd.R_lt (ur <| HO_4.out))) (Kd.R_lt (ur <| HO_26.out))) (Kd.R_lt (ur <| HO_31.out))) (below_size (by repeat with_reducible first | exact HB.out | apply b1 | apply b2 | apply b3 | refine b4 ?_ GE1106.out))); have n6_ := ak (blk_below (g := gb1106) (o := .cells #[.slice A0_0 l0_0.length c0_0, .slice A0_1 l0_1.length c0_1, .slice A0_2 l0_2.length c0_2] 78 (0, 0)) (ub BK1106.out) hb); have n7_ := ak (below_step (by repeat with_reducible first | exact HB.out | apply b1 | apply b2 | apply b3 | refine b4 ?_ GE1106.out) hb); clear HO_4; clear HO_20; clear HO_23; clear HO_26; clear HO_31; clear BK1106; clear HB; have HO_4 := n0_; have HO_20 := n1_; have HO_23 := n2_; have HO_26 := n3_; have HO_31 := n4_; have HO1190 := n5_; have BK1106 := n6_; have HB := n7_; clear n0_ n1_ n2_ n3_ n4_ n5_ n6_ n7_; (try clear hb); (try clear hb2); (try clear hk); (try clear hi); (try clear ho0)))
           go_meet
           case rel => exact ⟨_, (9), (0), (([] : List Int)), (by first | rfl | (simp; done) | (simp [*]; done)), (by first | rfl | (simp; done) | (simp [*]; done)), H', ⟨by have := HJ8.out; have := HK2.out; have := HK3.out; have := HJ125.out; have := HK5.out; have := HJ131.out; have := HK7.out; have := HJ142.out; first | omega | exact Nat.le_refl _⟩, ⟨ur <| Kd.R_mono HO_4.out (fun _ hk => ⟨hk.1.1, hk.1.2⟩)⟩, ⟨ur <| HO_20.out⟩, ⟨ur <| HO_23.out⟩, ⟨ur <| Kd.R_mono HO_26.out (fun _ hk => ⟨hk.1.1, hk.1.2⟩)⟩, ⟨ur <| Kd.R_mono HO_31.out (fun _ hk => ⟨hk.1.1, hk.1.2⟩)⟩, ⟨ub BK1106.out⟩, ⟨by repeat with_reducible first | exact HB.out | apply b1 | apply b2 | apply b3 | refine b4 ?_ GE1106.out⟩⟩
          as_aux_lemma =>
           clear HC151
           (try clear c3); (try clear c8); (try clear c23); (try clear c23b0); (try clear c123); (try clear c123b0); (try clear c124); (try clear c124b0); (try clear c136); (try clear c137); (try clear c137b0); (try clear c138); (try clear c138b0); (try clear c139); (try clear c139b0); (try clear c140); (try clear c140b0); (try clear c141); (try clear c141b0); (try clear hcz11_0); (try clear hcz11_1); (try clear hcz11_2); (try clear hcz120_0); (try clear hcz120_1); (try clear hcz120_2); (try clear hcz13_0); (try clear hcz13_1); (try clear hcz13_2); (try clear hcz17_0); (try clear hcz17_1); (try clear hcz17_2)
           (try clear hfz11_0); (try clear hfz11_1); (try clear hfz11_2); (try clear hfz120_0); (try clear hfz120_1); (try clear hfz120_2); (try clear hfz13_0); (try clear hfz13_1); (try clear hfz13_2); (try clear hfz17_0); (try clear hfz17_1); (try clear hfz17_2); (try clear hx1168_0); (try clear hx1168_1); (try clear hx1174_0); (try clear hx1174_1); (try clear hx1175_0); (try clear p1168); (try clear p1174); (try clear p1175); (try clear q1168); (try clear q1174); (try clear q1175); (try clear HA); (try clear HO_4); (try clear HO_20); (try clear HO_23); (try clear HO_26); (try clear HO_31); (try clear BK1106)
           (try clear HB)
           obtain ⟨kq, x29_150, x30_150, x31_150, rfl, rfl, HA, HJ150, HO_4, HO_20, HO_23, HO_26, HO_31, BK1106, HB⟩ := hcut
           cases kq with
           | zero => exact absurd HA.out (by simp [herbariumlaw3_GapsExact.j16])
           | succ kj150 => ?_
           have H := HA.out
           clear HA
           simp only [herbariumlaw3_GapsExact.j16] at H
           replace H := Option.bind_eq_some_iff.mp H
           obtain ⟨t1191, A1610, H⟩ := H
           try dsimp only at H
           have A161 := ak A1610
           clear A1610
           by_cases c162 : t1191 = x29_150
           rotate_left
           ·
            rw [if_neg c162] at H
            have c162b0 : (t1191 == x29_150) = false := beq_eq_false_iff_ne.mpr c162
            have c162b1 : (t1191 != x29_150) = true := bne_iff_ne.mpr c162
            exact absurd (Option.some.inj H) (by decide)
           rw [if_pos c162] at H
           have c162b0 : (t1191 == x29_150) = true := beq_iff_eq.mpr c162
           have c162b1 : (t1191 != x29_150) = false := bne_eq_false_iff_eq.mpr c162
           clear c162
           by_cases c163 : t1179 = x30_150
           rotate_left
           ·
            rw [if_neg c163] at H
            have c163b0 : (t1179 == x30_150) = false := beq_eq_false_iff_ne.mpr c163
            have c163b1 : (t1179 != x30_150) = true := bne_iff_ne.mpr c163
            exact absurd (Option.some.inj H) (by decide)
           rw [if_pos c163] at H
           have c163b0 : (t1179 == x30_150) = true := beq_iff_eq.mpr c163
           have c163b1 : (t1179 != x30_150) = false := bne_eq_false_iff_eq.mpr c163
           clear c163
           replace H := Option.bind_eq_some_iff.mp H
           obtain ⟨t1192, A1640, H⟩ := H
           try dsimp only at H
           have A164 := ak A1640
           clear A1640
           by_cases c165 : t1192 = true
           rotate_left
           ·
            replace c165 := Bool.eq_false_iff.mpr c165
            subst c165
            rw [if_neg (show ¬ (false = true) by decide)] at H
            exact absurd (Option.some.inj H) (by decide)
           subst c165
           rw [if_pos rfl] at H
           replace H := Option.bind_eq_some_iff.mp H
           obtain ⟨t1193, A1660, H⟩ := H
           try dsimp only at H
           have A166 := ak A1660
           clear A1660
           have H' := ak H
           clear H
           go_wp2_with (first | ((with_reducible refine gate_callee (f := 72) rfl ?_); refine goesL_ (some 269) rfl rfl Try.func72 (by kernel_rfl) rfl #[.int .i64 t1180] rfl (by (try simp only [List.map_toArray, List.map_cons, List.map_nil]); first | done | rfl | (simp only [List.length_drop, List.length_take]; rfl)) ?_; (with_reducible refine (herbariumlaw3_num.calls t1180 t1191 _ A161.out).mono ?_); rintro e w' ⟨rfl, ⟨nd, rfl⟩⟩; refine ⟨_, rfl, ?_⟩; obtain ⟨Ao167, co167, eo167⟩ := Kd.R_slice HO_26.out; subst eo167; obtain ⟨Ao168, co168, eo168⟩ := Kd.R_slice HO_31.out; subst eo168) | (go_at_call 75; (with_reducible refine (herbariumref0_EqNumbers.calls kj150 _ _ t1176 _ _ x31_150 true _ ?side1 ?side2 ?side3 ?side4 A164.out).mono ?_); (case side1 => exact uc (Kd.R_reads' HO_26.out).2.2); (case side2 => exact (Kd.R_reads' HO_26.out).2.1); (case side3 => exact uc (Kd.R_reads' HO_31.out).2.2); (case side4 => exact (Kd.R_reads' HO_31.out).2.1); rintro e w' ⟨rfl, ⟨nd, rfl⟩⟩) | ((with_reducible refine gate_callee (f := 85) rfl ?_); refine goesL_ (some 284) rfl rfl Try.func85 (by kernel_rfl) rfl #[.slice Ao167 t1176.length co167] rfl (by (try simp only [List.map_toArray, List.map_cons, List.map_nil]); first | done | rfl | (simp only [List.length_drop, List.length_take]; rfl)) ?_; (with_reducible refine (herbariumlaw0_Numbers.calls kj150 (fun k_ => some k_ = (.slice Ao167 t1176.length co167 : Value).ownBlock) (.slice Ao167 t1176.length co167) t1176 t1193 w _ ?side1 ?side2 A166.out).mono ?_); (case side1 => repeat (first | (with_reducible first | exact HB.out | apply below_alloc | apply pw_below_drewN | apply below_drew1 | refine below_set ?_ GE1106.out) | exact HB.out)); (case side2 => exact Kd.R_tight rfl HO_26.out); rintro e w169 ⟨rfl, hy0, hb, hkp⟩; refine ⟨_, rfl, ?_⟩; have n0_ := ak (Kd.R_mono (ok' := fun k_ => some k_ ≠ (.slice Ao167 t1176.length co167 : Value).ownBlock ∧ some k_ ≠ (.slice Ao168 x31_150.length co168 : Value).ownBlock) (Kd.R_keptB (HO_4.out) hkp (fun k_ hk_ hs_ => (hk_.1) hs_)) (fun k_ hk_ => ⟨hk_.1.1, hk_.1.2⟩)); have n1_ := ak (Kd.R_mono (ok' := fun k_ => True) (Kd.R_keptB ((Kd.R_apart' HO_20.out (Kd.R_typed HO_26.out) (by decide))) hkp (fun k_ hk_ hs_ => (hk_.2) hs_)) (fun k_ hk_ => trivial)); have n2_ := ak (Kd.R_mono (ok' := fun k_ => True) (Kd.R_keptB ((Kd.R_apart' HO_23.out (Kd.R_typed HO_26.out) (by decide))) hkp (fun k_ hk_ hs_ => (hk_.2) hs_)) (fun k_ hk_ => trivial)); have n3_ := ak (Kd.R_reok rfl hy0 (fun k_ e_ => HO_26.out.1 k_ e_)); have n4_ := ak (Kd.R_mono (ok' := fun k_ => some k_ ≠ (.slice (some ad1175) x4_7.length co145 : Value).ownBlock ∧ some k_ ≠ (.slice Ao167 t1176.length co167 : Value).ownBlock) (Kd.R_keptB (HO_31.out) hkp (fun k_ hk_ hs_ => (hk_.2) hs_)) (fun k_ hk_ => ⟨hk_.1.1, hk_.1.2⟩)); have n5_ := ak (blk_kept (g := gb1106) (o := .cells #[.slice A0_0 l0_0.length c0_0, .slice A0_1 l0_1.length c0_1, .slice A0_2 l0_2.length c0_2] 78 (0, 0)) (ub BK1106.out) hkp (fun hs_ => (fun e_ => (Kd.R_ne HO_26.out BK1106.out (by decide)) e_) hs_)); have n6_ := ak (hb); clear HO_4; clear HO_20; clear HO_23; clear HO_26; clear HO_31; clear BK1106; clear HB; have HO_4 := n0_; have HO_20 := n1_; have HO_23 := n2_; have HO_26 := n3_; have HO_31 := n4_; have BK1106 := n5_; have HB := n6_; clear n0_ n1_ n2_ n3_ n4_ n5_ n6_; (try clear hb); (try clear hkp); (try clear hy0)))
           go_roundg kj150
           case measure => have := HJ8.out; have := HK2.out; have := HK3.out; have := HJ125.out; have := HK5.out; have := HJ131.out; have := HK7.out; have := HJ142.out; have := HJ150.out; omega
           case rel => exact ⟨(x4_7), (wrap64 (x25_7 + 1)), (by first | rfl | (simp; done) | (simp [*]; done)), H', ⟨by have := HJ8.out; have := HK2.out; have := HK3.out; have := HJ125.out; have := HK5.out; have := HJ131.out; have := HK7.out; have := HJ142.out; have := HJ150.out; omega⟩, ⟨ur <| Kd.R_mono HO_4.out (fun _ hk => trivial)⟩, ⟨ur <| HO_20.out⟩, ⟨ur <| HO_23.out⟩, ⟨ub BK1106.out⟩, ⟨by repeat with_reducible first | exact HB.out | apply b1 | apply b2 | apply b3 | refine b4 ?_ GE1106.out⟩⟩
   rw [if_pos c23] at H
   have c23b0 : decide (x6_2 < (t1108.length : Int)) = true := decide_eq_true c23
   clear c23
   by_cases c24 : 0 ≤ x6_2
   rotate_left
   ·
    rw [if_neg c24] at H
    exact absurd H (by simp)
   rw [if_pos c24] at H
   have c24b0 : decide (0 ≤ x6_2) = true := decide_eq_true c24
   clear c24
   replace H := Option.bind_eq_some_iff.mp H
   obtain ⟨t1121, A250, H⟩ := H
   try dsimp only at H
   have A25 := ak A250
   clear A250
   replace H := Option.bind_eq_some_iff.mp H
   obtain ⟨t1123, A260, H⟩ := H
   try dsimp only at H
   have A26 := ak A260
   clear A260
   replace H := Option.bind_eq_some_iff.mp H
   obtain ⟨t1126, A270, H⟩ := H
   try dsimp only at H
   have A27 := ak A270
   clear A270
   replace H := Option.bind_eq_some_iff.mp H
   obtain ⟨t1127, A280, H⟩ := H
   try dsimp only at H
   have A28 := ak A280
   clear A280
   by_cases c29 : ((t1127 == 0) != t1121) = true
   ·
    rw [if_pos c29] at H
    have c29b0 : ((t1127 == 0) != t1121) = true := c29
    (try (have c29b1 : decide ((t1127 == 0) = t1121) = false := by simpa using c29))
    (try (have c29b2 : ((t1127 == 0) == t1121) = false := by simpa using c29))
    (try (have c29b3 : ¬ ((t1127 == 0) = t1121) := by simpa using c29))
    clear c29
    exact absurd (Option.some.inj H) (by decide)
   rw [if_neg c29] at H
   have c29b0 : ((t1127 == 0) != t1121) = false := by simpa using c29
   (try (have c29b1 : decide ((t1127 == 0) = t1121) = true := by simpa using c29))
   (try (have c29b2 : ((t1127 == 0) == t1121) = true := by simpa using c29))
   clear c29
   have H' := ak H
   clear H
   obtain ⟨Ao30, co30, eo30⟩ := Kd.N_slice HO_3.out
   subst eo30
   have p1120 : 0 ≤ (x6_2 : Int) := of_decide_eq_true (by first | (with_reducible assumption) | assumption)
   have q1120 : x6_2 < (t1108.length : Int) := of_decide_eq_true (by first | (with_reducible assumption) | assumption)
   obtain ⟨ad1120, A1120_0, c1120_0, e1120, hx1120_0, hl1120_0, hi1120_0⟩ := at_L7 (Kd.N_reads' HO_3.out).2.2 x6_2 p1120 q1120
   cases e1120
   obtain ⟨ce1120, hce1120, hMe1120, hcc1120⟩ := Kd.N_get HO_3.out [] x6_2 p1120 (by first | exact q1120 | exact of_decide_eq_true (by first | (with_reducible assumption) | assumption) | (have e_ := (Kd.N_reads' HO_3.out).1; omega))
   obtain ⟨ua1120_0, uc1120_0, rfl, ul1120_0, ge1120_0⟩ := Kd.FK_slice_open hMe1120
   have hv1120_0 := hcc1120 0 _ rfl
   rw [Nat.add_zero, show ((Kd.slice 3 (Kd.int .i64))).sz = 1 from rfl, Nat.mul_one] at hv1120_0
   replace hv1120_0 := Option.some.inj (hv1120_0.symm.trans hx1120_0)
   injection hv1120_0 with hva_ hvn_ hvc_
   rw [hva_] at ge1120_0
   rw [hvc_] at ul1120_0
   have HL1120_0 := ak (show Kd.V (Kd.int .i64) 3 _ w.heap.size _ _ (rd_L7 t1108 x6_2) from Kd.V_mk ul1120_0 ge1120_0)
   clear hva_ hvn_ hvc_ ge1120_0 ul1120_0 hcc1120 hce1120
   have HR1120_0 := ak hi1120_0
   have HC1120_0 := ak hl1120_0
   clear hi1120_0 hl1120_0
   replace p1120 := eq_true p1120
   replace q1120 := eq_true q1120
   go_wp2_with (first | ((with_reducible refine gate_callee (f := 78) rfl ?_); refine goesL_ (some 58) rfl rfl Try.func78 (by kernel_rfl) rfl #[.slice A1120_0 (rd_L7 t1108 x6_2).length c1120_0] rfl (by (try simp only [List.map_toArray, List.map_cons, List.map_nil]); first | done | rfl | (simp only [List.length_drop, List.length_take]; rfl)) ?_; (with_reducible refine (herbariumref3_May.calls k2 _ _ (rd_L7 t1108 x6_2) t1121 _ ?side1 ?side2 A25.out).mono ?_); (case side1 => exact uc HR1120_0.out); (case side2 => exact HC1120_0.out); rintro e w' ⟨rfl, ⟨nd, rfl⟩⟩; refine ⟨_, rfl, ?_⟩; have p1122 : 0 ≤ (x6_2 : Int) := of_decide_eq_true (by first | (with_reducible assumption) | assumption); have q1122 : x6_2 < (t1108.length : Int) := of_decide_eq_true (by first | (with_reducible assumption) | assumption); obtain ⟨ad1122, A1122_0, c1122_0, e1122, hx1122_0, hl1122_0, hi1122_0⟩ := at_L7 (Kd.N_reads' HO_3.out).2.2 x6_2 p1122 q1122; obtain rfl : ad1120 = ad1122 := (by injection e1122); obtain ⟨ce1122, hce1122, hMe1122, hcc1122⟩ := Kd.N_get HO_3.out [] x6_2 p1122 (by first | exact q1122 | exact of_decide_eq_true (by first | (with_reducible assumption) | assumption) | (have e_ := (Kd.N_reads' HO_3.out).1; omega)); obtain ⟨ua1122_0, uc1122_0, rfl, ul1122_0, ge1122_0⟩ := Kd.FK_slice_open hMe1122; have hv1122_0 := hcc1122 0 _ rfl; rw [Nat.add_zero, show ((Kd.slice 3 (Kd.int .i64))).sz = 1 from rfl, Nat.mul_one] at hv1122_0; replace hv1122_0 := Option.some.inj (hv1122_0.symm.trans hx1122_0); injection hv1122_0 with hva_ hvn_ hvc_; rw [hva_] at ge1122_0; rw [hvc_] at ul1122_0; have HL1122_0 := ak (show Kd.V (Kd.int .i64) 3 _ w.heap.size _ _ (rd_L7 t1108 x6_2) from Kd.V_mk ul1122_0 ge1122_0); clear hva_ hvn_ hvc_ ge1122_0 ul1122_0; clear hcc1122 hce1122; have HR1122_0 := ak hi1122_0; have HC1122_0 := ak hl1122_0; clear hi1122_0 hl1122_0; replace p1122 := eq_true p1122; replace q1122 := eq_true q1122; have ea_ := Option.some.inj (hx1120_0.symm.trans hx1122_0); injection ea_ with ea_ en_ ec_; subst ea_; subst ec_; clear en_) | ((with_reducible refine gate_callee (f := 79) rfl ?_); refine goesL_ (some 63) rfl rfl Try.func79 (by kernel_rfl) rfl #[.slice A1120_0 (rd_L7 t1108 x6_2).length c1120_0] rfl (by (try simp only [List.map_toArray, List.map_cons, List.map_nil]); first | done | rfl | (simp only [List.length_drop, List.length_take]; rfl)) ?_; (with_reducible refine (herbariumref0_CopyNumbers.calls k2 _ _ (rd_L7 t1108 x6_2) t1123 _ ?side1 ?side2 A26.out).mono ?_); (case side1 => exact uc HR1122_0.out); (case side2 => exact HC1122_0.out); rintro e w31 ⟨v1124, rfl, ho0, hb⟩; refine ⟨_, rfl, ?_⟩; have n0_ := ak (Kd.N_elder' (un <| HO_3.out) (Kd.R_base ho0) hb); have n1_ := ak (Kd.R_elder' (ur <| HO_4.out) (Kd.R_base ho0) hb); have n2_ := ak (Kd.N_elder' (un <| HO_5.out) (Kd.R_base ho0) hb); have n3_ := ak (Kd.V_elder' (uv <| HL1120_0.out) (Kd.R_base ho0) hb); have n4_ := ak (Kd.V_elder' (uv <| HL1122_0.out) (Kd.R_base ho0) hb); have n5_ := ak (Kd.R_lower (Kd.R_new' ho0 (Kd.R_lt (ur <| HO_4.out))) (below_size (by repeat with_reducible first | exact HB.out | apply b1 | apply b2 | apply b3 | refine b4 ?_ GE1106.out))); have n6_ := ak (blk_below (g := gb1106) (o := .cells #[.slice A0_0 l0_0.length c0_0, .slice A0_1 l0_1.length c0_1, .slice A0_2 l0_2.length c0_2] 78 (0, 0)) (ub BK1106.out) hb); have n7_ := ak (Kd.C_below (uc HR1120_0.out) hb); have n8_ := ak (Kd.C_below (uc HR1122_0.out) hb); have n9_ := ak (below_step (by repeat with_reducible first | exact HB.out | apply b1 | apply b2 | apply b3 | refine b4 ?_ GE1106.out) hb); clear HO_3; clear HO_4; clear HO_5; clear HL1120_0; clear HL1122_0; clear BK1106; clear HR1120_0; clear HR1122_0; clear HB; have HO_3 := n0_; have HO_4 := n1_; have HO_5 := n2_; have HL1120_0 := n3_; have HL1122_0 := n4_; have HO1125 := n5_; have BK1106 := n6_; have HR1120_0 := n7_; have HR1122_0 := n8_; have HB := n9_; clear n0_ n1_ n2_ n3_ n4_ n5_ n6_ n7_ n8_ n9_; (try clear hb); (try clear hb2); (try clear hk); (try clear hi); (try clear ho0); obtain ⟨Ao32, co32, eo32⟩ := Kd.R_slice HO1125.out; subst eo32) | ((with_reducible refine gate_callee (f := 80) rfl ?_); refine goesL_ (some 65) rfl rfl Try.func80 (by kernel_rfl) rfl #[.slice Ao32 t1123.length co32] rfl (by (try simp only [List.map_toArray, List.map_cons, List.map_nil]); first | done | rfl | (simp only [List.length_drop, List.length_take]; rfl)) ?_; (with_reducible refine (gaps_Check.calls k2 _ _ t1123 t1126 _ ?side1 ?side2 A27.out).mono ?_); (case side1 => exact uc (Kd.R_reads' HO1125.out).2.2); (case side2 => exact (Kd.R_reads' HO1125.out).2.1); rintro e w' ⟨rfl, ⟨nd, rfl⟩⟩; refine ⟨_, rfl, ?_⟩) | ((with_reducible refine gate_callee (f := 72) rfl ?_); refine goesL_ (some 66) rfl rfl Try.func72 (by kernel_rfl) rfl #[.int .i64 t1126] rfl (by (try simp only [List.map_toArray, List.map_cons, List.map_nil]); first | done | rfl | (simp only [List.length_drop, List.length_take]; rfl)) ?_; (with_reducible refine (herbariumlaw3_num.calls t1126 t1127 _ A28.out).mono ?_); rintro e w' ⟨rfl, ⟨nd, rfl⟩⟩; refine ⟨_, rfl, ?_⟩))
   go_loopg [5, 9] k2 (fun kq v5 v9 w' => ∃ (x5_3 : List (List Int)) (x9_3 : Int), v9 = .int .i64 x9_3 ∧ Aside0 (herbariumlaw3_GapsExact.l1 kq t1108 x4_8 x5_3 x6_2 t1121 t1123 x9_3 l0_0 l0_1 l0_2 = some true) ∧ Aside0 (kq ≤ k2) ∧ Aside0 (Kd.N (Kd.slice 3 (Kd.int .i64)) 23 w' w.heap.size (fun k_ => some k_ ≠ (u4 : Value).ownBlock ∧ some k_ ≠ (v5 : Value).ownBlock ∧ some k_ ≠ ((.slice Ao32 t1123.length co32) : Value).ownBlock ∧ k_ ≠ gb1106) (.slice (some ad1120) t1108.length co30) t1108) ∧ Aside0 (Kd.R (Kd.int .i64) 3 w' w.heap.size (fun k_ => some k_ ≠ ((.slice Ao32 t1123.length co32) : Value).ownBlock) u4 x4_8) ∧ Aside0 (Kd.N (Kd.slice 5 (Kd.int .u8)) 64 w' w.heap.size (fun k_ => some k_ ≠ ((.slice (some ad1120) t1108.length co30) : Value).ownBlock ∧ some k_ ≠ (u4 : Value).ownBlock ∧ some k_ ≠ ((.slice Ao32 t1123.length co32) : Value).ownBlock ∧ k_ ≠ gb1106) v5 x5_3) ∧ Aside0 (Kd.R (Kd.int .i64) 3 w' w.heap.size (fun k_ => some k_ ≠ (u4 : Value).ownBlock) (.slice Ao32 t1123.length co32) t1123) ∧ Aside0 (w'.heap[gb1106]? = some (.cells #[(.slice A0_0 l0_0.length c0_0), (.slice A0_1 l0_1.length c0_1), (.slice A0_2 l0_2.length c0_2)] 78 (0, 0))) ∧ Aside0 (Below w.heap.size w w'))
   case atStart => exact ⟨(x5_2), (0), (by first | rfl | (simp; done) | (simp [*]; done)), H', ⟨Nat.le_refl _⟩, ⟨un <| Kd.N_mono HO_3.out (fun _ hk => ⟨hk.1.1, ⟨hk.1.2.1, ⟨hk.2, hk.1.2.2⟩⟩⟩)⟩, ⟨ur <| Kd.R_mono HO_4.out (fun _ hk => hk.2)⟩, ⟨un <| Kd.N_mono HO_5.out (fun _ hk => ⟨hk.1.1, ⟨hk.1.2.1, ⟨hk.2, hk.1.2.2⟩⟩⟩)⟩, ⟨ur <| Kd.R_mono HO1125.out (fun _ hk => hk.2)⟩, ⟨ub BK1106.out⟩, ⟨by repeat with_reducible first | exact HB.out | apply b1 | apply b2 | apply b3 | refine b4 ?_ GE1106.out⟩⟩
   as_aux_lemma =>
    clear H'
    (try clear c3); (try clear c8); (try clear c23); (try clear c23b0); (try clear c24); (try clear c24b0); (try clear c29); (try clear c29b0); (try clear c29b1); (try clear c29b2); (try clear hcz11_0); (try clear hcz11_1); (try clear hcz11_2); (try clear hcz13_0); (try clear hcz13_1); (try clear hcz13_2); (try clear hcz17_0); (try clear hcz17_1); (try clear hcz17_2); (try clear hfz11_0); (try clear hfz11_1); (try clear hfz11_2); (try clear hfz13_0); (try clear hfz13_1); (try clear hfz13_2); (try clear hfz17_0); (try clear hfz17_1); (try clear hfz17_2); (try clear hx1120_0); (try clear hx1122_0); (try clear p1120)
    (try clear p1122); (try clear q1120); (try clear q1122); (try clear HA); (try clear HO_3); (try clear HO_4); (try clear HO_5); (try clear BK1106); (try clear HB)
    obtain ⟨x5_3, x9_3, rfl, HA, HK3, HO_3, HO_4, HO_5, HO_8, BK1106, HB⟩ := hrel
    cases gk with
    | zero => exact absurd HA.out (by simp [herbariumlaw3_GapsExact.l1])
    | succ k3 => ?_
    have H := HA.out
    clear HA
    simp only [herbariumlaw3_GapsExact.l1] at H
    by_cases c33 : x9_3 < (x4_8.length : Int)
    rotate_left
    ·
     rw [if_neg c33] at H
     have c33b0 : decide (x9_3 < (x4_8.length : Int)) = false := decide_eq_false c33
     clear c33
     have H' := ak H
     clear H
     obtain ⟨Ao117, co117, eo117⟩ := Kd.R_slice HO_4.out
     subst eo117
     go_wp2
     go_roundg k3
     case measure => have := HJ8.out; have := HK2.out; have := HK3.out; omega
     case rel => exact ⟨(x5_3), (wrap64 (x6_2 + 1)), (by first | rfl | (simp; done) | (simp [*]; done)), H', ⟨by have := HJ8.out; have := HK2.out; have := HK3.out; omega⟩, ⟨un <| Kd.N_mono HO_3.out (fun _ hk => ⟨hk.1, ⟨hk.2.1, hk.2.2.2⟩⟩)⟩, ⟨ur <| Kd.R_mono HO_4.out (fun _ hk => trivial)⟩, ⟨un <| Kd.N_mono HO_5.out (fun _ hk => ⟨hk.1, ⟨hk.2.1, hk.2.2.2⟩⟩)⟩, ⟨ub BK1106.out⟩, ⟨by repeat with_reducible first | exact HB.out | apply b1 | apply b2 | apply b3 | refine b4 ?_ GE1106.out⟩⟩
    rw [if_pos c33] at H
    have c33b0 : decide (x9_3 < (x4_8.length : Int)) = true := decide_eq_true c33
    clear c33
    by_cases c34 : 0 ≤ x9_3
    rotate_left
    ·
     rw [if_neg c34] at H
     exact absurd H (by simp)
    rw [if_pos c34] at H
    have c34b0 : decide (0 ≤ x9_3) = true := decide_eq_true c34
    clear c34
    replace H := Option.bind_eq_some_iff.mp H
    obtain ⟨⟨t1129, t1130⟩, A350, H⟩ := H
    try dsimp only at H
    have A35 := ak A350
    clear A350
    have HC36 := ak H
    clear H
    obtain ⟨Ao37, co37, eo37⟩ := Kd.R_slice HO_4.out
    subst eo37
    have p1128 : 0 ≤ (x9_3 : Int) := of_decide_eq_true (by first | (with_reducible assumption) | assumption)
    have q1128 : x9_3 < (x4_8.length : Int) := of_decide_eq_true (by first | (with_reducible assumption) | assumption)
    obtain ⟨ad1128, e1128, hx1128_0⟩ := Kd.at_int (Kd.R_reads' HO_4.out).2.2 x9_3 p1128 q1128
    cases e1128
    replace p1128 := eq_true p1128
    replace q1128 := eq_true q1128
    go_upto_region 21 with (first | ((with_reducible refine gate_callee (f := 74) rfl ?_); refine goesL_ (some 82) rfl rfl Try.func74 (by kernel_rfl) rfl #[.int .i64 (rd x4_8 x9_3), .slice Ao32 t1123.length co32] rfl (by (try simp only [List.map_toArray, List.map_cons, List.map_nil]); first | done | rfl | (simp only [List.length_drop, List.length_take]; rfl)) ?_; (with_reducible refine (gaps_Size.calls (rd x4_8 x9_3) _ _ t1123 t1129 t1130 _ ?side1 ?side2 A35.out).mono ?_); (case side1 => exact uc (Kd.R_reads' HO_8.out).2.2); (case side2 => exact (Kd.R_reads' HO_8.out).2.1); rintro e w38 ⟨rfl, hb⟩; refine ⟨_, rfl, ?_⟩; have n0_ := ak (Kd.N_below (un <| HO_3.out) hb); have n1_ := ak (Kd.R_below (ur <| HO_4.out) hb); have n2_ := ak (Kd.N_below (un <| HO_5.out) hb); have n3_ := ak (Kd.R_below (ur <| HO_8.out) hb); have n4_ := ak (blk_below (g := gb1106) (o := .cells #[.slice A0_0 l0_0.length c0_0, .slice A0_1 l0_1.length c0_1, .slice A0_2 l0_2.length c0_2] 78 (0, 0)) (ub BK1106.out) hb); have n5_ := ak (below_step (by repeat with_reducible first | exact HB.out | apply b1 | apply b2 | apply b3 | refine b4 ?_ GE1106.out) hb); clear HO_3; clear HO_4; clear HO_5; clear HO_8; clear BK1106; clear HB; have HO_3 := n0_; have HO_4 := n1_; have HO_5 := n2_; have HO_8 := n3_; have BK1106 := n4_; have HB := n5_; clear n0_ n1_ n2_ n3_ n4_ n5_; (try clear hb); (try clear hb2); (try clear hk); (try clear hi)))
    (try simp only [Act.put, s1, s2, s3])
    go_cut [92] (fun v92 wc => ∃ (kq : Nat) (x92_35 : Bool), v92 = .bool x92_35 ∧ Aside0 (herbariumlaw3_GapsExact.j3 kq t1108 x4_8 x5_3 x6_2 t1121 t1123 x9_3 t1129 t1130 1 0 ([] : List Int) x92_35 l0_0 l0_1 l0_2 = some true) ∧ Aside0 (kq ≤ k3) ∧ Aside0 (Kd.N (Kd.slice 3 (Kd.int .i64)) 23 wc w.heap.size (fun k_ => some k_ ≠ ((.slice (some ad1128) x4_8.length co37) : Value).ownBlock ∧ some k_ ≠ (u5 : Value).ownBlock ∧ some k_ ≠ ((.slice Ao32 t1123.length co32) : Value).ownBlock ∧ some k_ ≠ ((.slice none 0 0) : Value).ownBlock ∧ k_ ≠ gb1106) (.slice (some ad1120) t1108.length co30) t1108) ∧ Aside0 (Kd.R (Kd.int .i64) 3 wc w.heap.size (fun k_ => some k_ ≠ ((.slice Ao32 t1123.length co32) : Value).ownBlock) (.slice (some ad1128) x4_8.length co37) x4_8) ∧ Aside0 (Kd.N (Kd.slice 5 (Kd.int .u8)) 64 wc w.heap.size (fun k_ => some k_ ≠ ((.slice (some ad1120) t1108.length co30) : Value).ownBlock ∧ some k_ ≠ ((.slice (some ad1128) x4_8.length co37) : Value).ownBlock ∧ some k_ ≠ ((.slice Ao32 t1123.length co32) : Value).ownBlock ∧ k_ ≠ gb1106) u5 x5_3) ∧ Aside0 (Kd.R (Kd.int .i64) 3 wc w.heap.size (fun k_ => some k_ ≠ ((.slice (some ad1128) x4_8.length co37) : Value).ownBlock) (.slice Ao32 t1123.length co32) t1123) ∧ Aside0 (Kd.R (Kd.int .u8) 5 wc w.heap.size (fun _ => True) (.slice none 0 0) ([] : List Int)) ∧ Aside0 (wc.heap[gb1106]? = some (.cells #[(.slice A0_0 l0_0.length c0_0), (.slice A0_1 l0_1.length c0_1), (.slice A0_2 l0_2.length c0_2)] 78 (0, 0))) ∧ Aside0 (Below w.heap.size w wc))
    case first => as_aux_lemma =>
     have H := HC36.out
     clear HC36
     by_cases c39 : t1121 = true
     rotate_left
     ·
      replace c39 := Bool.eq_false_iff.mpr c39
      subst c39
      rw [if_neg (show ¬ (false = true) by decide)] at H
      have H' := ak H
      clear H
      go_wp2
      go_meet
      case rel => exact ⟨_, (false), (by first | rfl | (simp; done) | (simp [*]; done)), H', ⟨by have := HJ8.out; have := HK2.out; have := HK3.out; first | omega | exact Nat.le_refl _⟩, ⟨un <| Kd.N_mono HO_3.out (fun _ hk => ⟨hk.1, ⟨hk.2.1, ⟨hk.2.2.1, ⟨(by simp [Value.ownBlock]), hk.2.2.2⟩⟩⟩⟩)⟩, ⟨ur <| HO_4.out⟩, ⟨un <| HO_5.out⟩, ⟨ur <| HO_8.out⟩, ⟨by first | exact Kd.R_nil _ _ _ _ _ | exact Kd.N_nil _ _ _ _ _ | exact Kd.V_nil _ _ _ _ _ | exact Kd.Q_nil _ _ _ _ _ | exact Kd.S_nil _ _ _ _ _⟩, ⟨ub BK1106.out⟩, ⟨by repeat with_reducible first | exact HB.out | apply b1 | apply b2 | apply b3 | refine b4 ?_ GE1106.out⟩⟩
     subst c39
     rw [if_pos rfl] at H
     replace H := Option.bind_eq_some_iff.mp H
     obtain ⟨t1132, A400, H⟩ := H
     try dsimp only at H
     have A40 := ak A400
     clear A400
     have H' := ak H
     clear H
     have p1131 : 0 ≤ (x9_3 : Int) := of_decide_eq_true (by first | (with_reducible assumption) | assumption)
     have q1131 : x9_3 < (x4_8.length : Int) := of_decide_eq_true (by first | (with_reducible assumption) | assumption)
     obtain ⟨ad1131, e1131, hx1131_0⟩ := Kd.at_int (Kd.R_reads' HO_4.out).2.2 x9_3 p1131 q1131
     obtain rfl : ad1128 = ad1131 := (by injection e1131)
     replace p1131 := eq_true p1131
     replace q1131 := eq_true q1131
     go_wp2_with (first | (go_at_call 81; (with_reducible refine (herbariumref3_Origin.calls (rd x4_8 x9_3) t1132 _ A40.out).mono ?_); rintro e w' ⟨rfl, ⟨nd, rfl⟩⟩))
     go_meet
     case rel => exact ⟨_, (t1132), (by first | rfl | (simp; done) | (simp [*]; done)), H', ⟨by have := HJ8.out; have := HK2.out; have := HK3.out; first | omega | exact Nat.le_refl _⟩, ⟨un <| Kd.N_mono HO_3.out (fun _ hk => ⟨hk.1, ⟨hk.2.1, ⟨hk.2.2.1, ⟨(by simp [Value.ownBlock]), hk.2.2.2⟩⟩⟩⟩)⟩, ⟨ur <| HO_4.out⟩, ⟨un <| HO_5.out⟩, ⟨ur <| HO_8.out⟩, ⟨by first | exact Kd.R_nil _ _ _ _ _ | exact Kd.N_nil _ _ _ _ _ | exact Kd.V_nil _ _ _ _ _ | exact Kd.Q_nil _ _ _ _ _ | exact Kd.S_nil _ _ _ _ _⟩, ⟨ub BK1106.out⟩, ⟨by repeat with_reducible first | exact HB.out | apply b1 | apply b2 | apply b3 | refine b4 ?_ GE1106.out⟩⟩
    as_aux_lemma =>
     clear HC36
     (try clear c3); (try clear c8); (try clear c23); (try clear c23b0); (try clear c24); (try clear c24b0); (try clear c29); (try clear c29b0); (try clear c29b1); (try clear c29b2); (try clear c33); (try clear c33b0); (try clear c34); (try clear c34b0); (try clear hcz11_0); (try clear hcz11_1); (try clear hcz11_2); (try clear hcz13_0); (try clear hcz13_1); (try clear hcz13_2); (try clear hcz17_0); (try clear hcz17_1); (try clear hcz17_2); (try clear hfz11_0); (try clear hfz11_1); (try clear hfz11_2); (try clear hfz13_0); (try clear hfz13_1); (try clear hfz13_2); (try clear hfz17_0); (try clear hfz17_1)
     (try clear hfz17_2); (try clear hx1120_0); (try clear hx1122_0); (try clear hx1128_0); (try clear p1120); (try clear p1122); (try clear p1128); (try clear q1120); (try clear q1122); (try clear q1128); (try clear HA); (try clear HO_3); (try clear HO_4); (try clear HO_5); (try clear HO_8); (try clear BK1106); (try clear HB)
     obtain ⟨kq, x92_35, rfl, HA, HJ35, HO_3, HO_4, HO_5, HO_8, HO_14, BK1106, HB⟩ := hcut
     cases kq with
     | zero => exact absurd HA.out (by simp [herbariumlaw3_GapsExact.j3])
     | succ kj35 => ?_
     have H := HA.out
     clear HA
     simp only [herbariumlaw3_GapsExact.j3] at H
     have HC41 := ak H
     clear H
     go_upto_if 92 with (fail)
     go_cut [5, 12, 13, 14] (fun v5 v12 v13 v14 wc => ∃ (kq : Nat) (x5_40 : List (List Int)) (x12_40 : Int) (x13_40 : Int) (x14_40 : List Int), v12 = .int .i64 x12_40 ∧ v13 = .int .i64 x13_40 ∧ Aside0 (herbariumlaw3_GapsExact.j4 kq t1108 x4_8 x5_40 x6_2 t1121 t1123 x9_3 t1129 t1130 x12_40 x13_40 x14_40 l0_0 l0_1 l0_2 = some true) ∧ Aside0 (kq ≤ kj35) ∧ Aside0 (Kd.N (Kd.slice 3 (Kd.int .i64)) 23 wc w.heap.size (fun k_ => some k_ ≠ ((.slice (some ad1128) x4_8.length co37) : Value).ownBlock ∧ some k_ ≠ (v5 : Value).ownBlock ∧ some k_ ≠ ((.slice Ao32 t1123.length co32) : Value).ownBlock ∧ some k_ ≠ (v14 : Value).ownBlock ∧ k_ ≠ gb1106) (.slice (some ad1120) t1108.length co30) t1108) ∧ Aside0 (Kd.R (Kd.int .i64) 3 wc w.heap.size (fun k_ => some k_ ≠ ((.slice Ao32 t1123.length co32) : Value).ownBlock) (.slice (some ad1128) x4_8.length co37) x4_8) ∧ Aside0 (Kd.N (Kd.slice 5 (Kd.int .u8)) 64 wc w.heap.size (fun k_ => some k_ ≠ ((.slice (some ad1120) t1108.length co30) : Value).ownBlock ∧ some k_ ≠ ((.slice (some ad1128) x4_8.length co37) : Value).ownBlock ∧ some k_ ≠ ((.slice Ao32 t1123.length co32) : Value).ownBlock ∧ k_ ≠ gb1106) v5 x5_40) ∧ Aside0 (Kd.R (Kd.int .i64) 3 wc w.heap.size (fun k_ => some k_ ≠ ((.slice (some ad1128) x4_8.length co37) : Value).ownBlock) (.slice Ao32 t1123.length co32) t1123) ∧ Aside0 (Kd.R (Kd.int .u8) 5 wc w.heap.size (fun _ => True) v14 x14_40) ∧ Aside0 (wc.heap[gb1106]? = some (.cells #[(.slice A0_0 l0_0.length c0_0), (.slice A0_1 l0_1.length c0_1), (.slice A0_2 l0_2.length c0_2)] 78 (0, 0))) ∧ Aside0 (Below w.heap.size w wc))
     case first => as_aux_lemma =>
      have H := HC41.out
      clear HC41
      by_cases c42 : x92_35 = true
      rotate_left
      ·
       replace c42 := Bool.eq_false_iff.mpr c42
       subst c42
       rw [if_neg (show ¬ (false = true) by decide)] at H
       have H' := ak H
       clear H
       go_wp2
       go_meet
       case rel => exact ⟨_, (x5_3), (1), (0), (([] : List Int)), (by first | rfl | (simp; done) | (simp [*]; done)), (by first | rfl | (simp; done) | (simp [*]; done)), H', ⟨by have := HJ8.out; have := HK2.out; have := HK3.out; have := HJ35.out; first | omega | exact Nat.le_refl _⟩, ⟨un <| HO_3.out⟩, ⟨ur <| HO_4.out⟩, ⟨un <| HO_5.out⟩, ⟨ur <| HO_8.out⟩, ⟨ur <| HO_14.out⟩, ⟨ub BK1106.out⟩, ⟨by repeat with_reducible first | exact HB.out | apply b1 | apply b2 | apply b3 | refine b4 ?_ GE1106.out⟩⟩
      subst c42
      rw [if_pos rfl] at H
      by_cases c43 : 0 ≤ x9_3
      rotate_left
      ·
       rw [if_neg c43] at H
       exact absurd H (by simp)
      rw [if_pos c43] at H
      have c43b0 : decide (0 ≤ x9_3) = true := decide_eq_true c43
      clear c43
      (first | rw [c43b0] | (simp only [i64_w, i32_w]; rw [c43b0]) | skip)
      by_cases c44 : x9_3 < (x4_8.length : Int)
      rotate_left
      ·
       rw [if_neg c44] at H
       exact absurd H (by simp)
      rw [if_pos c44] at H
      have c44b0 : decide (x9_3 < (x4_8.length : Int)) = true := decide_eq_true c44
      clear c44
      by_cases c45 : 0 ≤ x6_2
      rotate_left
      ·
       rw [if_neg c45] at H
       exact absurd H (by simp)
      rw [if_pos c45] at H
      have c45b0 : decide (0 ≤ x6_2) = true := decide_eq_true c45
      clear c45
      by_cases c46 : x6_2 < (t1108.length : Int)
      rotate_left
      ·
       rw [if_neg c46] at H
       exact absurd H (by simp)
      rw [if_pos c46] at H
      have c46b0 : decide (x6_2 < (t1108.length : Int)) = true := decide_eq_true c46
      clear c46
      replace H := Option.bind_eq_some_iff.mp H
      obtain ⟨t1135, A470, H⟩ := H
      try dsimp only at H
      have A47 := ak A470
      clear A470
      by_cases c48 : x5_3.length < 5864062014805
      rotate_left
      ·
       rw [if_neg c48] at H
       exact absurd H (by simp)
      rw [if_pos c48] at H
      have LMc48 := ak c48
      clear c48
      obtain ⟨y1138, hy1138⟩ : ∃ y_ : List (List Int), y_ = (x5_3 ++ [t1135]) := ⟨_, rfl⟩
      replace H : (herbariumlaw3_GapsExact.j4 kj35 t1108 x4_8 y1138 x6_2 t1121 t1123 x9_3 t1129 t1130 0 (t1135.length : Int) t1135 l0_0 l0_1 l0_2) = some true := by first | (rw [hy1138]; with_reducible exact H) | (have H2_ := (Option.bind_some _ _).symm.trans H; rw [hy1138]; with_reducible exact H2_) | (have H2_ := (Option.bind_some _ _).symm.trans H; with_reducible exact H2_) | with_reducible exact H | (rw [hy1138]; exact H) | exact H
      have Ny1138 := ak hy1138
      clear hy1138
      have H' := ak H
      clear H
      try go_wp2
      have n0_ := ak (Kd.N_drew HO_3.out)
      have n1_ := ak (Kd.R_drew HO_4.out)
      have n2_ := ak (Kd.N_drew HO_5.out)
      have n3_ := ak (Kd.R_drew HO_8.out)
      have n4_ := ak (Kd.R_drew HO_14.out)
      have n5_ := ak (blk_drew BK1106.out)
      have n6_ := ak (below_drew1 HB.out)
      clear HO_3 HO_4 HO_5 HO_8 HO_14 BK1106 HB
      have HO_3 := n0_; have HO_4 := n1_; have HO_5 := n2_; have HO_8 := n3_; have HO_14 := n4_; have BK1106 := n5_; have HB := n6_
      clear n0_ n1_ n2_ n3_ n4_ n5_ n6_
      have p1133 : 0 ≤ (x9_3 : Int) := of_decide_eq_true (by first | (with_reducible assumption) | assumption)
      have q1133 : x9_3 < (x4_8.length : Int) := of_decide_eq_true (by first | (with_reducible assumption) | assumption)
      obtain ⟨ad1133, e1133, hx1133_0⟩ := Kd.at_int (Kd.R_reads' HO_4.out).2.2 x9_3 p1133 q1133
      obtain rfl : ad1128 = ad1133 := (by injection e1133)
      replace p1133 := eq_true p1133
      replace q1133 := eq_true q1133
      have p1134 : 0 ≤ (x6_2 : Int) := of_decide_eq_true (by first | (with_reducible assumption) | assumption)
      have q1134 : x6_2 < (t1108.length : Int) := of_decide_eq_true (by first | (with_reducible assumption) | assumption)
      obtain ⟨ad1134, A1134_0, c1134_0, e1134, hx1134_0, hl1134_0, hi1134_0⟩ := at_L7 (Kd.N_reads' HO_3.out).2.2 x6_2 p1134 q1134
      obtain rfl : ad1120 = ad1134 := (by injection e1134)
      obtain ⟨ce1134, hce1134, hMe1134, hcc1134⟩ := Kd.N_get HO_3.out [] x6_2 p1134 (by first | exact q1134 | exact of_decide_eq_true (by first | (with_reducible assumption) | assumption) | (have e_ := (Kd.N_reads' HO_3.out).1; omega))
      obtain ⟨ua1134_0, uc1134_0, rfl, ul1134_0, ge1134_0⟩ := Kd.FK_slice_open hMe1134
      have hv1134_0 := hcc1134 0 _ rfl
      rw [Nat.add_zero, show ((Kd.slice 3 (Kd.int .i64))).sz = 1 from rfl, Nat.mul_one] at hv1134_0
      replace hv1134_0 := Option.some.inj (hv1134_0.symm.trans hx1134_0)
      injection hv1134_0 with hva_ hvn_ hvc_
      rw [hva_] at ge1134_0
      rw [hvc_] at ul1134_0
      have HL1134_0 := ak (show Kd.V (Kd.int .i64) 3 _ w.heap.size _ _ (rd_L7 t1108 x6_2) from Kd.V_mk ul1134_0 ge1134_0)
      clear hva_ hvn_ hvc_ ge1134_0 ul1134_0 hcc1134 hce1134
      have HR1134_0 := ak hi1134_0
      have HC1134_0 := ak hl1134_0
      clear hi1134_0 hl1134_0
      replace p1134 := eq_true p1134
      replace q1134 := eq_true q1134
      refine start_ (n := 10) (S := fun w' => w'.cell? (ad1128.add (x9_3).toNat) = some (.int .i64 (rd x4_8 x9_3)) ∧ w'.cell? (ad1120.add (x6_2).toNat) = some (.slice A1134_0 (rd_L7 t1108 x6_2).length c1134_0)) (ds := []) #[false, false, false, false, false, false, false, false, false, false] (by kernel_rfl) rfl rfl ⟨hx1133_0, hx1134_0⟩ (fun hHeld => ?_); refine with_tabW herbariumlaw3_GapsExact.tab22 herbariumlaw3_GapsExact.bits22 (fun HT_ HW_ => ?_)
      generalize wc.drew = w49 at HO_3 HO_4 HO_5 HO_8 HO_14 BK1106 HB HL1134_0 HR1134_0 hx1133_0 hx1134_0 hHeld ⊢
      refine pure_ (i := 0) (N := some 93) (v := ?_) (a' := ?_) #[true, false, false, false, false, false, false, false, false, false] rfl rfl (any_of HT_.out (by kernel_rfl)) (fun _ _ _ h => h) (Or.inl ⟨by rfl, ?_⟩) ?_ ?_
      rotate_left
      ·
       intro w'
       go_simp
       with_reducible rfl
      rotate_left
      ·
       simp only [Act.put, s1, s2, s3, i64_w, i32_w]
       rfl
      refine pure_ (i := 1) (N := some 94) (v := ?_) (a' := ?_) #[true, true, false, false, false, false, false, false, false, false] rfl rfl (any_of HT_.out (by kernel_rfl)) (fun _ _ _ h => h) (Or.inl ⟨by rfl, ?_⟩) ?_ ?_
      rotate_left
      ·
       intro w'
       go_simp
       with_reducible rfl
      rotate_left
      ·
       simp only [Act.put, s1, s2, s3, i64_w, i32_w]
       rfl
      refine pure_ (i := 2) (N := some 95) (v := ?_) (a' := ?_) #[true, true, true, false, false, false, false, false, false, false] rfl rfl (any_of HT_.out (by kernel_rfl)) (fun _ _ _ h => h) (Or.inl ⟨by rfl, ?_⟩) ?_ ?_
      rotate_left
      ·
       intro w'
       go_simp
       with_reducible rfl
      rotate_left
      ·
       simp only [Act.put, s1, s2, s3, i64_w, i32_w]
       rfl
      refine pure_ (i := 4) (N := some 97) (v := ?_) (a' := ?_) #[true, true, true, false, true, false, false, false, false, false] rfl rfl (any_of HT_.out (by kernel_rfl)) (fun _ _ _ h => h) (Or.inl ⟨by rfl, ?_⟩) ?_ ?_
      rotate_left
      ·
       intro w'
       go_simp
       with_reducible rfl
      rotate_left
      ·
       simp only [Act.put, s1, s2, s3, i64_w, i32_w]
       rfl
      refine pure_ (i := 5) (N := some 98) (v := ?_) (a' := ?_) #[true, true, true, false, true, true, false, false, false, false] rfl rfl (any_of HT_.out (by kernel_rfl)) (fun _ _ _ h => h) (Or.inl ⟨by rfl, ?_⟩) ?_ ?_
      rotate_left
      ·
       intro w'
       go_simp
       with_reducible rfl
      rotate_left
      ·
       simp only [Act.put, s1, s2, s3, i64_w, i32_w]
       rfl
      refine pure_ (i := 6) (N := some 99) (v := ?_) (a' := ?_) #[true, true, true, false, true, true, true, false, false, false] rfl rfl (any_of HT_.out (by kernel_rfl)) (fun _ _ _ h => h) (Or.inl ⟨by rfl, ?_⟩) ?_ ?_
      rotate_left
      ·
       intro w'
       go_simp
       with_reducible rfl
      rotate_left
      ·
       simp only [Act.put, s1, s2, s3, i64_w, i32_w]
       rfl
      refine take_ (i := 3) (N := some 96) (v := ?_) (a' := ?_) #[true, true, true, true, true, true, true, false, false, false] rfl rfl (take_ofW HT_.out HW_.out (by kernel_rfl)) (fun _ _ _ h => h) (Or.inl ⟨by rfl, ?_⟩) hHeld ?_ ?_
      rotate_left
      ·
       rintro w' ⟨s0, s1⟩
       go_simp
       with_reducible rfl
      rotate_left
      ·
       simp only [Act.put, s1, s2, s3, i64_w, i32_w]
       rfl
      refine take_ (i := 7) (N := some 100) (v := ?_) (a' := ?_) #[true, true, true, true, true, true, true, true, false, false] rfl rfl (take_ofW HT_.out HW_.out (by kernel_rfl)) (fun _ _ _ h => h) (Or.inl ⟨by rfl, ?_⟩) hHeld ?_ ?_
      rotate_left
      ·
       rintro w' ⟨s0, s1⟩
       go_simp
       with_reducible rfl
      rotate_left
      ·
       simp only [Act.put, s1, s2, s3, i64_w, i32_w]
       rfl
      refine one_ (i := 8) (N := some 101) #[true, true, true, true, true, true, true, true, true, false] rfl rfl (one_of HT_.out (by kernel_rfl)) (by decide) (fun K hK => ?_)
      refine goes_ Try.func82 (by kernel_rfl) rfl #[.slice none 0 0, .int .i64 (rd x4_8 x9_3), .slice A1134_0 (rd_L7 t1108 x6_2).length c1134_0] (by rfl) rfl rfl (by (try simp only [List.map_toArray, List.map_cons, List.map_nil]); first | done | rfl | (simp only [List.length_drop, List.length_take]; rfl)) ?_
      refine (herbariumref3_Gaps.calls kj35 (fun k_ => some k_ = (.slice none 0 0 : Value).ownBlock) (.slice none 0 0) ([] : List Int) (rd x4_8 x9_3) _ _ (rd_L7 t1108 x6_2) t1135 w _ ?side1 ?side2 ?side3 ?side4 A47.out).mono ?_
      (case side1 => repeat (first | (with_reducible first | exact HB.out | apply below_alloc | apply pw_below_drewN | apply below_drew1 | refine below_set ?_ GE1106.out) | exact HB.out))
      (case side2 => exact Kd.R_nil _ _ _ _ _)
      (case side3 => exact Kd.C_kept_ownV (HL1134_0.out) (fun k_ hk_ hs_ => (fun e_ => by simp [Value.ownBlock] at e_) hs_))
      (case side4 => exact HC1134_0.out)
      rintro e w50 ⟨v1136, rfl, ho0, hb, hkp⟩
      have HS0_ := cell_kept (hHeld.1) hkp (by first | (rw [add_block]; exact (fun hs_ => (fun e_ => by simp [Value.ownBlock] at e_) hs_)) | (show ¬ _; simp only [add_block]; exact (fun hs_ => (fun e_ => by simp [Value.ownBlock] at e_) hs_)) | exact (fun hs_ => (fun e_ => by simp [Value.ownBlock] at e_) hs_))
      have HS1_ := cell_kept (hHeld.2) hkp (by first | (rw [add_block]; exact (fun hs_ => (fun e_ => by simp [Value.ownBlock] at e_) hs_)) | (show ¬ _; simp only [add_block]; exact (fun hs_ => (fun e_ => by simp [Value.ownBlock] at e_) hs_)) | exact (fun hs_ => (fun e_ => by simp [Value.ownBlock] at e_) hs_))
      refine ⟨_, rfl, ?_⟩
      have n0_ := ak (Kd.N_mono (ok' := fun k_ => some k_ ≠ (.slice (some ad1128) x4_8.length co37 : Value).ownBlock ∧ some k_ ≠ (u5 : Value).ownBlock ∧ some k_ ≠ (.slice Ao32 t1123.length co32 : Value).ownBlock ∧ some k_ ≠ (.slice none 0 0 : Value).ownBlock ∧ k_ ≠ gb1106 ∧ some k_ ≠ (v1136 : Value).ownBlock) (Kd.N_keptB (HO_3.out) hkp (fun k_ hk_ hs_ => (fun e_ => by simp [Value.ownBlock] at e_) hs_)) (fun k_ hk_ => ⟨hk_.1.1, hk_.1.2.1, hk_.1.2.2.1, hk_.1.2.2.2.1, hk_.1.2.2.2.2, fun e_ => Or.elim (ho0.1 k_ e_.symm) (fun hs_ => hk_.2.1 hs_) (fun hn_ => Nat.not_le.2 hk_.2.2 hn_)⟩))
      have n1_ := ak (Kd.R_mono (ok' := fun k_ => some k_ ≠ (.slice Ao32 t1123.length co32 : Value).ownBlock) (Kd.R_keptB (HO_4.out) hkp (fun k_ hk_ hs_ => (fun e_ => by simp [Value.ownBlock] at e_) hs_)) (fun k_ hk_ => hk_.1))
      have n2_ := ak (Kd.N_mono (ok' := fun k_ => some k_ ≠ (.slice (some ad1120) t1108.length co30 : Value).ownBlock ∧ some k_ ≠ (.slice (some ad1128) x4_8.length co37 : Value).ownBlock ∧ some k_ ≠ (.slice Ao32 t1123.length co32 : Value).ownBlock ∧ k_ ≠ gb1106 ∧ some k_ ≠ (v1136 : Value).ownBlock) (Kd.N_keptB (HO_5.out) hkp (fun k_ hk_ hs_ => (fun e_ => by simp [Value.ownBlock] at e_) hs_)) (fun k_ hk_ => ⟨hk_.1.1, hk_.1.2.1, hk_.1.2.2.1, hk_.1.2.2.2, fun e_ => Or.elim (ho0.1 k_ e_.symm) (fun hs_ => hk_.2.1 hs_) (fun hn_ => Nat.not_le.2 hk_.2.2 hn_)⟩))
      have n3_ := ak (Kd.R_mono (ok' := fun k_ => some k_ ≠ (.slice (some ad1128) x4_8.length co37 : Value).ownBlock) (Kd.R_keptB (HO_8.out) hkp (fun k_ hk_ hs_ => (fun e_ => by simp [Value.ownBlock] at e_) hs_)) (fun k_ hk_ => hk_.1))
      have n4_ := ak (Kd.R_mono (ok' := fun k_ => some k_ ≠ (v1136 : Value).ownBlock) (Kd.R_keptB (HO_14.out) hkp (fun k_ hk_ hs_ => (fun e_ => by simp [Value.ownBlock] at e_) hs_)) (fun k_ hk_ => fun e_ => Or.elim (ho0.1 k_ e_.symm) (fun hs_ => hk_.2.1 hs_) (fun hn_ => Nat.not_le.2 hk_.2.2 hn_)))
      have n5_ := ak (blk_kept (g := gb1106) (o := .cells #[.slice A0_0 l0_0.length c0_0, .slice A0_1 l0_1.length c0_1, .slice A0_2 l0_2.length c0_2] 78 (0, 0)) (ub BK1106.out) hkp (fun hs_ => (fun e_ => by simp [Value.ownBlock] at e_) hs_))
      have n6_ := ak (Kd.R_mono (ok' := fun k_ => some k_ ≠ (.slice none 0 0 : Value).ownBlock) ho0 (fun k_ hk_ => Or.elim hk_ (fun hs_ => absurd hs_ (by simp [Value.ownBlock])) (fun hn_ => (Kd.fresh' (Kd.R_lt (ur <| HO_14.out)) k_ hn_))))
      have n7_ := ak (hb)
      clear HO_3 HO_4 HO_5 HO_8 HO_14 BK1106 HB HL1134_0
      have HO_3 := n0_; have HO_4 := n1_; have HO_5 := n2_; have HO_8 := n3_; have HO_14 := n4_; have BK1106 := n5_; have HO1137 := n6_; have HB := n7_
      clear n0_ n1_ n2_ n3_ n4_ n5_ n6_ n7_
      (try clear hb); (try clear hkp); (try clear ho0)
      refine hK.out _ _ ⟨HS0_, HS1_⟩ (fun hHeld => ?_)
      clear hK K
      refine norm_ (a' := ?_) ?_ ?_
      rotate_left
      ·
       show Act.put _ (some 101) _ = _
       simp only [Act.put, s1, s2, s3, i64_w, i32_w]
       rfl
      refine pure_ (i := 9) (N := some 14) (v := ?_) (a' := ?_) #[true, true, true, true, true, true, true, true, true, true] rfl rfl (any_of HT_.out (by kernel_rfl)) (fun _ _ _ h => h) (Or.inl ⟨by rfl, ?_⟩) ?_ ?_
      rotate_left
      ·
       intro w'
       go_simp
       with_reducible rfl
      rotate_left
      ·
       simp only [Act.put, s1, s2, s3, i64_w, i32_w]
       rfl
      refine done_ (done_of HT_.out (by kernel_rfl)) ?_
      obtain ⟨Ao51, co51, eo51⟩ := Kd.R_slice HO1137.out
      subst eo51
      try go_wp2_with (first | ((with_reducible refine gate_builtin (b := .append) (xs := #[.tmp 104, .tmp 106]) rfl ?_); at_builtin; refine Kd.N_append (Kd.slice 5 (Kd.int .u8)) (w0 := w) w.heap.size rfl (.tmp 104) (.tmp 106) 86 64 (.slice none 0 0) 24 rfl Try.underlying86 info64 rfl (by decide) (by omega) u5 x5_3 t1135 [.slice Ao51 t1135.length co51] (fun k_ => some k_ ≠ (.slice (some ad1120) t1108.length co30 : Value).ownBlock ∧ some k_ ≠ (.slice (some ad1128) x4_8.length co37 : Value).ownBlock ∧ some k_ ≠ (.slice Ao32 t1123.length co32 : Value).ownBlock ∧ k_ ≠ gb1106) (fun k_ => ((fun k_ => some k_ ≠ (.slice (some ad1120) t1108.length co30 : Value).ownBlock ∧ some k_ ≠ (.slice (some ad1128) x4_8.length co37 : Value).ownBlock ∧ some k_ ≠ (.slice Ao32 t1123.length co32 : Value).ownBlock ∧ k_ ≠ gb1106)) k_ ∧ some k_ ≠ (u5 : Value).ownBlock) rfl rfl ?aP (fun _ hk => hk) ?aF ?aO ?aB ?aS ?aL ?_; (case aP => exact (Kd.FK_slice_mk (Kd.R_reads' (Kd.R_mono (ok' := (fun k_ => ((fun k_ => some k_ ≠ (.slice (some ad1120) t1108.length co30 : Value).ownBlock ∧ some k_ ≠ (.slice (some ad1128) x4_8.length co37 : Value).ownBlock ∧ some k_ ≠ (.slice Ao32 t1123.length co32 : Value).ownBlock ∧ k_ ≠ gb1106)) k_ ∧ some k_ ≠ (u5 : Value).ownBlock)) (Kd.R_types (Kd.R_apart' (Kd.R_apart' (Kd.R_apart' (Kd.R_apart' (HO1137.out) (Kd.N_typed HO_3.out) (by decide)) (Kd.R_typed HO_4.out) (by decide)) (Kd.R_typed HO_8.out) (by decide)) (Kd.N_typed HO_5.out) (by decide)) BK1106.out (by decide)) (fun k_ hk => ⟨⟨hk.1.1.1.1.2, ⟨hk.1.1.1.2, ⟨hk.1.1.2, hk.2⟩⟩⟩, hk.1.2⟩))).2.1 (Kd.R_F (Kd.R_mono (ok' := (fun k_ => ((fun k_ => some k_ ≠ (.slice (some ad1120) t1108.length co30 : Value).ownBlock ∧ some k_ ≠ (.slice (some ad1128) x4_8.length co37 : Value).ownBlock ∧ some k_ ≠ (.slice Ao32 t1123.length co32 : Value).ownBlock ∧ k_ ≠ gb1106)) k_ ∧ some k_ ≠ (u5 : Value).ownBlock)) (Kd.R_types (Kd.R_apart' (Kd.R_apart' (Kd.R_apart' (Kd.R_apart' (HO1137.out) (Kd.N_typed HO_3.out) (by decide)) (Kd.R_typed HO_4.out) (by decide)) (Kd.R_typed HO_8.out) (by decide)) (Kd.N_typed HO_5.out) (by decide)) BK1106.out (by decide)) (fun k_ hk => ⟨⟨hk.1.1.1.1.2, ⟨hk.1.1.1.2, ⟨hk.1.1.2, hk.2⟩⟩⟩, hk.1.2⟩))))); (case aB => exact (by repeat with_reducible first | exact HB.out | apply b1 | apply b2 | apply b3 | refine b4 ?_ GE1106.out)); (case aF => exact (fun k_ hk => ⟨Kd.fresh' (Kd.N_lt (un <| HO_3.out)) k_ hk, Kd.fresh' (Kd.R_lt (ur <| HO_4.out)) k_ hk, Kd.fresh' (Kd.R_lt (ur <| HO_8.out)) k_ hk, Kd.freshB (g := gb1106) (o := .cells #[.slice A0_0 l0_0.length c0_0, .slice A0_1 l0_1.length c0_1, .slice A0_2 l0_2.length c0_2] 78 (0, 0)) (ub BK1106.out) k_ hk⟩)); (case aO => exact (un <| Kd.N_mono HO_5.out (fun _ hk => ⟨hk.1, ⟨hk.2.1, ⟨hk.2.2.1, hk.2.2.2.1⟩⟩⟩))); (case aS => exact (below_size (by repeat with_reducible first | exact HB.out | apply b1 | apply b2 | apply b3 | refine b4 ?_ GE1106.out))); (case aL => have := LMc48.out; omega); intro v1139 w52 ho hb hg hat; rw [← Ny1138.out] at ho; have n0_ := ak (Kd.N_afterv (ok := (fun k_ => some k_ ≠ (.slice (some ad1128) x4_8.length co37 : Value).ownBlock ∧ some k_ ≠ (.slice Ao32 t1123.length co32 : Value).ownBlock ∧ some k_ ≠ (.slice none 0 0 : Value).ownBlock ∧ some k_ ≠ (.slice Ao51 t1135.length co51 : Value).ownBlock ∧ k_ ≠ gb1106)) (un <| Kd.N_mono HO_3.out (fun _ hk => ⟨⟨hk.1, ⟨hk.2.2.1, ⟨hk.2.2.2.1, ⟨hk.2.2.2.2.2, hk.2.2.2.2.1⟩⟩⟩⟩, hk.2.1⟩)) hg hat); have n1_ := ak (Kd.R_over' (ur <| HO_4.out) (Kd.N_typed (un <| HO_5.out)) (by decide) hg); have n2_ := ak (Kd.R_over' (ur <| HO_8.out) (Kd.N_typed (un <| HO_5.out)) (by decide) hg); have n3_ := ak (Kd.R_over' (ur <| HO_14.out) (Kd.N_typed (un <| HO_5.out)) (by decide) hg); have n4_ := ak (blk_grown (g := gb1106) (o := .cells #[.slice A0_0 l0_0.length c0_0, .slice A0_1 l0_1.length c0_1, .slice A0_2 l0_2.length c0_2] 78 (0, 0)) (ub BK1106.out) hg (Kd.N_ne HO_5.out BK1106.out (by decide))); have n5_ := ak (hb); have n6_ := ak (ho); have n7_ := ak (Kd.R_over' (ur <| HO1137.out) (Kd.N_typed (un <| HO_5.out)) (by decide) hg); clear HO_3; clear HO_4; clear HO_8; clear HO_14; clear BK1106; clear HB; clear HO_5; clear HO1137; have HO1137 := n7_; have HO_3 := n0_; have HO_4 := n1_; have HO_8 := n2_; have HO_14 := n3_; have BK1106 := n4_; have HB := n5_; have HO1140 := n6_; clear n0_ n1_ n2_ n3_ n4_ n5_ n6_ n7_; clear ho hb hg hat))
      go_meet
      case rel => exact ⟨_, (y1138), (0), ((t1135.length : Int)), (t1135), (by first | rfl | (simp; done) | (simp [*]; done)), (by first | rfl | (simp; done) | (simp [*]; done)), H', ⟨by have := HJ8.out; have := HK2.out; have := HK3.out; have := HJ35.out; first | omega | exact Nat.le_refl _⟩, ⟨un <| Kd.N_mono HO_3.out (fun _ hk => ⟨hk.1.1, ⟨hk.2, ⟨hk.1.2.1, ⟨hk.1.2.2.2.1, hk.1.2.2.2.2⟩⟩⟩⟩)⟩, ⟨ur <| HO_4.out⟩, ⟨un <| HO1140.out⟩, ⟨ur <| HO_8.out⟩, ⟨ur <| Kd.R_mono HO1137.out (fun _ _ => trivial)⟩, ⟨ub BK1106.out⟩, ⟨by repeat with_reducible first | exact HB.out | apply b1 | apply b2 | apply b3 | refine b4 ?_ GE1106.out⟩⟩
     as_aux_lemma =>
      clear HC41
      (try clear c3); (try clear c8); (try clear c23); (try clear c23b0); (try clear c24); (try clear c24b0); (try clear c29); (try clear c29b0); (try clear c29b1); (try clear c29b2); (try clear c33); (try clear c33b0); (try clear c34); (try clear c34b0); (try clear hcz11_0); (try clear hcz11_1); (try clear hcz11_2); (try clear hcz13_0); (try clear hcz13_1); (try clear hcz13_2); (try clear hcz17_0); (try clear hcz17_1); (try clear hcz17_2); (try clear hfz11_0); (try clear hfz11_1); (try clear hfz11_2); (try clear hfz13_0); (try clear hfz13_1); (try clear hfz13_2); (try clear hfz17_0); (try clear hfz17_1)
      (try clear hfz17_2); (try clear hx1120_0); (try clear hx1122_0); (try clear hx1128_0); (try clear p1120); (try clear p1122); (try clear p1128); (try clear q1120); (try clear q1122); (try clear q1128); (try clear HA); (try clear HO_3); (try clear HO_4); (try clear HO_5); (try clear HO_8); (try clear HO_14); (try clear BK1106); (try clear HB)
      obtain ⟨kq, x5_40, x12_40, x13_40, x14_40, rfl, rfl, HA, HJ40, HO_3, HO_4, HO_5, HO_8, HO_14, BK1106, HB⟩ := hcut
      cases kq with
      | zero => exact absurd HA.out (by simp [herbariumlaw3_GapsExact.j4])
      | succ kj40 => ?_
      have H := HA.out
      clear HA
      simp only [herbariumlaw3_GapsExact.j4] at H
      have HC53 := ak H
      clear H
      go_upto_region 25 with (fail)
      go_cut [116] (fun v116 wc => ∃ (kq : Nat) (x116_52 : Bool), v116 = .bool x116_52 ∧ Aside0 (herbariumlaw3_GapsExact.j5 kq t1108 x4_8 x5_40 x6_2 t1121 t1123 x9_3 x12_40 x13_40 x14_40 x116_52 l0_0 l0_1 l0_2 = some true) ∧ Aside0 (kq ≤ kj40) ∧ Aside0 (Kd.N (Kd.slice 3 (Kd.int .i64)) 23 wc w.heap.size (fun k_ => some k_ ≠ ((.slice (some ad1128) x4_8.length co37) : Value).ownBlock ∧ some k_ ≠ (u5 : Value).ownBlock ∧ some k_ ≠ ((.slice Ao32 t1123.length co32) : Value).ownBlock ∧ some k_ ≠ (u14 : Value).ownBlock ∧ k_ ≠ gb1106) (.slice (some ad1120) t1108.length co30) t1108) ∧ Aside0 (Kd.R (Kd.int .i64) 3 wc w.heap.size (fun k_ => some k_ ≠ ((.slice Ao32 t1123.length co32) : Value).ownBlock) (.slice (some ad1128) x4_8.length co37) x4_8) ∧ Aside0 (Kd.N (Kd.slice 5 (Kd.int .u8)) 64 wc w.heap.size (fun k_ => some k_ ≠ ((.slice (some ad1120) t1108.length co30) : Value).ownBlock ∧ some k_ ≠ ((.slice (some ad1128) x4_8.length co37) : Value).ownBlock ∧ some k_ ≠ ((.slice Ao32 t1123.length co32) : Value).ownBlock ∧ k_ ≠ gb1106) u5 x5_40) ∧ Aside0 (Kd.R (Kd.int .i64) 3 wc w.heap.size (fun k_ => some k_ ≠ ((.slice (some ad1128) x4_8.length co37) : Value).ownBlock) (.slice Ao32 t1123.length co32) t1123) ∧ Aside0 (Kd.R (Kd.int .u8) 5 wc w.heap.size (fun _ => True) u14 x14_40) ∧ Aside0 (wc.heap[gb1106]? = some (.cells #[(.slice A0_0 l0_0.length c0_0), (.slice A0_1 l0_1.length c0_1), (.slice A0_2 l0_2.length c0_2)] 78 (0, 0))) ∧ Aside0 (Below w.heap.size w wc))
      case first => as_aux_lemma =>
       have H := HC53.out
       clear HC53
       replace H := Option.bind_eq_some_iff.mp H
       obtain ⟨t1141, A540, H⟩ := H
       try dsimp only at H
       have A54 := ak A540
       clear A540
       by_cases c55 : t1141 = x12_40
       rotate_left
       ·
        rw [if_neg c55] at H
        have c55b0 : (t1141 == x12_40) = false := beq_eq_false_iff_ne.mpr c55
        have c55b1 : (t1141 != x12_40) = true := bne_iff_ne.mpr c55
        (first | rw [c55b0] | (simp only [i64_w, i32_w]; rw [c55b0]) | skip)
        exact absurd H (herbariumlaw3_GapsExact.j5_no _ _ _ _ _ _ _ _ _ _ _ _ _ _)
       rw [if_pos c55] at H
       have c55b0 : (t1141 == x12_40) = true := beq_iff_eq.mpr c55
       have c55b1 : (t1141 != x12_40) = false := bne_eq_false_iff_eq.mpr c55
       clear c55
       (first | rw [c55b0] | (simp only [i64_w, i32_w]; rw [c55b0]) | skip)
       have H' := ak H
       clear H
       go_wp2_with (first | ((with_reducible refine gate_callee (f := 72) rfl ?_); refine goesL_ (some 109) rfl rfl Try.func72 (by kernel_rfl) rfl #[.int .i64 t1130] rfl (by (try simp only [List.map_toArray, List.map_cons, List.map_nil]); first | done | rfl | (simp only [List.length_drop, List.length_take]; rfl)) ?_; (with_reducible refine (herbariumlaw3_num.calls t1130 t1141 _ A54.out).mono ?_); rintro e w' ⟨rfl, ⟨nd, rfl⟩⟩; refine ⟨_, rfl, ?_⟩))
       go_meet
       case rel => exact ⟨_, ((t1129 != x13_40)), (by first | rfl | (simp; done) | (simp [*]; done)), H', ⟨by have := HJ8.out; have := HK2.out; have := HK3.out; have := HJ35.out; have := HJ40.out; first | omega | exact Nat.le_refl _⟩, ⟨un <| HO_3.out⟩, ⟨ur <| HO_4.out⟩, ⟨un <| HO_5.out⟩, ⟨ur <| HO_8.out⟩, ⟨ur <| HO_14.out⟩, ⟨ub BK1106.out⟩, ⟨by repeat with_reducible first | exact HB.out | apply b1 | apply b2 | apply b3 | refine b4 ?_ GE1106.out⟩⟩
      as_aux_lemma =>
       clear HC53
       (try clear c3); (try clear c8); (try clear c23); (try clear c23b0); (try clear c24); (try clear c24b0); (try clear c29); (try clear c29b0); (try clear c29b1); (try clear c29b2); (try clear c33); (try clear c33b0); (try clear c34); (try clear c34b0); (try clear hcz11_0); (try clear hcz11_1); (try clear hcz11_2); (try clear hcz13_0); (try clear hcz13_1); (try clear hcz13_2); (try clear hcz17_0); (try clear hcz17_1); (try clear hcz17_2); (try clear hfz11_0); (try clear hfz11_1); (try clear hfz11_2); (try clear hfz13_0); (try clear hfz13_1); (try clear hfz13_2); (try clear hfz17_0); (try clear hfz17_1)
       (try clear hfz17_2); (try clear hx1120_0); (try clear hx1122_0); (try clear hx1128_0); (try clear p1120); (try clear p1122); (try clear p1128); (try clear q1120); (try clear q1122); (try clear q1128); (try clear HA); (try clear HO_3); (try clear HO_4); (try clear HO_5); (try clear HO_8); (try clear HO_14); (try clear BK1106); (try clear HB)
       obtain ⟨kq, x116_52, rfl, HA, HJ52, HO_3, HO_4, HO_5, HO_8, HO_14, BK1106, HB⟩ := hcut
       cases kq with
       | zero => exact absurd HA.out (by simp [herbariumlaw3_GapsExact.j5])
       | succ kj52 => ?_
       have H := HA.out
       clear HA
       simp only [herbariumlaw3_GapsExact.j5] at H
       by_cases c56 : x116_52 = true
       ·
        subst c56
        rw [if_pos rfl] at H
        exact absurd (Option.some.inj H) (by decide)
       replace c56 := Bool.eq_false_iff.mpr c56
       subst c56
       rw [if_neg (show ¬ (false = true) by decide)] at H
       have H' := ak H
       clear H
       go_wp2
       go_loopg [15] kj52 (fun kq v15 w' => ∃ (x15_7 : Int), v15 = .int .i64 x15_7 ∧ Aside0 (herbariumlaw3_GapsExact.l2 kq t1108 x4_8 x5_40 x6_2 t1121 t1123 x9_3 x12_40 x13_40 x14_40 x15_7 l0_0 l0_1 l0_2 = some true) ∧ Aside0 (kq ≤ kj52) ∧ Aside0 (Kd.N (Kd.slice 3 (Kd.int .i64)) 23 w' w.heap.size (fun k_ => some k_ ≠ ((.slice (some ad1128) x4_8.length co37) : Value).ownBlock ∧ some k_ ≠ (u5 : Value).ownBlock ∧ some k_ ≠ ((.slice Ao32 t1123.length co32) : Value).ownBlock ∧ some k_ ≠ (u14 : Value).ownBlock ∧ k_ ≠ gb1106) (.slice (some ad1120) t1108.length co30) t1108) ∧ Aside0 (Kd.R (Kd.int .i64) 3 w' w.heap.size (fun k_ => some k_ ≠ ((.slice Ao32 t1123.length co32) : Value).ownBlock) (.slice (some ad1128) x4_8.length co37) x4_8) ∧ Aside0 (Kd.N (Kd.slice 5 (Kd.int .u8)) 64 w' w.heap.size (fun k_ => some k_ ≠ ((.slice (some ad1120) t1108.length co30) : Value).ownBlock ∧ some k_ ≠ ((.slice (some ad1128) x4_8.length co37) : Value).ownBlock ∧ some k_ ≠ ((.slice Ao32 t1123.length co32) : Value).ownBlock ∧ k_ ≠ gb1106) u5 x5_40) ∧ Aside0 (Kd.R (Kd.int .i64) 3 w' w.heap.size (fun k_ => some k_ ≠ ((.slice (some ad1128) x4_8.length co37) : Value).ownBlock) (.slice Ao32 t1123.length co32) t1123) ∧ Aside0 (Kd.R (Kd.int .u8) 5 w' w.heap.size (fun _ => True) u14 x14_40) ∧ Aside0 (w'.heap[gb1106]? = some (.cells #[(.slice A0_0 l0_0.length c0_0), (.slice A0_1 l0_1.length c0_1), (.slice A0_2 l0_2.length c0_2)] 78 (0, 0))) ∧ Aside0 (Below w.heap.size w w'))
       case atStart => exact ⟨(0), (by first | rfl | (simp; done) | (simp [*]; done)), H', ⟨Nat.le_refl _⟩, ⟨un <| HO_3.out⟩, ⟨ur <| HO_4.out⟩, ⟨un <| HO_5.out⟩, ⟨ur <| HO_8.out⟩, ⟨ur <| HO_14.out⟩, ⟨ub BK1106.out⟩, ⟨by repeat with_reducible first | exact HB.out | apply b1 | apply b2 | apply b3 | refine b4 ?_ GE1106.out⟩⟩
       as_aux_lemma =>
        clear H'
        (try clear c3); (try clear c8); (try clear c23); (try clear c23b0); (try clear c24); (try clear c24b0); (try clear c29); (try clear c29b0); (try clear c29b1); (try clear c29b2); (try clear c33); (try clear c33b0); (try clear c34); (try clear c34b0); (try clear c56); (try clear hcz11_0); (try clear hcz11_1); (try clear hcz11_2); (try clear hcz13_0); (try clear hcz13_1); (try clear hcz13_2); (try clear hcz17_0); (try clear hcz17_1); (try clear hcz17_2); (try clear hfz11_0); (try clear hfz11_1); (try clear hfz11_2); (try clear hfz13_0); (try clear hfz13_1); (try clear hfz13_2); (try clear hfz17_0)
        (try clear hfz17_1); (try clear hfz17_2); (try clear hx1120_0); (try clear hx1122_0); (try clear hx1128_0); (try clear p1120); (try clear p1122); (try clear p1128); (try clear q1120); (try clear q1122); (try clear q1128); (try clear HA); (try clear HO_3); (try clear HO_4); (try clear HO_5); (try clear HO_8); (try clear HO_14); (try clear BK1106); (try clear HB)
        obtain ⟨x15_7, rfl, HA, HK7, HO_3, HO_4, HO_5, HO_8, HO_14, BK1106, HB⟩ := hrel
        cases gk with
        | zero => exact absurd HA.out (by simp [herbariumlaw3_GapsExact.l2])
        | succ k7 => ?_
        have H := HA.out
        clear HA
        simp only [herbariumlaw3_GapsExact.l2] at H
        have HC57 := ak H
        clear H
        go_upto_region 28 with (fail)
        go_cut [125] (fun v125 wc => ∃ (kq : Nat) (x125_56 : Bool), v125 = .bool x125_56 ∧ Aside0 (herbariumlaw3_GapsExact.j7 kq t1108 x4_8 x5_40 x6_2 t1121 t1123 x9_3 x12_40 x13_40 x14_40 x15_7 x125_56 l0_0 l0_1 l0_2 = some true) ∧ Aside0 (kq ≤ k7) ∧ Aside0 (Kd.N (Kd.slice 3 (Kd.int .i64)) 23 wc w.heap.size (fun k_ => some k_ ≠ ((.slice (some ad1128) x4_8.length co37) : Value).ownBlock ∧ some k_ ≠ (u5 : Value).ownBlock ∧ some k_ ≠ ((.slice Ao32 t1123.length co32) : Value).ownBlock ∧ some k_ ≠ (u14 : Value).ownBlock ∧ k_ ≠ gb1106) (.slice (some ad1120) t1108.length co30) t1108) ∧ Aside0 (Kd.R (Kd.int .i64) 3 wc w.heap.size (fun k_ => some k_ ≠ ((.slice Ao32 t1123.length co32) : Value).ownBlock) (.slice (some ad1128) x4_8.length co37) x4_8) ∧ Aside0 (Kd.N (Kd.slice 5 (Kd.int .u8)) 64 wc w.heap.size (fun k_ => some k_ ≠ ((.slice (some ad1120) t1108.length co30) : Value).ownBlock ∧ some k_ ≠ ((.slice (some ad1128) x4_8.length co37) : Value).ownBlock ∧ some k_ ≠ ((.slice Ao32 t1123.length co32) : Value).ownBlock ∧ k_ ≠ gb1106) u5 x5_40) ∧ Aside0 (Kd.R (Kd.int .i64) 3 wc w.heap.size (fun k_ => some k_ ≠ ((.slice (some ad1128) x4_8.length co37) : Value).ownBlock) (.slice Ao32 t1123.length co32) t1123) ∧ Aside0 (Kd.R (Kd.int .u8) 5 wc w.heap.size (fun _ => True) u14 x14_40) ∧ Aside0 (wc.heap[gb1106]? = some (.cells #[(.slice A0_0 l0_0.length c0_0), (.slice A0_1 l0_1.length c0_1), (.slice A0_2 l0_2.length c0_2)] 78 (0, 0))) ∧ Aside0 (Below w.heap.size w wc))
        case first => as_aux_lemma =>
         have H := HC57.out
         clear HC57
         by_cases c58 : x15_7 < (l0_1.length : Int)
         rotate_left
         ·
          rw [if_neg c58] at H
          have c58b0 : decide (x15_7 < (l0_1.length : Int)) = false := decide_eq_false c58
          clear c58
          (first | rw [c58b0] | (simp only [i64_w, i32_w]; rw [c58b0]) | skip)
          have H' := ak H
          clear H
          have hcz60_0 : wr.cell? ⟨gb1106, 0, none⟩ = some (.slice A0_0 l0_0.length c0_0) := (blk_cell BK1106.out 0).trans rfl
          have hcz60_1 : wr.cell? ⟨gb1106, 1, none⟩ = some (.slice A0_1 l0_1.length c0_1) := (blk_cell BK1106.out 1).trans rfl
          have hcz60_2 : wr.cell? ⟨gb1106, 2, none⟩ = some (.slice A0_2 l0_2.length c0_2) := (blk_cell BK1106.out 2).trans rfl
          have hfz60_0 := blk_frozen BK1106.out 0
          have hfz60_1 := blk_frozen BK1106.out 1
          have hfz60_2 := blk_frozen BK1106.out 2
          go_wp2
          go_meet
          case rel => exact ⟨_, (false), (by first | rfl | (simp; done) | (simp [*]; done)), H', ⟨by have := HJ8.out; have := HK2.out; have := HK3.out; have := HJ35.out; have := HJ40.out; have := HJ52.out; have := HK7.out; first | omega | exact Nat.le_refl _⟩, ⟨un <| HO_3.out⟩, ⟨ur <| HO_4.out⟩, ⟨un <| HO_5.out⟩, ⟨ur <| HO_8.out⟩, ⟨ur <| HO_14.out⟩, ⟨ub BK1106.out⟩, ⟨by repeat with_reducible first | exact HB.out | apply b1 | apply b2 | apply b3 | refine b4 ?_ GE1106.out⟩⟩
         rw [if_pos c58] at H
         have c58b0 : decide (x15_7 < (l0_1.length : Int)) = true := decide_eq_true c58
         clear c58
         (first | rw [c58b0] | (simp only [i64_w, i32_w]; rw [c58b0]) | skip)
         have H' := ak H
         clear H
         have hcz59_0 : wr.cell? ⟨gb1106, 0, none⟩ = some (.slice A0_0 l0_0.length c0_0) := (blk_cell BK1106.out 0).trans rfl
         have hcz59_1 : wr.cell? ⟨gb1106, 1, none⟩ = some (.slice A0_1 l0_1.length c0_1) := (blk_cell BK1106.out 1).trans rfl
         have hcz59_2 : wr.cell? ⟨gb1106, 2, none⟩ = some (.slice A0_2 l0_2.length c0_2) := (blk_cell BK1106.out 2).trans rfl
         have hfz59_0 := blk_frozen BK1106.out 0
         have hfz59_1 := blk_frozen BK1106.out 1
         have hfz59_2 := blk_frozen BK1106.out 2
         go_wp2
         go_meet
         case rel => exact ⟨_, (decide (x15_7 < 3)), (by first | rfl | (simp; done) | (simp [*]; done)), H', ⟨by have := HJ8.out; have := HK2.out; have := HK3.out; have := HJ35.out; have := HJ40.out; have := HJ52.out; have := HK7.out; first | omega | exact Nat.le_refl _⟩, ⟨un <| HO_3.out⟩, ⟨ur <| HO_4.out⟩, ⟨un <| HO_5.out⟩, ⟨ur <| HO_8.out⟩, ⟨ur <| HO_14.out⟩, ⟨ub BK1106.out⟩, ⟨by repeat with_reducible first | exact HB.out | apply b1 | apply b2 | apply b3 | refine b4 ?_ GE1106.out⟩⟩
        as_aux_lemma =>
         clear HC57
         (try clear c3); (try clear c8); (try clear c23); (try clear c23b0); (try clear c24); (try clear c24b0); (try clear c29); (try clear c29b0); (try clear c29b1); (try clear c29b2); (try clear c33); (try clear c33b0); (try clear c34); (try clear c34b0); (try clear c56); (try clear hcz11_0); (try clear hcz11_1); (try clear hcz11_2); (try clear hcz13_0); (try clear hcz13_1); (try clear hcz13_2); (try clear hcz17_0); (try clear hcz17_1); (try clear hcz17_2); (try clear hfz11_0); (try clear hfz11_1); (try clear hfz11_2); (try clear hfz13_0); (try clear hfz13_1); (try clear hfz13_2); (try clear hfz17_0)
         (try clear hfz17_1); (try clear hfz17_2); (try clear hx1120_0); (try clear hx1122_0); (try clear hx1128_0); (try clear p1120); (try clear p1122); (try clear p1128); (try clear q1120); (try clear q1122); (try clear q1128); (try clear HA); (try clear HO_3); (try clear HO_4); (try clear HO_5); (try clear HO_8); (try clear HO_14); (try clear BK1106); (try clear HB)
         obtain ⟨kq, x125_56, rfl, HA, HJ56, HO_3, HO_4, HO_5, HO_8, HO_14, BK1106, HB⟩ := hcut
         cases kq with
         | zero => exact absurd HA.out (by simp [herbariumlaw3_GapsExact.j7])
         | succ kj56 => ?_
         have H := HA.out
         clear HA
         simp only [herbariumlaw3_GapsExact.j7] at H
         by_cases c61 : x125_56 = true
         rotate_left
         ·
          replace c61 := Bool.eq_false_iff.mpr c61
          subst c61
          rw [if_neg (show ¬ (false = true) by decide)] at H
          have H' := ak H
          clear H
          go_wp2
          go_roundg kj56
          case measure => have := HJ8.out; have := HK2.out; have := HK3.out; have := HJ35.out; have := HJ40.out; have := HJ52.out; have := HK7.out; have := HJ56.out; omega
          case rel => exact ⟨(x5_40), (wrap64 (x9_3 + 1)), (by first | rfl | (simp; done) | (simp [*]; done)), H', ⟨by have := HJ8.out; have := HK2.out; have := HK3.out; have := HJ35.out; have := HJ40.out; have := HJ52.out; have := HK7.out; have := HJ56.out; omega⟩, ⟨un <| Kd.N_mono HO_3.out (fun _ hk => ⟨hk.1, ⟨hk.2.1, ⟨hk.2.2.1, hk.2.2.2.2⟩⟩⟩)⟩, ⟨ur <| HO_4.out⟩, ⟨un <| HO_5.out⟩, ⟨ur <| HO_8.out⟩, ⟨ub BK1106.out⟩, ⟨by repeat with_reducible first | exact HB.out | apply b1 | apply b2 | apply b3 | refine b4 ?_ GE1106.out⟩⟩
         subst c61
         rw [if_pos rfl] at H
         by_cases c62 : 0 ≤ x15_7
         rotate_left
         ·
          rw [if_neg c62] at H
          exact absurd H (by simp)
         rw [if_pos c62] at H
         have c62b0 : decide (0 ≤ x15_7) = true := decide_eq_true c62
         clear c62
         by_cases c63 : x15_7 < (l0_1.length : Int)
         rotate_left
         ·
          rw [if_neg c63] at H
          exact absurd H (by simp)
         rw [if_pos c63] at H
         have c63b0 : decide (x15_7 < (l0_1.length : Int)) = true := decide_eq_true c63
         clear c63
         by_cases c64 : 0 ≤ x9_3
         rotate_left
         ·
          rw [if_neg c64] at H
          exact absurd H (by simp)
         rw [if_pos c64] at H
         have c64b0 : decide (0 ≤ x9_3) = true := decide_eq_true c64
         clear c64
         by_cases c65 : x9_3 < (x4_8.length : Int)
         rotate_left
         ·
          rw [if_neg c65] at H
          exact absurd H (by simp)
         rw [if_pos c65] at H
         have c65b0 : decide (x9_3 < (x4_8.length : Int)) = true := decide_eq_true c65
         clear c65
         replace H := Option.bind_eq_some_iff.mp H
         obtain ⟨⟨t1144, t1145, t1146⟩, A660, H⟩ := H
         try dsimp only at H
         have A66 := ak A660
         clear A660
         have HC67 := ak H
         clear H
         try go_wp2
         have n0_ := ak (Kd.N_drew HO_3.out)
         have n1_ := ak (Kd.R_drew HO_4.out)
         have n2_ := ak (Kd.N_drew HO_5.out)
         have n3_ := ak (Kd.R_drew HO_8.out)
         have n4_ := ak (Kd.R_drew HO_14.out)
         have n5_ := ak (blk_drew BK1106.out)
         have n6_ := ak (below_drew1 HB.out)
         clear HO_3 HO_4 HO_5 HO_8 HO_14 BK1106 HB
         have HO_3 := n0_; have HO_4 := n1_; have HO_5 := n2_; have HO_8 := n3_; have HO_14 := n4_; have BK1106 := n5_; have HB := n6_
         clear n0_ n1_ n2_ n3_ n4_ n5_ n6_
         have p1142 : 0 ≤ (x15_7 : Int) := of_decide_eq_true (by first | (with_reducible assumption) | assumption)
         have q1142 : x15_7 < (l0_1.length : Int) := of_decide_eq_true (by first | (with_reducible assumption) | assumption)
         obtain ⟨ad1142, e1142, hx1142_0, hx1142_1⟩ := at_T27 HR0_1.out x15_7 p1142 q1142
         have hw1142_1 := hx1142_1
         have hw1142_0 := hx1142_0
         cases e1142
         replace hx1142_0 := (HB.out.cell (World.block_lt_of_cell? w _ hx1142_0)).trans hx1142_0
         replace hx1142_1 := (HB.out.cell (World.block_lt_of_cell? w _ hx1142_1)).trans hx1142_1
         replace p1142 := eq_true p1142
         replace q1142 := eq_true q1142
         have p1143 : 0 ≤ (x9_3 : Int) := of_decide_eq_true (by first | (with_reducible assumption) | assumption)
         have q1143 : x9_3 < (x4_8.length : Int) := of_decide_eq_true (by first | (with_reducible assumption) | assumption)
         obtain ⟨ad1143, e1143, hx1143_0⟩ := Kd.at_int (Kd.R_reads' HO_4.out).2.2 x9_3 p1143 q1143
         obtain rfl : ad1128 = ad1143 := (by injection e1143)
         replace p1143 := eq_true p1143
         replace q1143 := eq_true q1143
         refine start_ (n := 17) (S := fun w' => w'.cell? ⟨gb1106, 0, none⟩ = some (.slice A0_0 l0_0.length c0_0) ∧ w'.cell? ⟨gb1106, 1, none⟩ = some (.slice (some ad1142) l0_1.length c0_1) ∧ w'.cell? ⟨gb1106, 2, none⟩ = some (.slice A0_2 l0_2.length c0_2) ∧ w'.cell? (ad1142.add ((x15_7).toNat * 2)) = some (.string ((rd_T27 l0_1 x15_7).f0)) ∧ w'.cell? ⟨(ad1142.add ((x15_7).toNat * 2)).block, (ad1142.add ((x15_7).toNat * 2)).off + 1, none⟩ = some (.int .i64 ((rd_T27 l0_1 x15_7).f1)) ∧ w'.cell? (ad1128.add (x9_3).toNat) = some (.int .i64 (rd x4_8 x9_3))) (ds := []) #[false, false, false, false, false, false, false, false, false, false, false, false, false, false, false, false, false] (by kernel_rfl) rfl rfl ⟨(blk_cell BK1106.out 0).trans rfl, (blk_cell BK1106.out 1).trans rfl, (blk_cell BK1106.out 2).trans rfl, ((HB.out.cell (World.block_lt_of_cell? w _ hw1142_0)).trans hw1142_0), ((HB.out.cell (World.block_lt_of_cell? w _ hw1142_1)).trans hw1142_1), hx1143_0⟩ (fun hHeld => ?_); refine with_tabW herbariumlaw3_GapsExact.tab30 herbariumlaw3_GapsExact.bits30 (fun HT_ HW_ => ?_)
         generalize wc.drew = w68 at HO_3 HO_4 HO_5 HO_8 HO_14 BK1106 HB hx1142_0 hx1142_1 hx1143_0 hHeld ⊢
         refine pure_ (i := 0) (N := some 129) (v := ?_) (a' := ?_) #[true, false, false, false, false, false, false, false, false, false, false, false, false, false, false, false, false] rfl rfl (any_of HT_.out (by kernel_rfl)) (fun _ _ _ h => h) (Or.inl ⟨by rfl, ?_⟩) ?_ ?_
         rotate_left
         ·
          intro w'
          go_simp
          with_reducible rfl
         rotate_left
         ·
          simp only [Act.put, s1, s2, s3, i64_w, i32_w]
          rfl
         refine pure_ (i := 2) (N := some 131) (v := ?_) (a' := ?_) #[true, false, true, false, false, false, false, false, false, false, false, false, false, false, false, false, false] rfl rfl (any_of HT_.out (by kernel_rfl)) (fun _ _ _ h => h) (Or.inl ⟨by rfl, ?_⟩) ?_ ?_
         rotate_left
         ·
          intro w'
          go_simp
          with_reducible rfl
         rotate_left
         ·
          simp only [Act.put, s1, s2, s3, i64_w, i32_w]
          rfl
         refine pure_ (i := 5) (N := some 134) (v := ?_) (a' := ?_) #[true, false, true, false, false, true, false, false, false, false, false, false, false, false, false, false, false] rfl rfl (any_of HT_.out (by kernel_rfl)) (fun _ _ _ h => h) (Or.inl ⟨by rfl, ?_⟩) ?_ ?_
         rotate_left
         ·
          intro w'
          go_simp
          with_reducible rfl
         rotate_left
         ·
          simp only [Act.put, s1, s2, s3, i64_w, i32_w]
          rfl
         refine pure_ (i := 6) (N := some 135) (v := ?_) (a' := ?_) #[true, false, true, false, false, true, true, false, false, false, false, false, false, false, false, false, false] rfl rfl (any_of HT_.out (by kernel_rfl)) (fun _ _ _ h => h) (Or.inl ⟨by rfl, ?_⟩) ?_ ?_
         rotate_left
         ·
          intro w'
          go_simp
          with_reducible rfl
         rotate_left
         ·
          simp only [Act.put, s1, s2, s3, i64_w, i32_w]
          rfl
         refine pure_ (i := 7) (N := some 136) (v := ?_) (a' := ?_) #[true, false, true, false, false, true, true, true, false, false, false, false, false, false, false, false, false] rfl rfl (any_of HT_.out (by kernel_rfl)) (fun _ _ _ h => h) (Or.inl ⟨by rfl, ?_⟩) ?_ ?_
         rotate_left
         ·
          intro w'
          go_simp
          with_reducible rfl
         rotate_left
         ·
          simp only [Act.put, s1, s2, s3, i64_w, i32_w]
          rfl
         refine pure_ (i := 9) (N := some 138) (v := ?_) (a' := ?_) #[true, false, true, false, false, true, true, true, false, true, false, false, false, false, false, false, false] rfl rfl (any_of HT_.out (by kernel_rfl)) (fun _ _ _ h => h) (Or.inl ⟨by rfl, ?_⟩) ?_ ?_
         rotate_left
         ·
          intro w'
          go_simp
          with_reducible rfl
         rotate_left
         ·
          simp only [Act.put, s1, s2, s3, i64_w, i32_w]
          rfl
         refine take_ (i := 1) (N := some 130) (v := ?_) (a' := ?_) #[true, true, true, false, false, true, true, true, false, true, false, false, false, false, false, false, false] rfl rfl (take_ofW HT_.out HW_.out (by kernel_rfl)) (fun _ _ _ h => h) (Or.inl ⟨by rfl, ?_⟩) hHeld ?_ ?_
         rotate_left
         ·
          rintro w' ⟨s0, s1, s2, s3, s4, s5⟩
          go_simp
          with_reducible rfl
         rotate_left
         ·
          simp only [Act.put, s1, s2, s3, i64_w, i32_w]
          rfl
         refine pure_ (i := 3) (N := some 132) (v := ?_) (a' := ?_) #[true, true, true, true, false, true, true, true, false, true, false, false, false, false, false, false, false] rfl rfl (any_of HT_.out (by kernel_rfl)) (fun _ _ _ h => h) (Or.inl ⟨by rfl, ?_⟩) ?_ ?_
         rotate_left
         ·
          intro w'
          go_simp
          with_reducible rfl
         rotate_left
         ·
          simp only [Act.put, s1, s2, s3, i64_w, i32_w]
          rfl
         refine take_ (i := 4) (N := some 133) (v := ?_) (a' := ?_) #[true, true, true, true, true, true, true, true, false, true, false, false, false, false, false, false, false] rfl rfl (take_ofW HT_.out HW_.out (by kernel_rfl)) (fun _ _ _ h => h) (Or.inl ⟨by rfl, ?_⟩) hHeld ?_ ?_
         rotate_left
         ·
          rintro w' ⟨s0, s1, s2, s3, s4, s5⟩
          go_simp
          with_reducible rfl
         rotate_left
         ·
          simp only [Act.put, s1, s2, s3, i64_w, i32_w]
          rfl
         refine take_ (i := 8) (N := some 137) (v := ?_) (a' := ?_) #[true, true, true, true, true, true, true, true, true, true, false, false, false, false, false, false, false] rfl rfl (take_ofW HT_.out HW_.out (by kernel_rfl)) (fun _ _ _ h => h) (Or.inl ⟨by rfl, ?_⟩) hHeld ?_ ?_
         rotate_left
         ·
          rintro w' ⟨s0, s1, s2, s3, s4, s5⟩
          go_simp
          with_reducible rfl
         rotate_left
         ·
          simp only [Act.put, s1, s2, s3, i64_w, i32_w]
          rfl
         refine join_ (σ := Nat) 2 #[true, true, true, true, true, true, true, true, true, true, true, true, true, true, true, false, false] (fun s_ => [(139, .tuple #[.agg #[.string t1144, .int .i64 t1145], .int .i64 t1146]), (16, .pointer (some ⟨s_, 0, none⟩)), (128, .tuple #[.agg #[.string t1144, .int .i64 t1145], .int .i64 t1146]), (140, .agg #[.string t1144, .int .i64 t1145]), (141, .int .i64 t1146)]) (fun s_ w' => (w'.cell? ⟨gb1106, 0, none⟩ = some (.slice A0_0 l0_0.length c0_0) ∧ w'.cell? ⟨gb1106, 1, none⟩ = some (.slice (some ad1142) l0_1.length c0_1) ∧ w'.cell? ⟨gb1106, 2, none⟩ = some (.slice A0_2 l0_2.length c0_2) ∧ w'.cell? (ad1142.add ((x15_7).toNat * 2)) = some (.string ((rd_T27 l0_1 x15_7).f0)) ∧ w'.cell? ⟨(ad1142.add ((x15_7).toNat * 2)).block, (ad1142.add ((x15_7).toNat * 2)).off + 1, none⟩ = some (.int .i64 ((rd_T27 l0_1 x15_7).f1)) ∧ w'.cell? (ad1128.add (x9_3).toNat) = some (.int .i64 (rd x4_8 x9_3))) ∧ (Kd.R (Kd.int .u8) 5 w' w.heap.size (fun _ => True) u14 x14_40) ∧ (Kd.N (Kd.slice 3 (Kd.int .i64)) 23 w' w.heap.size (fun k_ => some k_ ≠ (u14 : Value).ownBlock ∧ some k_ ≠ (.slice (some ad1128) x4_8.length co37 : Value).ownBlock ∧ some k_ ≠ (u5 : Value).ownBlock ∧ some k_ ≠ (.slice Ao32 t1123.length co32 : Value).ownBlock ∧ k_ ≠ gb1106 ∧ k_ ≠ s_) (.slice (some ad1120) t1108.length co30) t1108) ∧ (Kd.R (Kd.int .i64) 3 w' w.heap.size (fun k_ => some k_ ≠ (.slice Ao32 t1123.length co32 : Value).ownBlock) (.slice (some ad1128) x4_8.length co37) x4_8) ∧ (Kd.N (Kd.slice 5 (Kd.int .u8)) 64 w' w.heap.size (fun k_ => some k_ ≠ (.slice (some ad1120) t1108.length co30 : Value).ownBlock ∧ some k_ ≠ (.slice (some ad1128) x4_8.length co37 : Value).ownBlock ∧ some k_ ≠ (.slice Ao32 t1123.length co32 : Value).ownBlock ∧ k_ ≠ gb1106 ∧ k_ ≠ s_) u5 x5_40) ∧ (Kd.R (Kd.int .i64) 3 w' w.heap.size (fun k_ => some k_ ≠ (.slice (some ad1128) x4_8.length co37 : Value).ownBlock) (.slice Ao32 t1123.length co32) t1123) ∧ (w'.heap[gb1106]? = some (.cells #[.slice A0_0 l0_0.length c0_0, .slice (some ad1142) l0_1.length c0_1, .slice A0_2 l0_2.length c0_2] 78 (0, 0))) ∧ (w'.heap[s_]? = some (.cells #[.string (⟨#[]⟩ : ByteArray), .int .i64 0] 27 (0, 0))) ∧ (w.heap.size ≤ s_) ∧ (w.heap.size ≤ s_) ∧ (gb1106 ≠ s_) ∧ (s_ ≠ gb1106) ∧ (Below w.heap.size w w')) ?_ ?_
         rotate_left
         ·
          intro hCont
          refine two_ (i := 10) (j := 14) (Ni := some 139) (Nj := some 16) #[true, true, true, true, true, true, true, true, true, true, true, false, false, false, false, false, false] #[true, true, true, true, true, true, true, true, true, true, false, false, false, false, true, false, false] rfl rfl rfl rfl (two_of HT_.out (by kernel_rfl)) (by decide) (by decide) (fun K hK => ?_) (fun K hK => ?_)
          ·
           skip
           refine goes_ Try.func71 (by kernel_rfl) rfl #[.agg #[.string ((rd_T27 l0_1 x15_7).f0), .int .i64 ((rd_T27 l0_1 x15_7).f1)], .int .i64 (rd x4_8 x9_3), .slice Ao32 t1123.length co32] (by rfl) rfl rfl (by (try simp only [List.map_toArray, List.map_cons, List.map_nil]); first | done | rfl | (simp only [List.length_drop, List.length_take]; rfl)) ?_
           with_reducible refine (gaps_Put.calls ((rd_T27 l0_1 x15_7).f0) ((rd_T27 l0_1 x15_7).f1) (rd x4_8 x9_3) _ _ t1123 t1144 t1145 t1146 _ ?side1 ?side2 A66.out).mono ?_
           (case side1 => exact uc (Kd.R_reads' HO_8.out).2.2)
           (case side2 => exact (Kd.R_reads' HO_8.out).2.1)
           rintro e w69 ⟨rfl, hb⟩
           have HS5_ := (hb.cell (World.block_lt_of_cell? _ _ (hHeld.2.2.2.2.2))).trans (hHeld.2.2.2.2.2)
           refine ⟨_, rfl, ?_⟩
           have n0_ := ak (Kd.N_below (un <| HO_3.out) hb)
           have n1_ := ak (Kd.R_below (ur <| HO_4.out) hb)
           have n2_ := ak (Kd.N_below (un <| HO_5.out) hb)
           have n3_ := ak (Kd.R_below (ur <| HO_8.out) hb)
           have n4_ := ak (Kd.R_below (ur <| HO_14.out) hb)
           have n5_ := ak (blk_below (g := gb1106) (o := .cells #[.slice A0_0 l0_0.length c0_0, .slice (some ad1142) l0_1.length c0_1, .slice A0_2 l0_2.length c0_2] 78 (0, 0)) (ub BK1106.out) hb)
           have n6_ := ak (below_step (by repeat with_reducible first | exact HB.out | apply b1 | apply b2 | apply b3 | refine b4 ?_ GE1106.out) hb)
           clear HO_3 HO_4 HO_5 HO_8 HO_14 BK1106 HB
           have HO_3 := n0_; have HO_4 := n1_; have HO_5 := n2_; have HO_8 := n3_; have HO_14 := n4_; have BK1106 := n5_; have HB := n6_
           clear n0_ n1_ n2_ n3_ n4_ n5_ n6_
           (try clear hb); (try clear hb2); (try clear hk); (try clear hi)
           refine hK.out _ _ ⟨(blk_cell BK1106.out 0).trans rfl, (blk_cell BK1106.out 1).trans rfl, (blk_cell BK1106.out 2).trans rfl, ((HB.out.cell (World.block_lt_of_cell? w _ hw1142_0)).trans hw1142_0), ((HB.out.cell (World.block_lt_of_cell? w _ hw1142_1)).trans hw1142_1), HS5_⟩ (fun hHeld => ?_)
           clear hK K
           refine norm_ (a' := ?_) ?_ ?_
           rotate_left
           ·
            show Act.put _ (some 139) _ = _
            simp only [Act.put, s1, s2, s3, i64_w, i32_w]
            rfl
           refine pure_ (i := 11) (N := some 128) (v := ?_) (a' := ?_) #[true, true, true, true, true, true, true, true, true, true, true, true, false, false, false, false, false] rfl rfl (any_of HT_.out (by kernel_rfl)) (fun _ _ _ h => h) (Or.inl ⟨by rfl, ?_⟩) ?_ ?_
           rotate_left
           ·
            intro w'
            go_simp
            with_reducible rfl
           rotate_left
           ·
            simp only [Act.put, s1, s2, s3, i64_w, i32_w]
            rfl
           refine pure_ (i := 12) (N := some 140) (v := ?_) (a' := ?_) #[true, true, true, true, true, true, true, true, true, true, true, true, true, false, false, false, false] rfl rfl (any_of HT_.out (by kernel_rfl)) (fun _ _ _ h => h) (Or.inl ⟨by rfl, ?_⟩) ?_ ?_
           rotate_left
           ·
            intro w'
            go_simp
            with_reducible rfl
           rotate_left
           ·
            simp only [Act.put, s1, s2, s3, i64_w, i32_w]
            rfl
           refine pure_ (i := 13) (N := some 141) (v := ?_) (a' := ?_) #[true, true, true, true, true, true, true, true, true, true, true, true, true, true, false, false, false] rfl rfl (any_of HT_.out (by kernel_rfl)) (fun _ _ _ h => h) (Or.inl ⟨by rfl, ?_⟩) ?_ ?_
           rotate_left
           ·
            intro w'
            go_simp
            with_reducible rfl
           rotate_left
           ·
            simp only [Act.put, s1, s2, s3, i64_w, i32_w]
            rfl
           refine one_ (i := 14) (N := some 16) #[true, true, true, true, true, true, true, true, true, true, true, true, true, true, true, false, false] rfl rfl (one_of HT_.out (by kernel_rfl)) (by decide) (fun K hK => ?_)
           refine box_step ?hg (N := 16) ?hd (cs := #[.string (⟨#[]⟩ : ByteArray), .int .i64 0]) (t := 27) ?hr ?_; (case hd => rfl); (case hg => rfl); (case hr => first | (go_simp; done) | (go_simp; rfl))
           intro gb1147 hg w70 hbox hb
           have HS5_ := (hb.cell (World.block_lt_of_cell? _ _ (hHeld.2.2.2.2.2))).trans (hHeld.2.2.2.2.2)
           have n0_ := ak (Kd.N_below (Kd.N_elderB (un <| HO_3.out) gb1147 (Nat.le_of_eq hg.symm)) hb)
           have n1_ := ak (Kd.R_below (ur <| HO_4.out) hb)
           have n2_ := ak (Kd.N_below (Kd.N_elderB (un <| HO_5.out) gb1147 (Nat.le_of_eq hg.symm)) hb)
           have n3_ := ak (Kd.R_below (ur <| HO_8.out) hb)
           have n4_ := ak (Kd.R_below (ur <| HO_14.out) hb)
           have n5_ := ak (blk_below (g := gb1106) (o := .cells #[.slice A0_0 l0_0.length c0_0, .slice (some ad1142) l0_1.length c0_1, .slice A0_2 l0_2.length c0_2] 78 (0, 0)) (ub BK1106.out) hb)
           have n6_ := ak (below_step (by repeat with_reducible first | exact HB.out | apply b1 | apply b2 | apply b3 | refine b4 ?_ GE1106.out) hb)
           have n7_ := ak (hbox)
           have n8_ := ak ((by rw [hg]; exact (below_size (by repeat with_reducible first | exact HB.out | apply b1 | apply b2 | apply b3 | refine b4 ?_ GE1106.out)) : w.heap.size ≤ gb1147))
           have n9_ := ak ((by rw [hg]; exact (below_size (by repeat with_reducible first | exact HB.out | apply b1 | apply b2 | apply b3 | refine b4 ?_ GE1106.out)) : w.heap.size ≤ gb1147))
           have n10_ := ak ((by rw [hg]; exact Nat.ne_of_lt (blk_lt (g := gb1106) (o := .cells #[.slice A0_0 l0_0.length c0_0, .slice (some ad1142) l0_1.length c0_1, .slice A0_2 l0_2.length c0_2] 78 (0, 0)) (ub BK1106.out)) : gb1106 ≠ gb1147))
           have n11_ := ak ((by rw [hg]; exact Nat.ne_of_gt (blk_lt (g := gb1106) (o := .cells #[.slice A0_0 l0_0.length c0_0, .slice (some ad1142) l0_1.length c0_1, .slice A0_2 l0_2.length c0_2] 78 (0, 0)) (ub BK1106.out)) : gb1147 ≠ gb1106))
           clear HO_3 HO_4 HO_5 HO_8 HO_14 BK1106 HB
           have HO_3 := n0_; have HO_4 := n1_; have HO_5 := n2_; have HO_8 := n3_; have HO_14 := n4_; have BK1106 := n5_; have HB := n6_; have BK1147 := n7_; have GW1147 := n8_; have GE1147 := n9_; have NB1106_1147 := n10_; have NB1147_1106 := n11_
           clear n0_ n1_ n2_ n3_ n4_ n5_ n6_ n7_ n8_ n9_ n10_ n11_ hb hbox hg
           refine hK.out _ _ ⟨(blk_cell BK1106.out 0).trans rfl, (blk_cell BK1106.out 1).trans rfl, (blk_cell BK1106.out 2).trans rfl, ((HB.out.cell (World.block_lt_of_cell? w _ hw1142_0)).trans hw1142_0), ((HB.out.cell (World.block_lt_of_cell? w _ hw1142_1)).trans hw1142_1), HS5_⟩ (fun hHeld => ?_)
           clear hK K
           refine norm_ (a' := ?_) ?_ ?_
           rotate_left
           ·
            show Act.put _ (some 16) _ = _
            simp only [Act.put, s1, s2, s3, i64_w, i32_w]
            rfl
           exact norm_ (by simp only [putAll, Act.put, s1, s2, s3]) (hCont (gb1147) _ ⟨hHeld, (ur <| HO_14.out), (un <| Kd.N_mono HO_3.out (fun _ hk => ⟨hk.1.2.2.2.1, ⟨hk.1.1, ⟨hk.1.2.1, ⟨hk.1.2.2.1, ⟨hk.1.2.2.2.2, hk.2⟩⟩⟩⟩⟩)), (ur <| HO_4.out), (un <| Kd.N_mono HO_5.out (fun _ hk => ⟨hk.1.1, ⟨hk.1.2.1, ⟨hk.1.2.2.1, ⟨hk.1.2.2.2, hk.2⟩⟩⟩⟩)), (ur <| HO_8.out), (ub BK1106.out), (ub BK1147.out), GW1147.out, GE1147.out, NB1106_1147.out, NB1147_1106.out, (by repeat with_reducible first | exact HB.out | apply b1 | apply b2 | apply b3 | refine b4 ?_ GE1106.out | refine b4 ?_ GE1147.out)⟩)
          ·
           skip
           refine box_step ?hg (N := 16) ?hd (cs := #[.string (⟨#[]⟩ : ByteArray), .int .i64 0]) (t := 27) ?hr ?_; (case hd => rfl); (case hg => rfl); (case hr => first | (go_simp; done) | (go_simp; rfl))
           intro gb1147 hg w69 hbox hb
           have HS5_ := (hb.cell (World.block_lt_of_cell? _ _ (hHeld.2.2.2.2.2))).trans (hHeld.2.2.2.2.2)
           have n0_ := ak (Kd.N_below (Kd.N_elderB (un <| HO_3.out) gb1147 (Nat.le_of_eq hg.symm)) hb)
           have n1_ := ak (Kd.R_below (ur <| HO_4.out) hb)
           have n2_ := ak (Kd.N_below (Kd.N_elderB (un <| HO_5.out) gb1147 (Nat.le_of_eq hg.symm)) hb)
           have n3_ := ak (Kd.R_below (ur <| HO_8.out) hb)
           have n4_ := ak (Kd.R_below (ur <| HO_14.out) hb)
           have n5_ := ak (blk_below (g := gb1106) (o := .cells #[.slice A0_0 l0_0.length c0_0, .slice (some ad1142) l0_1.length c0_1, .slice A0_2 l0_2.length c0_2] 78 (0, 0)) (ub BK1106.out) hb)
           have n6_ := ak (below_step (by repeat with_reducible first | exact HB.out | apply b1 | apply b2 | apply b3 | refine b4 ?_ GE1106.out) hb)
           have n7_ := ak (hbox)
           have n8_ := ak ((by rw [hg]; exact (below_size (by repeat with_reducible first | exact HB.out | apply b1 | apply b2 | apply b3 | refine b4 ?_ GE1106.out)) : w.heap.size ≤ gb1147))
           have n9_ := ak ((by rw [hg]; exact (below_size (by repeat with_reducible first | exact HB.out | apply b1 | apply b2 | apply b3 | refine b4 ?_ GE1106.out)) : w.heap.size ≤ gb1147))
           have n10_ := ak ((by rw [hg]; exact Nat.ne_of_lt (blk_lt (g := gb1106) (o := .cells #[.slice A0_0 l0_0.length c0_0, .slice (some ad1142) l0_1.length c0_1, .slice A0_2 l0_2.length c0_2] 78 (0, 0)) (ub BK1106.out)) : gb1106 ≠ gb1147))
           have n11_ := ak ((by rw [hg]; exact Nat.ne_of_gt (blk_lt (g := gb1106) (o := .cells #[.slice A0_0 l0_0.length c0_0, .slice (some ad1142) l0_1.length c0_1, .slice A0_2 l0_2.length c0_2] 78 (0, 0)) (ub BK1106.out)) : gb1147 ≠ gb1106))
           clear HO_3 HO_4 HO_5 HO_8 HO_14 BK1106 HB
           have HO_3 := n0_; have HO_4 := n1_; have HO_5 := n2_; have HO_8 := n3_; have HO_14 := n4_; have BK1106 := n5_; have HB := n6_; have BK1147 := n7_; have GW1147 := n8_; have GE1147 := n9_; have NB1106_1147 := n10_; have NB1147_1106 := n11_
           clear n0_ n1_ n2_ n3_ n4_ n5_ n6_ n7_ n8_ n9_ n10_ n11_ hb hbox hg
           refine hK.out _ _ ⟨(blk_cell BK1106.out 0).trans rfl, (blk_cell BK1106.out 1).trans rfl, (blk_cell BK1106.out 2).trans rfl, ((HB.out.cell (World.block_lt_of_cell? w _ hw1142_0)).trans hw1142_0), ((HB.out.cell (World.block_lt_of_cell? w _ hw1142_1)).trans hw1142_1), HS5_⟩ (fun hHeld => ?_)
           clear hK K
           refine norm_ (a' := ?_) ?_ ?_
           rotate_left
           ·
            show Act.put _ (some 16) _ = _
            simp only [Act.put, s1, s2, s3, i64_w, i32_w]
            rfl
           refine one_ (i := 10) (N := some 139) #[true, true, true, true, true, true, true, true, true, true, true, false, false, false, true, false, false] rfl rfl (one_of HT_.out (by kernel_rfl)) (by decide) (fun K hK => ?_)
           refine goes_ Try.func71 (by kernel_rfl) rfl #[.agg #[.string ((rd_T27 l0_1 x15_7).f0), .int .i64 ((rd_T27 l0_1 x15_7).f1)], .int .i64 (rd x4_8 x9_3), .slice Ao32 t1123.length co32] (by rfl) rfl rfl (by (try simp only [List.map_toArray, List.map_cons, List.map_nil]); first | done | rfl | (simp only [List.length_drop, List.length_take]; rfl)) ?_
           with_reducible refine (gaps_Put.calls ((rd_T27 l0_1 x15_7).f0) ((rd_T27 l0_1 x15_7).f1) (rd x4_8 x9_3) _ _ t1123 t1144 t1145 t1146 _ ?side1 ?side2 A66.out).mono ?_
           (case side1 => exact uc (Kd.R_reads' HO_8.out).2.2)
           (case side2 => exact (Kd.R_reads' HO_8.out).2.1)
           rintro e w70 ⟨rfl, hb⟩
           have HS5_ := (hb.cell (World.block_lt_of_cell? _ _ (hHeld.2.2.2.2.2))).trans (hHeld.2.2.2.2.2)
           refine ⟨_, rfl, ?_⟩
           have n0_ := ak (Kd.N_below (un <| HO_3.out) hb)
           have n1_ := ak (Kd.R_below (ur <| HO_4.out) hb)
           have n2_ := ak (Kd.N_below (un <| HO_5.out) hb)
           have n3_ := ak (Kd.R_below (ur <| HO_8.out) hb)
           have n4_ := ak (Kd.R_below (ur <| HO_14.out) hb)
           have n5_ := ak (blk_below (g := gb1106) (o := .cells #[.slice A0_0 l0_0.length c0_0, .slice (some ad1142) l0_1.length c0_1, .slice A0_2 l0_2.length c0_2] 78 (0, 0)) (ub BK1106.out) hb)
           have n6_ := ak (blk_below (g := gb1147) (o := .cells #[.string (⟨#[]⟩ : ByteArray), .int .i64 0] 27 (0, 0)) (ub BK1147.out) hb)
           have n7_ := ak (below_step (by repeat with_reducible first | exact HB.out | apply b1 | apply b2 | apply b3 | refine b4 ?_ GE1106.out | refine b4 ?_ GE1147.out) hb)
           clear HO_3 HO_4 HO_5 HO_8 HO_14 BK1106 BK1147 HB
           have HO_3 := n0_; have HO_4 := n1_; have HO_5 := n2_; have HO_8 := n3_; have HO_14 := n4_; have BK1106 := n5_; have BK1147 := n6_; have HB := n7_
           clear n0_ n1_ n2_ n3_ n4_ n5_ n6_ n7_
           (try clear hb); (try clear hb2); (try clear hk); (try clear hi)
           refine hK.out _ _ ⟨(blk_cell BK1106.out 0).trans rfl, (blk_cell BK1106.out 1).trans rfl, (blk_cell BK1106.out 2).trans rfl, ((HB.out.cell (World.block_lt_of_cell? w _ hw1142_0)).trans hw1142_0), ((HB.out.cell (World.block_lt_of_cell? w _ hw1142_1)).trans hw1142_1), HS5_⟩ (fun hHeld => ?_)
           clear hK K
           refine norm_ (a' := ?_) ?_ ?_
           rotate_left
           ·
            show Act.put _ (some 139) _ = _
            simp only [Act.put, s1, s2, s3, i64_w, i32_w]
            rfl
           refine pure_ (i := 11) (N := some 128) (v := ?_) (a' := ?_) #[true, true, true, true, true, true, true, true, true, true, true, true, false, false, true, false, false] rfl rfl (any_of HT_.out (by kernel_rfl)) (fun _ _ _ h => h) (Or.inl ⟨by rfl, ?_⟩) ?_ ?_
           rotate_left
           ·
            intro w'
            go_simp
            with_reducible rfl
           rotate_left
           ·
            simp only [Act.put, s1, s2, s3, i64_w, i32_w]
            rfl
           refine pure_ (i := 12) (N := some 140) (v := ?_) (a' := ?_) #[true, true, true, true, true, true, true, true, true, true, true, true, true, false, true, false, false] rfl rfl (any_of HT_.out (by kernel_rfl)) (fun _ _ _ h => h) (Or.inl ⟨by rfl, ?_⟩) ?_ ?_
           rotate_left
           ·
            intro w'
            go_simp
            with_reducible rfl
           rotate_left
           ·
            simp only [Act.put, s1, s2, s3, i64_w, i32_w]
            rfl
           refine pure_ (i := 13) (N := some 141) (v := ?_) (a' := ?_) #[true, true, true, true, true, true, true, true, true, true, true, true, true, true, true, false, false] rfl rfl (any_of HT_.out (by kernel_rfl)) (fun _ _ _ h => h) (Or.inl ⟨by rfl, ?_⟩) ?_ ?_
           rotate_left
           ·
            intro w'
            go_simp
            with_reducible rfl
           rotate_left
           ·
            simp only [Act.put, s1, s2, s3, i64_w, i32_w]
            rfl
           exact norm_ (by simp only [putAll, Act.put, s1, s2, s3]) (hCont (gb1147) _ ⟨hHeld, (ur <| HO_14.out), (un <| Kd.N_mono HO_3.out (fun _ hk => ⟨hk.1.2.2.2.1, ⟨hk.1.1, ⟨hk.1.2.1, ⟨hk.1.2.2.1, ⟨hk.1.2.2.2.2, hk.2⟩⟩⟩⟩⟩)), (ur <| HO_4.out), (un <| Kd.N_mono HO_5.out (fun _ hk => ⟨hk.1.1, ⟨hk.1.2.1, ⟨hk.1.2.2.1, ⟨hk.1.2.2.2, hk.2⟩⟩⟩⟩)), (ur <| HO_8.out), (ub BK1106.out), (ub BK1147.out), GW1147.out, GE1147.out, NB1106_1147.out, NB1147_1106.out, (by repeat with_reducible first | exact HB.out | apply b1 | apply b2 | apply b3 | refine b4 ?_ GE1106.out | refine b4 ?_ GE1147.out)⟩)
         rintro gb1147 w71 ⟨hS_, h0_, h1_, h2_, h3_, h4_, h5_, h6_, h7_, h8_, h9_, h10_, h11_⟩
         have n0_ : Aside0 (Kd.R (Kd.int .u8) 5 w71 w.heap.size (fun _ => True) u14 x14_40) := ⟨h0_⟩
         have n1_ : Aside0 (Kd.N (Kd.slice 3 (Kd.int .i64)) 23 w71 w.heap.size (fun k_ => some k_ ≠ (u14 : Value).ownBlock ∧ some k_ ≠ (.slice (some ad1128) x4_8.length co37 : Value).ownBlock ∧ some k_ ≠ (u5 : Value).ownBlock ∧ some k_ ≠ (.slice Ao32 t1123.length co32 : Value).ownBlock ∧ k_ ≠ gb1106 ∧ k_ ≠ gb1147) (.slice (some ad1120) t1108.length co30) t1108) := ⟨h1_⟩
         have n2_ : Aside0 (Kd.R (Kd.int .i64) 3 w71 w.heap.size (fun k_ => some k_ ≠ (.slice Ao32 t1123.length co32 : Value).ownBlock) (.slice (some ad1128) x4_8.length co37) x4_8) := ⟨h2_⟩
         have n3_ : Aside0 (Kd.N (Kd.slice 5 (Kd.int .u8)) 64 w71 w.heap.size (fun k_ => some k_ ≠ (.slice (some ad1120) t1108.length co30 : Value).ownBlock ∧ some k_ ≠ (.slice (some ad1128) x4_8.length co37 : Value).ownBlock ∧ some k_ ≠ (.slice Ao32 t1123.length co32 : Value).ownBlock ∧ k_ ≠ gb1106 ∧ k_ ≠ gb1147) u5 x5_40) := ⟨h3_⟩
         have n4_ : Aside0 (Kd.R (Kd.int .i64) 3 w71 w.heap.size (fun k_ => some k_ ≠ (.slice (some ad1128) x4_8.length co37 : Value).ownBlock) (.slice Ao32 t1123.length co32) t1123) := ⟨h4_⟩
         have n5_ : Aside0 (w71.heap[gb1106]? = some (.cells #[.slice A0_0 l0_0.length c0_0, .slice (some ad1142) l0_1.length c0_1, .slice A0_2 l0_2.length c0_2] 78 (0, 0))) := ⟨h5_⟩
         have n6_ : Aside0 (w71.heap[gb1147]? = some (.cells #[.string (⟨#[]⟩ : ByteArray), .int .i64 0] 27 (0, 0))) := ⟨h6_⟩
         have n7_ : Aside0 (w.heap.size ≤ gb1147) := ⟨h7_⟩
         have n8_ : Aside0 (w.heap.size ≤ gb1147) := ⟨h8_⟩
         have n9_ : Aside0 (gb1106 ≠ gb1147) := ⟨h9_⟩
         have n10_ : Aside0 (gb1147 ≠ gb1106) := ⟨h10_⟩
         have n11_ : Aside0 (Below w.heap.size w w71) := ⟨h11_⟩
         clear HO_3 HO_4 HO_5 HO_8 HO_14 BK1106 HB h0_ h1_ h2_ h3_ h4_ h5_ h6_ h7_ h8_ h9_ h10_ h11_
         have HO_14 := n0_; have HO_3 := n1_; have HO_4 := n2_; have HO_5 := n3_; have HO_8 := n4_; have BK1106 := n5_; have BK1147 := n6_; have GW1147 := n7_; have GE1147 := n8_; have NB1106_1147 := n9_; have NB1147_1106 := n10_; have HB := n11_
         clear n0_ n1_ n2_ n3_ n4_ n5_ n6_ n7_ n8_ n9_ n10_ n11_
         have hHeld : w71.cell? ⟨gb1106, 0, none⟩ = some (.slice A0_0 l0_0.length c0_0) ∧ w71.cell? ⟨gb1106, 1, none⟩ = some (.slice (some ad1142) l0_1.length c0_1) ∧ w71.cell? ⟨gb1106, 2, none⟩ = some (.slice A0_2 l0_2.length c0_2) ∧ w71.cell? (ad1142.add ((x15_7).toNat * 2)) = some (.string ((rd_T27 l0_1 x15_7).f0)) ∧ w71.cell? ⟨(ad1142.add ((x15_7).toNat * 2)).block, (ad1142.add ((x15_7).toNat * 2)).off + 1, none⟩ = some (.int .i64 ((rd_T27 l0_1 x15_7).f1)) ∧ w71.cell? (ad1128.add (x9_3).toNat) = some (.int .i64 (rd x4_8 x9_3)) := hS_
         refine norm_ (a' := ?_) ?_ ?_
         rotate_left
         ·
          simp only [putAll, Act.put, s1, s2, s3]
          rfl
         refine one_ (i := 15) (N := none) #[true, true, true, true, true, true, true, true, true, true, true, true, true, true, true, true, false] rfl rfl (one_of HT_.out (by kernel_rfl)) (by decide) (fun K hK => ?_)
         have hs72 : w71.cell? ⟨gb1147, 0, none⟩ = some (.string (⟨#[]⟩ : ByteArray)) := (blk_cell BK1147.out 0).trans rfl
         have hfs72 := blk_frozen BK1147.out 0
         have hns72_0 := NB1106_1147.out
         have hms72_0 := NB1147_1106.out
         have hs73 : w71.cell? ⟨gb1147, 1, none⟩ = some (.int .i64 0) := (blk_cell BK1147.out 1).trans rfl
         have hfs73 := blk_frozen BK1147.out 1
         have hns73_0 := NB1106_1147.out
         have hms73_0 := NB1147_1106.out
         refine skip_ (w1 := ?_) (by rfl) rfl ?_ ?_
         rotate_left
         ·
          go_simp
          rfl
         refine hK.out _ _ ⟨((cell_far (p := ⟨gb1147, _, none⟩) NB1106_1147.out _).trans (((cell_far (p := ⟨gb1147, _, none⟩) NB1106_1147.out _).trans (hHeld.1)))), ((cell_far (p := ⟨gb1147, _, none⟩) NB1106_1147.out _).trans (((cell_far (p := ⟨gb1147, _, none⟩) NB1106_1147.out _).trans (hHeld.2.1)))), ((cell_far (p := ⟨gb1147, _, none⟩) NB1106_1147.out _).trans (((cell_far (p := ⟨gb1147, _, none⟩) NB1106_1147.out _).trans (hHeld.2.2.1)))), ((cell_far (p := ⟨gb1147, _, none⟩) (by first | exact Nat.ne_of_lt (Nat.lt_of_lt_of_le (by have := World.block_lt_of_cell? _ _ hw1142_0; first | rwa [add_block] at this | exact this) GW1147.out) | (rw [add_block]; exact Nat.ne_of_lt (Nat.lt_of_lt_of_le (by have := World.block_lt_of_cell? _ _ hw1142_0; first | rwa [add_block] at this | exact this) GW1147.out)) | (show (Addr.add _ _).block ≠ _; rw [add_block]; exact Nat.ne_of_lt (Nat.lt_of_lt_of_le (by have := World.block_lt_of_cell? _ _ hw1142_0; first | rwa [add_block] at this | exact this) GW1147.out)) | (dsimp only; exact Nat.ne_of_lt (Nat.lt_of_lt_of_le (by have := World.block_lt_of_cell? _ _ hw1142_0; first | rwa [add_block] at this | exact this) GW1147.out))) _).trans (((cell_far (p := ⟨gb1147, _, none⟩) (by first | exact Nat.ne_of_lt (Nat.lt_of_lt_of_le (by have := World.block_lt_of_cell? _ _ hw1142_0; first | rwa [add_block] at this | exact this) GW1147.out) | (rw [add_block]; exact Nat.ne_of_lt (Nat.lt_of_lt_of_le (by have := World.block_lt_of_cell? _ _ hw1142_0; first | rwa [add_block] at this | exact this) GW1147.out)) | (show (Addr.add _ _).block ≠ _; rw [add_block]; exact Nat.ne_of_lt (Nat.lt_of_lt_of_le (by have := World.block_lt_of_cell? _ _ hw1142_0; first | rwa [add_block] at this | exact this) GW1147.out)) | (dsimp only; exact Nat.ne_of_lt (Nat.lt_of_lt_of_le (by have := World.block_lt_of_cell? _ _ hw1142_0; first | rwa [add_block] at this | exact this) GW1147.out))) _).trans (hHeld.2.2.2.1)))), ((cell_far (p := ⟨gb1147, _, none⟩) (by first | exact Nat.ne_of_lt (Nat.lt_of_lt_of_le (by have := World.block_lt_of_cell? _ _ hw1142_1; first | rwa [add_block] at this | exact this) GW1147.out) | (rw [add_block]; exact Nat.ne_of_lt (Nat.lt_of_lt_of_le (by have := World.block_lt_of_cell? _ _ hw1142_1; first | rwa [add_block] at this | exact this) GW1147.out)) | (show (Addr.add _ _).block ≠ _; rw [add_block]; exact Nat.ne_of_lt (Nat.lt_of_lt_of_le (by have := World.block_lt_of_cell? _ _ hw1142_1; first | rwa [add_block] at this | exact this) GW1147.out)) | (dsimp only; exact Nat.ne_of_lt (Nat.lt_of_lt_of_le (by have := World.block_lt_of_cell? _ _ hw1142_1; first | rwa [add_block] at this | exact this) GW1147.out))) _).trans (((cell_far (p := ⟨gb1147, _, none⟩) (by first | exact Nat.ne_of_lt (Nat.lt_of_lt_of_le (by have := World.block_lt_of_cell? _ _ hw1142_1; first | rwa [add_block] at this | exact this) GW1147.out) | (rw [add_block]; exact Nat.ne_of_lt (Nat.lt_of_lt_of_le (by have := World.block_lt_of_cell? _ _ hw1142_1; first | rwa [add_block] at this | exact this) GW1147.out)) | (show (Addr.add _ _).block ≠ _; rw [add_block]; exact Nat.ne_of_lt (Nat.lt_of_lt_of_le (by have := World.block_lt_of_cell? _ _ hw1142_1; first | rwa [add_block] at this | exact this) GW1147.out)) | (dsimp only; exact Nat.ne_of_lt (Nat.lt_of_lt_of_le (by have := World.block_lt_of_cell? _ _ hw1142_1; first | rwa [add_block] at this | exact this) GW1147.out))) _).trans (hHeld.2.2.2.2.1)))), ((cell_far (p := ⟨gb1147, _, none⟩) (by first | exact Kd.own_blk (Kd.R_ne HO_4.out BK1147.out (by decide)) | (rw [add_block]; exact Kd.own_blk (Kd.R_ne HO_4.out BK1147.out (by decide))) | (show (Addr.add _ _).block ≠ _; rw [add_block]; exact Kd.own_blk (Kd.R_ne HO_4.out BK1147.out (by decide))) | (dsimp only; exact Kd.own_blk (Kd.R_ne HO_4.out BK1147.out (by decide)))) _).trans (((cell_far (p := ⟨gb1147, _, none⟩) (by first | exact Kd.own_blk (Kd.R_ne HO_4.out BK1147.out (by decide)) | (rw [add_block]; exact Kd.own_blk (Kd.R_ne HO_4.out BK1147.out (by decide))) | (show (Addr.add _ _).block ≠ _; rw [add_block]; exact Kd.own_blk (Kd.R_ne HO_4.out BK1147.out (by decide))) | (dsimp only; exact Kd.own_blk (Kd.R_ne HO_4.out BK1147.out (by decide)))) _).trans (hHeld.2.2.2.2.2))))⟩ (fun hHeld => ?_)
         clear hK K
         refine pure_ (i := 16) (N := some 17) (v := ?_) (a' := ?_) #[true, true, true, true, true, true, true, true, true, true, true, true, true, true, true, true, true] rfl rfl (any_of HT_.out (by kernel_rfl)) (fun _ _ _ h => h) (Or.inl ⟨by rfl, ?_⟩) ?_ ?_
         rotate_left
         ·
          intro w'
          go_simp
          with_reducible rfl
         rotate_left
         ·
          simp only [Act.put, s1, s2, s3, i64_w, i32_w]
          rfl
         refine done_ (done_of HT_.out (by kernel_rfl)) ?_
         go_upto_region 32 with (first | ((with_reducible refine gate_dst (N := 19) rfl ?_); refine box_event ?hg (N := 19) ?hd (cs := #[.string (⟨#[]⟩ : ByteArray), .int .i64 0]) (t := 27) ?hr ?_; (case hd => rfl); (case hg => rfl); (case hr => first | (go_simp; done) | (go_simp; rfl)); intro gb1148 hg w74 hbox hb; have n0_ := ak (Kd.N_below (Kd.N_elderB (un <| (Kd.N_mono (Kd.N_far (p := ⟨gb1147, 1, none⟩) (Kd.N_far (p := ⟨gb1147, 0, none⟩) (Kd.N_mono HO_3.out (fun k_ hk => (⟨hk, hk.2.2.2.2.2⟩ : _ ∧ k_ ≠ gb1147))) (fun _ hk => hk.2) (.string t1144)) (fun _ hk => hk.2) (.int .i64 t1145)) (fun _ h_ => h_.1))) gb1148 (Nat.le_of_eq hg.symm)) hb); have n1_ := ak (Kd.R_below (ur <| (Kd.R_mono (Kd.R_far (p := ⟨gb1147, 1, none⟩) (Kd.R_far (p := ⟨gb1147, 0, none⟩) (Kd.R_types HO_4.out BK1147.out (by decide)) (fun _ hk => hk.2) (.string t1144)) (fun _ hk => hk.2) (.int .i64 t1145)) (fun _ h_ => h_.1))) hb); have n2_ := ak (Kd.N_below (Kd.N_elderB (un <| (Kd.N_mono (Kd.N_far (p := ⟨gb1147, 1, none⟩) (Kd.N_far (p := ⟨gb1147, 0, none⟩) (Kd.N_mono HO_5.out (fun k_ hk => (⟨hk, hk.2.2.2.2⟩ : _ ∧ k_ ≠ gb1147))) (fun _ hk => hk.2) (.string t1144)) (fun _ hk => hk.2) (.int .i64 t1145)) (fun _ h_ => h_.1))) gb1148 (Nat.le_of_eq hg.symm)) hb); have n3_ := ak (Kd.R_below (ur <| (Kd.R_mono (Kd.R_far (p := ⟨gb1147, 1, none⟩) (Kd.R_far (p := ⟨gb1147, 0, none⟩) (Kd.R_types HO_8.out BK1147.out (by decide)) (fun _ hk => hk.2) (.string t1144)) (fun _ hk => hk.2) (.int .i64 t1145)) (fun _ h_ => h_.1))) hb); have n4_ := ak (Kd.R_below (ur <| (Kd.R_mono (Kd.R_far (p := ⟨gb1147, 1, none⟩) (Kd.R_far (p := ⟨gb1147, 0, none⟩) (Kd.R_types HO_14.out BK1147.out (by decide)) (fun _ hk => hk.2) (.string t1144)) (fun _ hk => hk.2) (.int .i64 t1145)) (fun _ h_ => h_.1))) hb); have n5_ := ak (blk_below (g := gb1106) (o := .cells #[.slice A0_0 l0_0.length c0_0, .slice (some ad1142) l0_1.length c0_1, .slice A0_2 l0_2.length c0_2] 78 (0, 0)) (by (with_reducible repeat (first | refine blk_drewN ?_ _ | refine blk_drew ?_ | refine blk_alloc ?_ _)); refine blk_far ?_ NB1106_1147.out _; (with_reducible repeat (first | refine blk_drewN ?_ _ | refine blk_drew ?_ | refine blk_alloc ?_ _)); refine blk_far ?_ NB1106_1147.out _; (with_reducible repeat (first | refine blk_drewN ?_ _ | refine blk_drew ?_ | refine blk_alloc ?_ _)); exact BK1106.out) hb); have n6_ := ak (blk_below (g := gb1147) (o := .cells #[.string t1144, .int .i64 t1145] 27 (0, 0)) (by (with_reducible repeat (first | refine blk_drewN ?_ _ | refine blk_drew ?_ | refine blk_alloc ?_ _)); refine blk_put (cs := #[.string t1144, .int .i64 0]) ?_ 1 _ rfl; (with_reducible repeat (first | refine blk_drewN ?_ _ | refine blk_drew ?_ | refine blk_alloc ?_ _)); refine blk_put (cs := #[.string (⟨#[]⟩ : ByteArray), .int .i64 0]) ?_ 0 _ rfl; (with_reducible repeat (first | refine blk_drewN ?_ _ | refine blk_drew ?_ | refine blk_alloc ?_ _)); exact BK1147.out) hb); have n7_ := ak (below_step (by repeat with_reducible first | exact HB.out | apply b1 | apply b2 | apply b3 | refine b4 ?_ GE1106.out | refine b4 ?_ GE1147.out) hb); have n8_ := ak (hbox); have n9_ := ak ((by rw [hg]; exact (below_size (by repeat with_reducible first | exact HB.out | apply b1 | apply b2 | apply b3 | refine b4 ?_ GE1106.out | refine b4 ?_ GE1147.out)) : w.heap.size ≤ gb1148)); have n10_ := ak ((by rw [hg]; exact (below_size (by repeat with_reducible first | exact HB.out | apply b1 | apply b2 | apply b3 | refine b4 ?_ GE1106.out | refine b4 ?_ GE1147.out)) : w.heap.size ≤ gb1148)); have n11_ := ak ((by rw [hg]; exact Nat.ne_of_lt (blk_lt (g := gb1106) (o := .cells #[.slice A0_0 l0_0.length c0_0, .slice (some ad1142) l0_1.length c0_1, .slice A0_2 l0_2.length c0_2] 78 (0, 0)) (by (with_reducible repeat (first | refine blk_drewN ?_ _ | refine blk_drew ?_ | refine blk_alloc ?_ _)); refine blk_far ?_ NB1106_1147.out _; (with_reducible repeat (first | refine blk_drewN ?_ _ | refine blk_drew ?_ | refine blk_alloc ?_ _)); refine blk_far ?_ NB1106_1147.out _; (with_reducible repeat (first | refine blk_drewN ?_ _ | refine blk_drew ?_ | refine blk_alloc ?_ _)); exact BK1106.out)) : gb1106 ≠ gb1148)); have n12_ := ak ((by rw [hg]; exact Nat.ne_of_gt (blk_lt (g := gb1106) (o := .cells #[.slice A0_0 l0_0.length c0_0, .slice (some ad1142) l0_1.length c0_1, .slice A0_2 l0_2.length c0_2] 78 (0, 0)) (by (with_reducible repeat (first | refine blk_drewN ?_ _ | refine blk_drew ?_ | refine blk_alloc ?_ _)); refine blk_far ?_ NB1106_1147.out _; (with_reducible repeat (first | refine blk_drewN ?_ _ | refine blk_drew ?_ | refine blk_alloc ?_ _)); refine blk_far ?_ NB1106_1147.out _; (with_reducible repeat (first | refine blk_drewN ?_ _ | refine blk_drew ?_ | refine blk_alloc ?_ _)); exact BK1106.out)) : gb1148 ≠ gb1106)); have n13_ := ak ((by rw [hg]; exact Nat.ne_of_lt (blk_lt (g := gb1147) (o := .cells #[.string t1144, .int .i64 t1145] 27 (0, 0)) (by (with_reducible repeat (first | refine blk_drewN ?_ _ | refine blk_drew ?_ | refine blk_alloc ?_ _)); refine blk_put (cs := #[.string t1144, .int .i64 0]) ?_ 1 _ rfl; (with_reducible repeat (first | refine blk_drewN ?_ _ | refine blk_drew ?_ | refine blk_alloc ?_ _)); refine blk_put (cs := #[.string (⟨#[]⟩ : ByteArray), .int .i64 0]) ?_ 0 _ rfl; (with_reducible repeat (first | refine blk_drewN ?_ _ | refine blk_drew ?_ | refine blk_alloc ?_ _)); exact BK1147.out)) : gb1147 ≠ gb1148)); have n14_ := ak ((by rw [hg]; exact Nat.ne_of_gt (blk_lt (g := gb1147) (o := .cells #[.string t1144, .int .i64 t1145] 27 (0, 0)) (by (with_reducible repeat (first | refine blk_drewN ?_ _ | refine blk_drew ?_ | refine blk_alloc ?_ _)); refine blk_put (cs := #[.string t1144, .int .i64 0]) ?_ 1 _ rfl; (with_reducible repeat (first | refine blk_drewN ?_ _ | refine blk_drew ?_ | refine blk_alloc ?_ _)); refine blk_put (cs := #[.string (⟨#[]⟩ : ByteArray), .int .i64 0]) ?_ 0 _ rfl; (with_reducible repeat (first | refine blk_drewN ?_ _ | refine blk_drew ?_ | refine blk_alloc ?_ _)); exact BK1147.out)) : gb1148 ≠ gb1147)); clear HO_3; clear HO_4; clear HO_5; clear HO_8; clear HO_14; clear BK1106; clear BK1147; clear HB; have HO_3 := n0_; have HO_4 := n1_; have HO_5 := n2_; have HO_8 := n3_; have HO_14 := n4_; have BK1106 := n5_; have BK1147 := n6_; have HB := n7_; have BK1148 := n8_; have GW1148 := n9_; have GE1148 := n10_; have NB1106_1148 := n11_; have NB1148_1106 := n12_; have NB1147_1148 := n13_; have NB1148_1147 := n14_; clear n0_ n1_ n2_ n3_ n4_ n5_ n6_ n7_ n8_ n9_ n10_ n11_ n12_ n13_ n14_; clear hb hbox hg; have hnb75 := NB1148_1106.out; have hnc75 := NB1106_1148.out; have hnb76 := NB1148_1147.out; have hnc76 := NB1147_1148.out; have hcz77_0 : w74.cell? ⟨gb1148, 0, none⟩ = some (.string (⟨#[]⟩ : ByteArray)) := (blk_cell BK1148.out 0).trans rfl; have hcz77_1 : w74.cell? ⟨gb1148, 1, none⟩ = some (.int .i64 0) := (blk_cell BK1148.out 1).trans rfl; have hfz77_0 := blk_frozen BK1148.out 0; have hfz77_1 := blk_frozen BK1148.out 1))
         (try simp only [Act.put, s1, s2, s3])
         go_cut [152] (fun v152 wc => ∃ (kq : Nat) (x152_66 : Bool), v152 = .bool x152_66 ∧ Aside0 (herbariumlaw3_GapsExact.j8 kq t1108 x4_8 x5_40 x6_2 t1121 t1123 x9_3 x12_40 x13_40 x14_40 x15_7 t1146 1 x152_66 l0_0 l0_1 l0_2 t1144 t1145 (⟨#[]⟩ : ByteArray) 0 = some true) ∧ Aside0 (kq ≤ kj56) ∧ Aside0 (Kd.N (Kd.slice 3 (Kd.int .i64)) 23 wc w.heap.size (fun k_ => some k_ ≠ ((.slice (some ad1128) x4_8.length co37) : Value).ownBlock ∧ some k_ ≠ (u5 : Value).ownBlock ∧ some k_ ≠ ((.slice Ao32 t1123.length co32) : Value).ownBlock ∧ some k_ ≠ (u14 : Value).ownBlock ∧ k_ ≠ gb1106 ∧ k_ ≠ gb1147 ∧ k_ ≠ gb1148) (.slice (some ad1120) t1108.length co30) t1108) ∧ Aside0 (Kd.R (Kd.int .i64) 3 wc w.heap.size (fun k_ => some k_ ≠ ((.slice Ao32 t1123.length co32) : Value).ownBlock) (.slice (some ad1128) x4_8.length co37) x4_8) ∧ Aside0 (Kd.N (Kd.slice 5 (Kd.int .u8)) 64 wc w.heap.size (fun k_ => some k_ ≠ ((.slice (some ad1120) t1108.length co30) : Value).ownBlock ∧ some k_ ≠ ((.slice (some ad1128) x4_8.length co37) : Value).ownBlock ∧ some k_ ≠ ((.slice Ao32 t1123.length co32) : Value).ownBlock ∧ k_ ≠ gb1106 ∧ k_ ≠ gb1147 ∧ k_ ≠ gb1148) u5 x5_40) ∧ Aside0 (Kd.R (Kd.int .i64) 3 wc w.heap.size (fun k_ => some k_ ≠ ((.slice (some ad1128) x4_8.length co37) : Value).ownBlock) (.slice Ao32 t1123.length co32) t1123) ∧ Aside0 (Kd.R (Kd.int .u8) 5 wc w.heap.size (fun _ => True) u14 x14_40) ∧ Aside0 (wc.heap[gb1106]? = some (.cells #[(.slice A0_0 l0_0.length c0_0), (.slice (some ad1142) l0_1.length c0_1), (.slice A0_2 l0_2.length c0_2)] 78 (0, 0))) ∧ Aside0 (wc.heap[gb1147]? = some (.cells #[.string t1144, .int .i64 t1145] 27 (0, 0))) ∧ Aside0 (wc.heap[gb1148]? = some (.cells #[.string (⟨#[]⟩ : ByteArray), .int .i64 0] 27 (0, 0))) ∧ Aside0 (Below w.heap.size w wc))
         case first => as_aux_lemma =>
          have H := HC67.out
          clear HC67
          by_cases c78 : x12_40 = 0
          rotate_left
          ·
           rw [if_neg c78] at H
           have c78b0 : (x12_40 == 0) = false := beq_eq_false_iff_ne.mpr c78
           have c78b1 : (x12_40 != 0) = true := bne_iff_ne.mpr c78
           (first | rw [c78b0] | (simp only [i64_w, i32_w]; rw [c78b0]) | skip)
           have H' := ak H
           clear H
           go_wp2
           go_meet
           case rel => exact ⟨_, (false), (by first | rfl | (simp; done) | (simp [*]; done)), H', ⟨by have := HJ8.out; have := HK2.out; have := HK3.out; have := HJ35.out; have := HJ40.out; have := HJ52.out; have := HK7.out; have := HJ56.out; first | omega | exact Nat.le_refl _⟩, ⟨un <| Kd.N_mono (Kd.N_far (p := ⟨gb1148, 1, none⟩) (Kd.N_far (p := ⟨gb1148, 0, none⟩) (Kd.N_mono HO_3.out (fun k_ hk => (⟨hk, hk.2⟩ : _ ∧ k_ ≠ gb1148))) (fun _ hk => hk.2) (.string (⟨#[]⟩ : ByteArray))) (fun _ hk => hk.2) (.int .i64 0)) (fun _ hk => ⟨hk.1.1.2.1, ⟨hk.1.1.2.2.1, ⟨hk.1.1.2.2.2.1, ⟨hk.1.1.1, ⟨hk.1.1.2.2.2.2.1, ⟨hk.1.1.2.2.2.2.2, hk.1.2⟩⟩⟩⟩⟩⟩)⟩, ⟨ur <| Kd.R_mono (Kd.R_far (p := ⟨gb1148, 1, none⟩) (Kd.R_far (p := ⟨gb1148, 0, none⟩) (Kd.R_types HO_4.out BK1148.out (by decide)) (fun _ hk => hk.2) (.string (⟨#[]⟩ : ByteArray))) (fun _ hk => hk.2) (.int .i64 0)) (fun _ hk => hk.1)⟩, ⟨un <| Kd.N_mono (Kd.N_far (p := ⟨gb1148, 1, none⟩) (Kd.N_far (p := ⟨gb1148, 0, none⟩) (Kd.N_mono HO_5.out (fun k_ hk => (⟨hk, hk.2⟩ : _ ∧ k_ ≠ gb1148))) (fun _ hk => hk.2) (.string (⟨#[]⟩ : ByteArray))) (fun _ hk => hk.2) (.int .i64 0)) (fun _ hk => ⟨hk.1.1.1, ⟨hk.1.1.2.1, ⟨hk.1.1.2.2.1, ⟨hk.1.1.2.2.2.1, ⟨hk.1.1.2.2.2.2, hk.1.2⟩⟩⟩⟩⟩)⟩, ⟨ur <| Kd.R_mono (Kd.R_far (p := ⟨gb1148, 1, none⟩) (Kd.R_far (p := ⟨gb1148, 0, none⟩) (Kd.R_types HO_8.out BK1148.out (by decide)) (fun _ hk => hk.2) (.string (⟨#[]⟩ : ByteArray))) (fun _ hk => hk.2) (.int .i64 0)) (fun _ hk => hk.1)⟩, ⟨ur <| Kd.R_mono (Kd.R_far (p := ⟨gb1148, 1, none⟩) (Kd.R_far (p := ⟨gb1148, 0, none⟩) (Kd.R_types HO_14.out BK1148.out (by decide)) (fun _ hk => hk.2) (.string (⟨#[]⟩ : ByteArray))) (fun _ hk => hk.2) (.int .i64 0)) (fun _ hk => trivial)⟩, ⟨by (with_reducible repeat (first | refine blk_drewN ?_ _ | refine blk_drew ?_ | refine blk_alloc ?_ _)); refine blk_far ?_ NB1106_1148.out _; (with_reducible repeat (first | refine blk_drewN ?_ _ | refine blk_drew ?_ | refine blk_alloc ?_ _)); refine blk_far ?_ NB1106_1148.out _; (with_reducible repeat (first | refine blk_drewN ?_ _ | refine blk_drew ?_ | refine blk_alloc ?_ _)); exact BK1106.out⟩, ⟨by (with_reducible repeat (first | refine blk_drewN ?_ _ | refine blk_drew ?_ | refine blk_alloc ?_ _)); refine blk_far ?_ NB1147_1148.out _; (with_reducible repeat (first | refine blk_drewN ?_ _ | refine blk_drew ?_ | refine blk_alloc ?_ _)); refine blk_far ?_ NB1147_1148.out _; (with_reducible repeat (first | refine blk_drewN ?_ _ | refine blk_drew ?_ | refine blk_alloc ?_ _)); exact BK1147.out⟩, ⟨by (with_reducible repeat (first | refine blk_drewN ?_ _ | refine blk_drew ?_ | refine blk_alloc ?_ _)); refine blk_put (cs := #[.string (⟨#[]⟩ : ByteArray), .int .i64 0]) ?_ 1 _ rfl; (with_reducible repeat (first | refine blk_drewN ?_ _ | refine blk_drew ?_ | refine blk_alloc ?_ _)); refine blk_put (cs := #[.string (⟨#[]⟩ : ByteArray), .int .i64 0]) ?_ 0 _ rfl; (with_reducible repeat (first | refine blk_drewN ?_ _ | refine blk_drew ?_ | refine blk_alloc ?_ _)); exact BK1148.out⟩, ⟨by repeat with_reducible first | exact HB.out | apply b1 | apply b2 | apply b3 | refine b4 ?_ GE1106.out | refine b4 ?_ GE1147.out | refine b4 ?_ GE1148.out⟩⟩
          rw [if_pos c78] at H
          have c78b0 : (x12_40 == 0) = true := beq_iff_eq.mpr c78
          have c78b1 : (x12_40 != 0) = false := bne_eq_false_iff_eq.mpr c78
          clear c78
          (first | rw [c78b0] | (simp only [i64_w, i32_w]; rw [c78b0]) | skip)
          replace H := Option.bind_eq_some_iff.mp H
          obtain ⟨t1150, A790, H⟩ := H
          try dsimp only at H
          have A79 := ak A790
          clear A790
          have H' := ak H
          clear H
          have hnb80 := NB1106_1147.out
          have hnc80 := NB1147_1106.out
          have hnb81 := NB1106_1148.out
          have hnc81 := NB1148_1106.out
          have hcz82_0 : w74.cell? ⟨gb1106, 0, none⟩ = some (.slice A0_0 l0_0.length c0_0) := (blk_cell BK1106.out 0).trans rfl
          have hcz82_1 : w74.cell? ⟨gb1106, 1, none⟩ = some (.slice (some ad1142) l0_1.length c0_1) := (blk_cell BK1106.out 1).trans rfl
          have hcz82_2 : w74.cell? ⟨gb1106, 2, none⟩ = some (.slice A0_2 l0_2.length c0_2) := (blk_cell BK1106.out 2).trans rfl
          have hfz82_0 := blk_frozen BK1106.out 0
          have hfz82_1 := blk_frozen BK1106.out 1
          have hfz82_2 := blk_frozen BK1106.out 2
          have p1149 : 0 ≤ (x15_7 : Int) := of_decide_eq_true (by first | (with_reducible assumption) | assumption)
          have q1149 : x15_7 < (l0_1.length : Int) := of_decide_eq_true (by first | (with_reducible assumption) | assumption)
          obtain ⟨ad1149, e1149, hx1149_0, hx1149_1⟩ := at_T27 HR0_1.out x15_7 p1149 q1149
          obtain rfl : ad1142 = ad1149 := (by injection e1149)
          have hn1149_0 : ad1142.block ≠ gb1148 := Nat.ne_of_lt (Nat.lt_of_lt_of_le (by have := World.block_lt_of_cell? _ _ hx1149_0; first | rwa [add_block] at this | exact this) GW1148.out)
          have hn1149_1 : ad1142.block ≠ gb1148 := Nat.ne_of_lt (Nat.lt_of_lt_of_le (by have := World.block_lt_of_cell? _ _ hx1149_0; first | rwa [add_block] at this | exact this) GW1148.out)
          replace hx1149_0 := (HB.out.cell (World.block_lt_of_cell? w _ hx1149_0)).trans hx1149_0
          replace hx1149_1 := (HB.out.cell (World.block_lt_of_cell? w _ hx1149_1)).trans hx1149_1
          replace hx1149_0 := (cell_far (p := ⟨gb1148, 0, none⟩) (by first | (rw [add_block]; exact hn1149_0) | (show (Addr.add _ _).block ≠ _; rw [add_block]; exact hn1149_0) | exact hn1149_0) (.string (⟨#[]⟩ : ByteArray))).trans hx1149_0
          replace hx1149_1 := (cell_far (p := ⟨gb1148, 0, none⟩) (by first | (rw [add_block]; exact hn1149_0) | (show (Addr.add _ _).block ≠ _; rw [add_block]; exact hn1149_0) | exact hn1149_0) (.string (⟨#[]⟩ : ByteArray))).trans hx1149_1
          replace hx1149_0 := (cell_far (p := ⟨gb1148, 1, none⟩) (by first | (rw [add_block]; exact hn1149_1) | (show (Addr.add _ _).block ≠ _; rw [add_block]; exact hn1149_1) | exact hn1149_1) (.int .i64 0)).trans hx1149_0
          replace hx1149_1 := (cell_far (p := ⟨gb1148, 1, none⟩) (by first | (rw [add_block]; exact hn1149_1) | (show (Addr.add _ _).block ≠ _; rw [add_block]; exact hn1149_1) | exact hn1149_1) (.int .i64 0)).trans hx1149_1
          clear hn1149_0 hn1149_1
          replace p1149 := eq_true p1149
          replace q1149 := eq_true q1149
          go_wp2_with (first | (go_at_call 50; (with_reducible refine (herbariumref1_Bits.calls kj56 ((rd_T27 l0_1 x15_7).f0) ((rd_T27 l0_1 x15_7).f1) t1150 _ A79.out).mono ?_); rintro e w83 ⟨rfl, hb⟩; have n0_ := ak (Kd.N_below (un <| (Kd.N_mono (Kd.N_far (p := ⟨gb1148, 1, none⟩) (Kd.N_far (p := ⟨gb1148, 0, none⟩) (Kd.N_mono HO_3.out (fun k_ hk => (⟨hk, hk.2⟩ : _ ∧ k_ ≠ gb1148))) (fun _ hk => hk.2) (.string (⟨#[]⟩ : ByteArray))) (fun _ hk => hk.2) (.int .i64 0)) (fun _ h_ => h_.1))) hb); have n1_ := ak (Kd.R_below (ur <| (Kd.R_mono (Kd.R_far (p := ⟨gb1148, 1, none⟩) (Kd.R_far (p := ⟨gb1148, 0, none⟩) (Kd.R_types HO_4.out BK1148.out (by decide)) (fun _ hk => hk.2) (.string (⟨#[]⟩ : ByteArray))) (fun _ hk => hk.2) (.int .i64 0)) (fun _ h_ => h_.1))) hb); have n2_ := ak (Kd.N_below (un <| (Kd.N_mono (Kd.N_far (p := ⟨gb1148, 1, none⟩) (Kd.N_far (p := ⟨gb1148, 0, none⟩) (Kd.N_mono HO_5.out (fun k_ hk => (⟨hk, hk.2⟩ : _ ∧ k_ ≠ gb1148))) (fun _ hk => hk.2) (.string (⟨#[]⟩ : ByteArray))) (fun _ hk => hk.2) (.int .i64 0)) (fun _ h_ => h_.1))) hb); have n3_ := ak (Kd.R_below (ur <| (Kd.R_mono (Kd.R_far (p := ⟨gb1148, 1, none⟩) (Kd.R_far (p := ⟨gb1148, 0, none⟩) (Kd.R_types HO_8.out BK1148.out (by decide)) (fun _ hk => hk.2) (.string (⟨#[]⟩ : ByteArray))) (fun _ hk => hk.2) (.int .i64 0)) (fun _ h_ => h_.1))) hb); have n4_ := ak (Kd.R_below (ur <| (Kd.R_mono (Kd.R_far (p := ⟨gb1148, 1, none⟩) (Kd.R_far (p := ⟨gb1148, 0, none⟩) (Kd.R_types HO_14.out BK1148.out (by decide)) (fun _ hk => hk.2) (.string (⟨#[]⟩ : ByteArray))) (fun _ hk => hk.2) (.int .i64 0)) (fun _ h_ => h_.1))) hb); have n5_ := ak (blk_below (g := gb1106) (o := .cells #[.slice A0_0 l0_0.length c0_0, .slice (some ad1142) l0_1.length c0_1, .slice A0_2 l0_2.length c0_2] 78 (0, 0)) (by (with_reducible repeat (first | refine blk_drewN ?_ _ | refine blk_drew ?_ | refine blk_alloc ?_ _)); refine blk_far ?_ NB1106_1148.out _; (with_reducible repeat (first | refine blk_drewN ?_ _ | refine blk_drew ?_ | refine blk_alloc ?_ _)); refine blk_far ?_ NB1106_1148.out _; (with_reducible repeat (first | refine blk_drewN ?_ _ | refine blk_drew ?_ | refine blk_alloc ?_ _)); exact BK1106.out) hb); have n6_ := ak (blk_below (g := gb1147) (o := .cells #[.string t1144, .int .i64 t1145] 27 (0, 0)) (by (with_reducible repeat (first | refine blk_drewN ?_ _ | refine blk_drew ?_ | refine blk_alloc ?_ _)); refine blk_far ?_ NB1147_1148.out _; (with_reducible repeat (first | refine blk_drewN ?_ _ | refine blk_drew ?_ | refine blk_alloc ?_ _)); refine blk_far ?_ NB1147_1148.out _; (with_reducible repeat (first | refine blk_drewN ?_ _ | refine blk_drew ?_ | refine blk_alloc ?_ _)); exact BK1147.out) hb); have n7_ := ak (blk_below (g := gb1148) (o := .cells #[.string (⟨#[]⟩ : ByteArray), .int .i64 0] 27 (0, 0)) (by (with_reducible repeat (first | refine blk_drewN ?_ _ | refine blk_drew ?_ | refine blk_alloc ?_ _)); refine blk_put (cs := #[.string (⟨#[]⟩ : ByteArray), .int .i64 0]) ?_ 1 _ rfl; (with_reducible repeat (first | refine blk_drewN ?_ _ | refine blk_drew ?_ | refine blk_alloc ?_ _)); refine blk_put (cs := #[.string (⟨#[]⟩ : ByteArray), .int .i64 0]) ?_ 0 _ rfl; (with_reducible repeat (first | refine blk_drewN ?_ _ | refine blk_drew ?_ | refine blk_alloc ?_ _)); exact BK1148.out) hb); have n8_ := ak (below_step (by repeat with_reducible first | exact HB.out | apply b1 | apply b2 | apply b3 | refine b4 ?_ GE1106.out | refine b4 ?_ GE1147.out | refine b4 ?_ GE1148.out) hb); clear HO_3; clear HO_4; clear HO_5; clear HO_8; clear HO_14; clear BK1106; clear BK1147; clear BK1148; clear HB; have HO_3 := n0_; have HO_4 := n1_; have HO_5 := n2_; have HO_8 := n3_; have HO_14 := n4_; have BK1106 := n5_; have BK1147 := n6_; have BK1148 := n7_; have HB := n8_; clear n0_ n1_ n2_ n3_ n4_ n5_ n6_ n7_ n8_; (try clear hb); (try clear hb2); (try clear hk); (try clear hi)))
          go_meet
          case rel => exact ⟨_, (t1150), (by first | rfl | (simp; done) | (simp [*]; done)), H', ⟨by have := HJ8.out; have := HK2.out; have := HK3.out; have := HJ35.out; have := HJ40.out; have := HJ52.out; have := HK7.out; have := HJ56.out; first | omega | exact Nat.le_refl _⟩, ⟨un <| Kd.N_mono HO_3.out (fun _ hk => ⟨hk.1.2.1, ⟨hk.1.2.2.1, ⟨hk.1.2.2.2.1, ⟨hk.1.1, ⟨hk.1.2.2.2.2.1, ⟨hk.1.2.2.2.2.2, hk.2⟩⟩⟩⟩⟩⟩)⟩, ⟨ur <| HO_4.out⟩, ⟨un <| Kd.N_mono HO_5.out (fun _ hk => ⟨hk.1.1, ⟨hk.1.2.1, ⟨hk.1.2.2.1, ⟨hk.1.2.2.2.1, ⟨hk.1.2.2.2.2, hk.2⟩⟩⟩⟩⟩)⟩, ⟨ur <| HO_8.out⟩, ⟨ur <| HO_14.out⟩, ⟨ub BK1106.out⟩, ⟨ub BK1147.out⟩, ⟨ub BK1148.out⟩, ⟨by repeat with_reducible first | exact HB.out | apply b1 | apply b2 | apply b3 | refine b4 ?_ GE1106.out | refine b4 ?_ GE1147.out | refine b4 ?_ GE1148.out⟩⟩
         as_aux_lemma =>
          clear HC67
          (try clear c3); (try clear c8); (try clear c23); (try clear c23b0); (try clear c24); (try clear c24b0); (try clear c29); (try clear c29b0); (try clear c29b1); (try clear c29b2); (try clear c33); (try clear c33b0); (try clear c34); (try clear c34b0); (try clear c56); (try clear c61); (try clear c62); (try clear c62b0); (try clear c63); (try clear c63b0); (try clear c64); (try clear c64b0); (try clear c65); (try clear c65b0); (try clear hcz11_0); (try clear hcz11_1); (try clear hcz11_2); (try clear hcz13_0); (try clear hcz13_1); (try clear hcz13_2); (try clear hcz17_0); (try clear hcz17_1); (try clear hcz17_2)
          (try clear hcz77_0); (try clear hcz77_1); (try clear hfz11_0); (try clear hfz11_1); (try clear hfz11_2); (try clear hfz13_0); (try clear hfz13_1); (try clear hfz13_2); (try clear hfz17_0); (try clear hfz17_1); (try clear hfz17_2); (try clear hfz77_0); (try clear hfz77_1); (try clear hx1120_0); (try clear hx1122_0); (try clear hx1128_0); (try clear hx1142_0); (try clear hx1142_1); (try clear hx1143_0); (try clear p1120); (try clear p1122); (try clear p1128); (try clear p1142); (try clear p1143); (try clear q1120); (try clear q1122); (try clear q1128); (try clear q1142); (try clear q1143); (try clear HA)
          (try clear HO_3); (try clear HO_4); (try clear HO_5); (try clear HO_8); (try clear HO_14); (try clear BK1106); (try clear BK1147); (try clear BK1148); (try clear HB)
          obtain ⟨kq, x152_66, rfl, HA, HJ66, HO_3, HO_4, HO_5, HO_8, HO_14, BK1106, BK1147, BK1148, HB⟩ := hcut
          cases kq with
          | zero => exact absurd HA.out (by simp [herbariumlaw3_GapsExact.j8])
          | succ kj66 => ?_
          have H := HA.out
          clear HA
          simp only [herbariumlaw3_GapsExact.j8] at H
          have HC84 := ak H
          clear H
          go_upto_if 152 with (fail)
          go_cut [18] (fun v18 wc => ∃ (kq : Nat) (x18_83 : Int) (x1149000_83 : ByteArray) (x1149001_83 : Int), v18 = .int .i64 x18_83 ∧ Aside0 (herbariumlaw3_GapsExact.j9 kq t1108 x4_8 x5_40 x6_2 t1121 t1123 x9_3 x12_40 x13_40 x14_40 x15_7 t1146 x18_83 l0_0 l0_1 l0_2 t1144 t1145 x1149000_83 x1149001_83 = some true) ∧ Aside0 (kq ≤ kj66) ∧ Aside0 (Kd.N (Kd.slice 3 (Kd.int .i64)) 23 wc w.heap.size (fun k_ => some k_ ≠ ((.slice (some ad1128) x4_8.length co37) : Value).ownBlock ∧ some k_ ≠ (u5 : Value).ownBlock ∧ some k_ ≠ ((.slice Ao32 t1123.length co32) : Value).ownBlock ∧ some k_ ≠ (u14 : Value).ownBlock ∧ k_ ≠ gb1106 ∧ k_ ≠ gb1147 ∧ k_ ≠ gb1148) (.slice (some ad1120) t1108.length co30) t1108) ∧ Aside0 (Kd.R (Kd.int .i64) 3 wc w.heap.size (fun k_ => some k_ ≠ ((.slice Ao32 t1123.length co32) : Value).ownBlock) (.slice (some ad1128) x4_8.length co37) x4_8) ∧ Aside0 (Kd.N (Kd.slice 5 (Kd.int .u8)) 64 wc w.heap.size (fun k_ => some k_ ≠ ((.slice (some ad1120) t1108.length co30) : Value).ownBlock ∧ some k_ ≠ ((.slice (some ad1128) x4_8.length co37) : Value).ownBlock ∧ some k_ ≠ ((.slice Ao32 t1123.length co32) : Value).ownBlock ∧ k_ ≠ gb1106 ∧ k_ ≠ gb1147 ∧ k_ ≠ gb1148) u5 x5_40) ∧ Aside0 (Kd.R (Kd.int .i64) 3 wc w.heap.size (fun k_ => some k_ ≠ ((.slice (some ad1128) x4_8.length co37) : Value).ownBlock) (.slice Ao32 t1123.length co32) t1123) ∧ Aside0 (Kd.R (Kd.int .u8) 5 wc w.heap.size (fun _ => True) u14 x14_40) ∧ Aside0 (wc.heap[gb1106]? = some (.cells #[(.slice A0_0 l0_0.length c0_0), (.slice (some ad1142) l0_1.length c0_1), (.slice A0_2 l0_2.length c0_2)] 78 (0, 0))) ∧ Aside0 (wc.heap[gb1147]? = some (.cells #[.string t1144, .int .i64 t1145] 27 (0, 0))) ∧ Aside0 (wc.heap[gb1148]? = some (.cells #[.string x1149000_83, .int .i64 x1149001_83] 27 (0, 0))) ∧ Aside0 (Below w.heap.size w wc))
          case first => as_aux_lemma =>
           have H := HC84.out
           clear HC84
           by_cases c85 : x152_66 = true
           rotate_left
           ·
            replace c85 := Bool.eq_false_iff.mpr c85
            subst c85
            rw [if_neg (show ¬ (false = true) by decide)] at H
            have H' := ak H
            clear H
            go_wp2
            go_meet
            case rel => exact ⟨_, (1), ((⟨#[]⟩ : ByteArray)), (0), (by first | rfl | (simp; done) | (simp [*]; done)), H', ⟨by have := HJ8.out; have := HK2.out; have := HK3.out; have := HJ35.out; have := HJ40.out; have := HJ52.out; have := HK7.out; have := HJ56.out; have := HJ66.out; first | omega | exact Nat.le_refl _⟩, ⟨un <| HO_3.out⟩, ⟨ur <| HO_4.out⟩, ⟨un <| HO_5.out⟩, ⟨ur <| HO_8.out⟩, ⟨ur <| HO_14.out⟩, ⟨ub BK1106.out⟩, ⟨ub BK1147.out⟩, ⟨ub BK1148.out⟩, ⟨by repeat with_reducible first | exact HB.out | apply b1 | apply b2 | apply b3 | refine b4 ?_ GE1106.out | refine b4 ?_ GE1147.out | refine b4 ?_ GE1148.out⟩⟩
           subst c85
           rw [if_pos rfl] at H
           by_cases c86 : 0 ≤ x15_7
           rotate_left
           ·
            rw [if_neg c86] at H
            exact absurd H (by simp)
           rw [if_pos c86] at H
           have c86b0 : decide (0 ≤ x15_7) = true := decide_eq_true c86
           clear c86
           (first | rw [c86b0] | (simp only [i64_w, i32_w]; rw [c86b0]) | skip)
           by_cases c87 : x15_7 < (l0_1.length : Int)
           rotate_left
           ·
            rw [if_neg c87] at H
            exact absurd H (by simp)
           rw [if_pos c87] at H
           have c87b0 : decide (x15_7 < (l0_1.length : Int)) = true := decide_eq_true c87
           clear c87
           by_cases c88 : (wrap64 (((rd_T27 l0_1 x15_7).f1) + x13_40)) ≤ 6000
           rotate_left
           ·
            rw [if_neg c88] at H
            have c88b0 : decide ((wrap64 (((rd_T27 l0_1 x15_7).f1) + x13_40)) ≤ 6000) = false := decide_eq_false c88
            clear c88
            have H' := ak H
            clear H
            have hnb102 := NB1106_1147.out
            have hnc102 := NB1147_1106.out
            have hnb103 := NB1106_1148.out
            have hnc103 := NB1148_1106.out
            have hcz104_0 : wc.cell? ⟨gb1106, 0, none⟩ = some (.slice A0_0 l0_0.length c0_0) := (blk_cell BK1106.out 0).trans rfl
            have hcz104_1 : wc.cell? ⟨gb1106, 1, none⟩ = some (.slice (some ad1142) l0_1.length c0_1) := (blk_cell BK1106.out 1).trans rfl
            have hcz104_2 : wc.cell? ⟨gb1106, 2, none⟩ = some (.slice A0_2 l0_2.length c0_2) := (blk_cell BK1106.out 2).trans rfl
            have hfz104_0 := blk_frozen BK1106.out 0
            have hfz104_1 := blk_frozen BK1106.out 1
            have hfz104_2 := blk_frozen BK1106.out 2
            have p1151 : 0 ≤ (x15_7 : Int) := of_decide_eq_true (by first | (with_reducible assumption) | assumption)
            have q1151 : x15_7 < (l0_1.length : Int) := of_decide_eq_true (by first | (with_reducible assumption) | assumption)
            obtain ⟨ad1151, e1151, hx1151_0, hx1151_1⟩ := at_T27 HR0_1.out x15_7 p1151 q1151
            obtain rfl : ad1142 = ad1151 := (by injection e1151)
            replace hx1151_0 := (HB.out.cell (World.block_lt_of_cell? w _ hx1151_0)).trans hx1151_0
            replace hx1151_1 := (HB.out.cell (World.block_lt_of_cell? w _ hx1151_1)).trans hx1151_1
            replace p1151 := eq_true p1151
            replace q1151 := eq_true q1151
            go_wp2
            go_meet
            case rel => exact ⟨_, (2), ((⟨#[]⟩ : ByteArray)), (0), (by first | rfl | (simp; done) | (simp [*]; done)), H', ⟨by have := HJ8.out; have := HK2.out; have := HK3.out; have := HJ35.out; have := HJ40.out; have := HJ52.out; have := HK7.out; have := HJ56.out; have := HJ66.out; first | omega | exact Nat.le_refl _⟩, ⟨un <| HO_3.out⟩, ⟨ur <| HO_4.out⟩, ⟨un <| HO_5.out⟩, ⟨ur <| HO_8.out⟩, ⟨ur <| HO_14.out⟩, ⟨ub BK1106.out⟩, ⟨ub BK1147.out⟩, ⟨ub BK1148.out⟩, ⟨by repeat with_reducible first | exact HB.out | apply b1 | apply b2 | apply b3 | refine b4 ?_ GE1106.out | refine b4 ?_ GE1147.out | refine b4 ?_ GE1148.out⟩⟩
           rw [if_pos c88] at H
           have c88b0 : decide ((wrap64 (((rd_T27 l0_1 x15_7).f1) + x13_40)) ≤ 6000) = true := decide_eq_true c88
           clear c88
           replace H := Option.bind_eq_some_iff.mp H
           obtain ⟨t1153, A890, H⟩ := H
           try dsimp only at H
           have A89 := ak A890
           clear A890
           by_cases c90 : t1153.length + x14_40.length < 140737488355328
           rotate_left
           ·
            rw [if_neg c90] at H
            exact absurd H (by simp)
           rw [if_pos c90] at H
           have LMc90 := ak c90
           clear c90
           obtain ⟨y1156, hy1156⟩ : ∃ y_ : List Int, y_ = (t1153 ++ x14_40) := ⟨_, rfl⟩
           replace H : ((herbariumref1_List_Pack.f kj66 y1156).bind fun bt1159 => (herbariumlaw3_GapsExact.j9 kj66 t1108 x4_8 x5_40 x6_2 t1121 t1123 x9_3 x12_40 x13_40 x14_40 x15_7 t1146 0 l0_0 l0_1 l0_2 t1144 t1145 bt1159.1 bt1159.2)) = some true := by first | (rw [hy1156]; with_reducible exact H) | (have H2_ := (Option.bind_some _ _).symm.trans H; rw [hy1156]; with_reducible exact H2_) | (have H2_ := (Option.bind_some _ _).symm.trans H; with_reducible exact H2_) | with_reducible exact H | (rw [hy1156]; exact H) | exact H
           have Ny1156 := ak hy1156
           clear hy1156
           replace H := Option.bind_eq_some_iff.mp H
           obtain ⟨⟨t1159, t1160⟩, A910, H⟩ := H
           try dsimp only at H
           have A91 := ak A910
           clear A910
           have H' := ak H
           clear H
           have hnb92 := NB1106_1147.out
           have hnc92 := NB1147_1106.out
           have hnb93 := NB1106_1148.out
           have hnc93 := NB1148_1106.out
           have hcz94_0 : wc.cell? ⟨gb1106, 0, none⟩ = some (.slice A0_0 l0_0.length c0_0) := (blk_cell BK1106.out 0).trans rfl
           have hcz94_1 : wc.cell? ⟨gb1106, 1, none⟩ = some (.slice (some ad1142) l0_1.length c0_1) := (blk_cell BK1106.out 1).trans rfl
           have hcz94_2 : wc.cell? ⟨gb1106, 2, none⟩ = some (.slice A0_2 l0_2.length c0_2) := (blk_cell BK1106.out 2).trans rfl
           have hfz94_0 := blk_frozen BK1106.out 0
           have hfz94_1 := blk_frozen BK1106.out 1
           have hfz94_2 := blk_frozen BK1106.out 2
           have p1151 : 0 ≤ (x15_7 : Int) := of_decide_eq_true (by first | (with_reducible assumption) | assumption)
           have q1151 : x15_7 < (l0_1.length : Int) := of_decide_eq_true (by first | (with_reducible assumption) | assumption)
           obtain ⟨ad1151, e1151, hx1151_0, hx1151_1⟩ := at_T27 HR0_1.out x15_7 p1151 q1151
           obtain rfl : ad1142 = ad1151 := (by injection e1151)
           replace hx1151_0 := (HB.out.cell (World.block_lt_of_cell? w _ hx1151_0)).trans hx1151_0
           replace hx1151_1 := (HB.out.cell (World.block_lt_of_cell? w _ hx1151_1)).trans hx1151_1
           replace p1151 := eq_true p1151
           replace q1151 := eq_true q1151
           have p1152 : 0 ≤ (x15_7 : Int) := of_decide_eq_true (by first | (with_reducible assumption) | assumption)
           have q1152 : x15_7 < (l0_1.length : Int) := of_decide_eq_true (by first | (with_reducible assumption) | assumption)
           obtain ⟨ad1152, e1152, hx1152_0, hx1152_1⟩ := at_T27 HR0_1.out x15_7 p1152 q1152
           obtain rfl : ad1142 = ad1152 := (by injection e1152)
           replace hx1152_0 := (HB.out.cell (World.block_lt_of_cell? w _ hx1152_0)).trans hx1152_0
           replace hx1152_1 := (HB.out.cell (World.block_lt_of_cell? w _ hx1152_1)).trans hx1152_1
           replace p1152 := eq_true p1152
           replace q1152 := eq_true q1152
           go_wp2_with (first | ((with_reducible refine gate_callee (f := 52) rfl ?_); refine goesL_ (some 167) rfl rfl Try.func52 (by kernel_rfl) rfl #[.agg #[.string ((rd_T27 l0_1 x15_7).f0), .int .i64 ((rd_T27 l0_1 x15_7).f1)]] rfl (by (try simp only [List.map_toArray, List.map_cons, List.map_nil]); first | done | rfl | (simp only [List.length_drop, List.length_take]; rfl)) ?_; (with_reducible refine (herbariumref1_Of.calls kj66 ((rd_T27 l0_1 x15_7).f0) ((rd_T27 l0_1 x15_7).f1) t1153 _ A89.out).mono ?_); rintro e w95 ⟨v1154, rfl, ho0, hb⟩; refine ⟨_, rfl, ?_⟩; have n0_ := ak (Kd.N_elder' (un <| HO_3.out) (Kd.R_base ho0) hb); have n1_ := ak (Kd.R_below (ur <| HO_4.out) hb); have n2_ := ak (Kd.N_elder' (un <| HO_5.out) (Kd.R_base ho0) hb); have n3_ := ak (Kd.R_below (ur <| HO_8.out) hb); have n4_ := ak (Kd.R_elder' (ur <| HO_14.out) (Kd.R_base ho0) hb); have n5_ := ak (Kd.R_lower (Kd.R_new' ho0 (Kd.R_lt (ur <| HO_14.out))) (below_size (by repeat with_reducible first | exact HB.out | apply b1 | apply b2 | apply b3 | refine b4 ?_ GE1106.out | refine b4 ?_ GE1147.out | refine b4 ?_ GE1148.out))); have n6_ := ak (blk_below (g := gb1106) (o := .cells #[.slice A0_0 l0_0.length c0_0, .slice (some ad1142) l0_1.length c0_1, .slice A0_2 l0_2.length c0_2] 78 (0, 0)) (ub BK1106.out) hb); have n7_ := ak (blk_below (g := gb1147) (o := .cells #[.string t1144, .int .i64 t1145] 27 (0, 0)) (ub BK1147.out) hb); have n8_ := ak (blk_below (g := gb1148) (o := .cells #[.string (⟨#[]⟩ : ByteArray), .int .i64 0] 27 (0, 0)) (ub BK1148.out) hb); have n9_ := ak (below_step (by repeat with_reducible first | exact HB.out | apply b1 | apply b2 | apply b3 | refine b4 ?_ GE1106.out | refine b4 ?_ GE1147.out | refine b4 ?_ GE1148.out) hb); clear HO_3; clear HO_4; clear HO_5; clear HO_8; clear HO_14; clear BK1106; clear BK1147; clear BK1148; clear HB; have HO_3 := n0_; have HO_4 := n1_; have HO_5 := n2_; have HO_8 := n3_; have HO_14 := n4_; have HO1155 := n5_; have BK1106 := n6_; have BK1147 := n7_; have BK1148 := n8_; have HB := n9_; clear n0_ n1_ n2_ n3_ n4_ n5_ n6_ n7_ n8_ n9_; (try clear hb); (try clear hb2); (try clear hk); (try clear hi); (try clear ho0); obtain ⟨Ao97, co97, eo97⟩ := Kd.R_slice HO_14.out; subst eo97) | ((with_reducible refine gate_builtin (b := .append) (xs := #[.tmp 167, .tmp 168]) rfl ?_); at_builtin; refine Kd.R_append_rows (Kd.int .u8) (w0 := w) w.heap.size rfl (.tmp 167) (.tmp 168) 64 5 (.int .u8 0) 1 rfl Try.underlying64 info5 rfl (by decide) (by omega) v1154 t1153 x14_40 _ _ _ (fun k_ => some k_ ≠ (.slice Ao97 x14_40.length co97 : Value).ownBlock) (fun _ => False) rfl rfl ?aO ?aR (fun _ _ h => h) (fun _ h => h.elim) ?aF ?aB ?aS ?aL ?_; (case aR => exact uc (Kd.R_reads' HO_14.out).2.2); (case aB => exact (by repeat with_reducible first | exact HB.out | apply b1 | apply b2 | apply b3 | refine b4 ?_ GE1106.out | refine b4 ?_ GE1147.out | refine b4 ?_ GE1148.out)); (case aF => exact (fun k_ hk => Kd.fresh' (Kd.R_lt (ur <| HO_14.out)) k_ hk)); (case aO => exact (ur <| Kd.R_mono HO1155.out (fun _ hk => hk.2))); (case aS => exact (below_size (by repeat with_reducible first | exact HB.out | apply b1 | apply b2 | apply b3 | refine b4 ?_ GE1106.out | refine b4 ?_ GE1147.out | refine b4 ?_ GE1148.out))); (case aL => have := LMc90.out; omega); intro v1157 w96 ho hb hg hat; rw [← Ny1156.out] at ho; have n0_ := ak (Kd.N_afterv (ok := (fun k_ => some k_ ≠ (.slice (some ad1128) x4_8.length co37 : Value).ownBlock ∧ some k_ ≠ (u5 : Value).ownBlock ∧ some k_ ≠ (.slice Ao32 t1123.length co32 : Value).ownBlock ∧ some k_ ≠ (.slice Ao97 x14_40.length co97 : Value).ownBlock ∧ k_ ≠ gb1106 ∧ k_ ≠ gb1147 ∧ k_ ≠ gb1148)) (un <| HO_3.out) hg hat); have n1_ := ak (Kd.R_over' (ur <| HO_4.out) (Kd.R_typed (ur <| HO1155.out)) (by decide) hg); have n2_ := ak (Kd.N_afterv (ok := (fun k_ => some k_ ≠ (.slice (some ad1120) t1108.length co30 : Value).ownBlock ∧ some k_ ≠ (.slice (some ad1128) x4_8.length co37 : Value).ownBlock ∧ some k_ ≠ (.slice Ao32 t1123.length co32 : Value).ownBlock ∧ k_ ≠ gb1106 ∧ k_ ≠ gb1147 ∧ k_ ≠ gb1148)) (un <| HO_5.out) hg hat); have n3_ := ak (Kd.R_over' (ur <| HO_8.out) (Kd.R_typed (ur <| HO1155.out)) (by decide) hg); have n4_ := ak (Kd.R_after (ok := (fun _ => True)) (ur <| HO_14.out) hg hat); have n5_ := ak (blk_grown (g := gb1106) (o := .cells #[.slice A0_0 l0_0.length c0_0, .slice (some ad1142) l0_1.length c0_1, .slice A0_2 l0_2.length c0_2] 78 (0, 0)) (ub BK1106.out) hg (Kd.R_ne HO1155.out BK1106.out (by decide))); have n6_ := ak (blk_grown (g := gb1147) (o := .cells #[.string t1144, .int .i64 t1145] 27 (0, 0)) (ub BK1147.out) hg (Kd.R_ne HO1155.out BK1147.out (by decide))); have n7_ := ak (blk_grown (g := gb1148) (o := .cells #[.string (⟨#[]⟩ : ByteArray), .int .i64 0] 27 (0, 0)) (ub BK1148.out) hg (Kd.R_ne HO1155.out BK1148.out (by decide))); have n8_ := ak (hb); have n9_ := ak (ho); clear HO_3; clear HO_4; clear HO_5; clear HO_8; clear HO_14; clear BK1106; clear BK1147; clear BK1148; clear HB; clear HO1155; have HO_3 := n0_; have HO_4 := n1_; have HO_5 := n2_; have HO_8 := n3_; have HO_14 := n4_; have BK1106 := n5_; have BK1147 := n6_; have BK1148 := n7_; have HB := n8_; have HO1158 := n9_; clear n0_ n1_ n2_ n3_ n4_ n5_ n6_ n7_ n8_ n9_; clear ho hb hg hat; obtain ⟨Ao98, co98, eo98⟩ := Kd.R_slice HO1158.out; subst eo98) | ((with_reducible refine gate_callee (f := 56) rfl ?_); refine goesL_ (some 170) rfl rfl Try.func56 (by kernel_rfl) rfl #[.slice Ao98 y1156.length co98] rfl (by (try simp only [List.map_toArray, List.map_cons, List.map_nil]); first | done | rfl | (simp only [List.length_drop, List.length_take]; rfl)) ?_; (with_reducible refine (herbariumref1_List_Pack.calls kj66 _ _ y1156 t1159 t1160 _ ?side1 ?side2 A91.out).mono ?_); (case side1 => exact uc (Kd.R_reads' HO1158.out).2.2); (case side2 => exact (Kd.R_reads' HO1158.out).2.1); rintro e w99 ⟨rfl, hb⟩; refine ⟨_, rfl, ?_⟩; have n0_ := ak (Kd.N_below (un <| HO_3.out) hb); have n1_ := ak (Kd.R_below (ur <| HO_4.out) hb); have n2_ := ak (Kd.N_below (un <| HO_5.out) hb); have n3_ := ak (Kd.R_below (ur <| HO_8.out) hb); have n4_ := ak (Kd.R_below (ur <| HO_14.out) hb); have n5_ := ak (Kd.R_below (ur <| HO1158.out) hb); have n6_ := ak (blk_below (g := gb1106) (o := .cells #[.slice A0_0 l0_0.length c0_0, .slice (some ad1142) l0_1.length c0_1, .slice A0_2 l0_2.length c0_2] 78 (0, 0)) (ub BK1106.out) hb); have n7_ := ak (blk_below (g := gb1147) (o := .cells #[.string t1144, .int .i64 t1145] 27 (0, 0)) (ub BK1147.out) hb); have n8_ := ak (blk_below (g := gb1148) (o := .cells #[.string (⟨#[]⟩ : ByteArray), .int .i64 0] 27 (0, 0)) (ub BK1148.out) hb); have n9_ := ak (below_step (by repeat with_reducible first | exact HB.out | apply b1 | apply b2 | apply b3 | refine b4 ?_ GE1106.out | refine b4 ?_ GE1147.out | refine b4 ?_ GE1148.out) hb); clear HO_3; clear HO_4; clear HO_5; clear HO_8; clear HO_14; clear HO1158; clear BK1106; clear BK1147; clear BK1148; clear HB; have HO_3 := n0_; have HO_4 := n1_; have HO_5 := n2_; have HO_8 := n3_; have HO_14 := n4_; have HO1158 := n5_; have BK1106 := n6_; have BK1147 := n7_; have BK1148 := n8_; have HB := n9_; clear n0_ n1_ n2_ n3_ n4_ n5_ n6_ n7_ n8_ n9_; (try clear hb); (try clear hb2); (try clear hk); (try clear hi); have hnb100 := NB1148_1147.out; have hnc100 := NB1147_1148.out; have hcz101_0 : w99.cell? ⟨gb1148, 0, none⟩ = some (.string (⟨#[]⟩ : ByteArray)) := (blk_cell BK1148.out 0).trans rfl; have hcz101_1 : w99.cell? ⟨gb1148, 1, none⟩ = some (.int .i64 0) := (blk_cell BK1148.out 1).trans rfl; have hfz101_0 := blk_frozen BK1148.out 0; have hfz101_1 := blk_frozen BK1148.out 1))
           go_meet
           case rel => exact ⟨_, (0), (t1159), (t1160), (by first | rfl | (simp; done) | (simp [*]; done)), H', ⟨by have := HJ8.out; have := HK2.out; have := HK3.out; have := HJ35.out; have := HJ40.out; have := HJ52.out; have := HK7.out; have := HJ56.out; have := HJ66.out; first | omega | exact Nat.le_refl _⟩, ⟨un <| Kd.N_mono (Kd.N_far (p := ⟨gb1148, 1, none⟩) (Kd.N_far (p := ⟨gb1148, 0, none⟩) (Kd.N_mono HO_3.out (fun k_ hk => (⟨hk, hk.1.2.2.2.2.2.2⟩ : _ ∧ k_ ≠ gb1148))) (fun _ hk => hk.2) (.string t1159)) (fun _ hk => hk.2) (.int .i64 t1160)) (fun _ hk => ⟨hk.1.1.1, ⟨hk.1.1.2.1, ⟨hk.1.1.2.2.1, ⟨hk.1.1.2.2.2.1, ⟨hk.1.1.2.2.2.2.1, ⟨hk.1.1.2.2.2.2.2.1, hk.1.1.2.2.2.2.2.2⟩⟩⟩⟩⟩⟩)⟩, ⟨ur <| Kd.R_mono (Kd.R_far (p := ⟨gb1148, 1, none⟩) (Kd.R_far (p := ⟨gb1148, 0, none⟩) (Kd.R_types HO_4.out BK1148.out (by decide)) (fun _ hk => hk.2) (.string t1159)) (fun _ hk => hk.2) (.int .i64 t1160)) (fun _ hk => hk.1)⟩, ⟨un <| Kd.N_mono (Kd.N_far (p := ⟨gb1148, 1, none⟩) (Kd.N_far (p := ⟨gb1148, 0, none⟩) (Kd.N_mono HO_5.out (fun k_ hk => (⟨hk, hk.1.2.2.2.2.2⟩ : _ ∧ k_ ≠ gb1148))) (fun _ hk => hk.2) (.string t1159)) (fun _ hk => hk.2) (.int .i64 t1160)) (fun _ hk => ⟨hk.1.1.1, ⟨hk.1.1.2.1, ⟨hk.1.1.2.2.1, ⟨hk.1.1.2.2.2.1, ⟨hk.1.1.2.2.2.2.1, hk.1.1.2.2.2.2.2⟩⟩⟩⟩⟩)⟩, ⟨ur <| Kd.R_mono (Kd.R_far (p := ⟨gb1148, 1, none⟩) (Kd.R_far (p := ⟨gb1148, 0, none⟩) (Kd.R_types HO_8.out BK1148.out (by decide)) (fun _ hk => hk.2) (.string t1159)) (fun _ hk => hk.2) (.int .i64 t1160)) (fun _ hk => hk.1)⟩, ⟨ur <| Kd.R_mono (Kd.R_far (p := ⟨gb1148, 1, none⟩) (Kd.R_far (p := ⟨gb1148, 0, none⟩) (Kd.R_types HO_14.out BK1148.out (by decide)) (fun _ hk => hk.2) (.string t1159)) (fun _ hk => hk.2) (.int .i64 t1160)) (fun _ hk => trivial)⟩, ⟨by (with_reducible repeat (first | refine blk_drewN ?_ _ | refine blk_drew ?_ | refine blk_alloc ?_ _)); refine blk_far ?_ NB1106_1148.out _; (with_reducible repeat (first | refine blk_drewN ?_ _ | refine blk_drew ?_ | refine blk_alloc ?_ _)); refine blk_far ?_ NB1106_1148.out _; (with_reducible repeat (first | refine blk_drewN ?_ _ | refine blk_drew ?_ | refine blk_alloc ?_ _)); exact BK1106.out⟩, ⟨by (with_reducible repeat (first | refine blk_drewN ?_ _ | refine blk_drew ?_ | refine blk_alloc ?_ _)); refine blk_far ?_ NB1147_1148.out _; (with_reducible repeat (first | refine blk_drewN ?_ _ | refine blk_drew ?_ | refine blk_alloc ?_ _)); refine blk_far ?_ NB1147_1148.out _; (with_reducible repeat (first | refine blk_drewN ?_ _ | refine blk_drew ?_ | refine blk_alloc ?_ _)); exact BK1147.out⟩, ⟨by (with_reducible repeat (first | refine blk_drewN ?_ _ | refine blk_drew ?_ | refine blk_alloc ?_ _)); refine blk_put (cs := #[.string t1159, .int .i64 0]) ?_ 1 _ rfl; (with_reducible repeat (first | refine blk_drewN ?_ _ | refine blk_drew ?_ | refine blk_alloc ?_ _)); refine blk_put (cs := #[.string (⟨#[]⟩ : ByteArray), .int .i64 0]) ?_ 0 _ rfl; (with_reducible repeat (first | refine blk_drewN ?_ _ | refine blk_drew ?_ | refine blk_alloc ?_ _)); exact BK1148.out⟩, ⟨by repeat with_reducible first | exact HB.out | apply b1 | apply b2 | apply b3 | refine b4 ?_ GE1106.out | refine b4 ?_ GE1147.out | refine b4 ?_ GE1148.out⟩⟩
          as_aux_lemma =>
           clear HC84
           (try clear c3); (try clear c8); (try clear c23); (try clear c23b0); (try clear c24); (try clear c24b0); (try clear c29); (try clear c29b0); (try clear c29b1); (try clear c29b2); (try clear c33); (try clear c33b0); (try clear c34); (try clear c34b0); (try clear c56); (try clear c61); (try clear c62); (try clear c62b0); (try clear c63); (try clear c63b0); (try clear c64); (try clear c64b0); (try clear c65); (try clear c65b0); (try clear hcz11_0); (try clear hcz11_1); (try clear hcz11_2); (try clear hcz13_0); (try clear hcz13_1); (try clear hcz13_2); (try clear hcz17_0); (try clear hcz17_1); (try clear hcz17_2)
           (try clear hcz77_0); (try clear hcz77_1); (try clear hfz11_0); (try clear hfz11_1); (try clear hfz11_2); (try clear hfz13_0); (try clear hfz13_1); (try clear hfz13_2); (try clear hfz17_0); (try clear hfz17_1); (try clear hfz17_2); (try clear hfz77_0); (try clear hfz77_1); (try clear hx1120_0); (try clear hx1122_0); (try clear hx1128_0); (try clear hx1142_0); (try clear hx1142_1); (try clear hx1143_0); (try clear p1120); (try clear p1122); (try clear p1128); (try clear p1142); (try clear p1143); (try clear q1120); (try clear q1122); (try clear q1128); (try clear q1142); (try clear q1143); (try clear HA)
           (try clear HO_3); (try clear HO_4); (try clear HO_5); (try clear HO_8); (try clear HO_14); (try clear BK1106); (try clear BK1147); (try clear BK1148); (try clear HB)
           obtain ⟨kq, x18_83, x1149000_83, x1149001_83, rfl, HA, HJ83, HO_3, HO_4, HO_5, HO_8, HO_14, BK1106, BK1147, BK1148, HB⟩ := hcut
           cases kq with
           | zero => exact absurd HA.out (by simp [herbariumlaw3_GapsExact.j9])
           | succ kj83 => ?_
           have H := HA.out
           clear HA
           simp only [herbariumlaw3_GapsExact.j9] at H
           replace H := Option.bind_eq_some_iff.mp H
           obtain ⟨t1161, A1050, H⟩ := H
           try dsimp only at H
           have A105 := ak A1050
           clear A1050
           by_cases c106 : t1161 = x18_83
           rotate_left
           ·
            rw [if_neg c106] at H
            have c106b0 : (t1161 == x18_83) = false := beq_eq_false_iff_ne.mpr c106
            have c106b1 : (t1161 != x18_83) = true := bne_iff_ne.mpr c106
            exact absurd (Option.some.inj H) (by decide)
           rw [if_pos c106] at H
           have c106b0 : (t1161 == x18_83) = true := beq_iff_eq.mpr c106
           have c106b1 : (t1161 != x18_83) = false := bne_eq_false_iff_eq.mpr c106
           clear c106
           by_cases c107 : (!(t1144.toList == x1149000_83.toList) || (!(t1145 == x1149001_83))) = true
           ·
            rw [if_pos c107] at H
            have c107b0 : (!(t1144.toList == x1149000_83.toList) || (!(t1145 == x1149001_83))) = true := c107
            clear c107
            exact absurd (Option.some.inj H) (by decide)
           rw [if_neg c107] at H
           have c107b0 : (!(t1144.toList == x1149000_83.toList) || (!(t1145 == x1149001_83))) = false := by simpa using c107
           clear c107
           by_cases c108 : 0 ≤ x6_2
           rotate_left
           ·
            rw [if_neg c108] at H
            exact absurd H (by simp)
           rw [if_pos c108] at H
           have c108b0 : decide (0 ≤ x6_2) = true := decide_eq_true c108
           clear c108
           by_cases c109 : x6_2 < (t1108.length : Int)
           rotate_left
           ·
            rw [if_neg c109] at H
            exact absurd H (by simp)
           rw [if_pos c109] at H
           have c109b0 : decide (x6_2 < (t1108.length : Int)) = true := decide_eq_true c109
           clear c109
           replace H := Option.bind_eq_some_iff.mp H
           obtain ⟨t1163, A1100, H⟩ := H
           try dsimp only at H
           have A110 := ak A1100
           clear A1100
           by_cases c111 : t1163 = true
           rotate_left
           ·
            replace c111 := Bool.eq_false_iff.mpr c111
            subst c111
            rw [if_neg (show ¬ (false = true) by decide)] at H
            exact absurd (Option.some.inj H) (by decide)
           subst c111
           rw [if_pos rfl] at H
           have H' := ak H
           clear H
           go_wp2_with (first | ((with_reducible refine gate_callee (f := 72) rfl ?_); refine goesL_ (some 172) rfl rfl Try.func72 (by kernel_rfl) rfl #[.int .i64 t1146] rfl (by (try simp only [List.map_toArray, List.map_cons, List.map_nil]); first | done | rfl | (simp only [List.length_drop, List.length_take]; rfl)) ?_; (with_reducible refine (herbariumlaw3_num.calls t1146 t1161 _ A105.out).mono ?_); rintro e w' ⟨rfl, ⟨nd, rfl⟩⟩; refine ⟨_, rfl, ?_⟩; have hnb112 := NB1147_1106.out; have hnc112 := NB1106_1147.out; have hnb113 := NB1147_1148.out; have hnc113 := NB1148_1147.out; have hcz114_0 : wc.cell? ⟨gb1147, 0, none⟩ = some (.string t1144) := (blk_cell BK1147.out 0).trans rfl; have hcz114_1 : wc.cell? ⟨gb1147, 1, none⟩ = some (.int .i64 t1145) := (blk_cell BK1147.out 1).trans rfl; have hfz114_0 := blk_frozen BK1147.out 0; have hfz114_1 := blk_frozen BK1147.out 1; have hnb115 := NB1148_1106.out; have hnc115 := NB1106_1148.out; have hcz116_0 : wc.cell? ⟨gb1148, 0, none⟩ = some (.string x1149000_83) := (blk_cell BK1148.out 0).trans rfl; have hcz116_1 : wc.cell? ⟨gb1148, 1, none⟩ = some (.int .i64 x1149001_83) := (blk_cell BK1148.out 1).trans rfl; have hfz116_0 := blk_frozen BK1148.out 0; have hfz116_1 := blk_frozen BK1148.out 1; have p1162 : 0 ≤ (x6_2 : Int) := of_decide_eq_true (by first | (with_reducible assumption) | assumption); have q1162 : x6_2 < (t1108.length : Int) := of_decide_eq_true (by first | (with_reducible assumption) | assumption); obtain ⟨ad1162, A1162_0, c1162_0, e1162, hx1162_0, hl1162_0, hi1162_0⟩ := at_L7 (Kd.N_reads' HO_3.out).2.2 x6_2 p1162 q1162; obtain rfl : ad1120 = ad1162 := (by injection e1162); obtain ⟨ce1162, hce1162, hMe1162, hcc1162⟩ := Kd.N_get HO_3.out [] x6_2 p1162 (by first | exact q1162 | exact of_decide_eq_true (by first | (with_reducible assumption) | assumption) | (have e_ := (Kd.N_reads' HO_3.out).1; omega)); obtain ⟨ua1162_0, uc1162_0, rfl, ul1162_0, ge1162_0⟩ := Kd.FK_slice_open hMe1162; have hv1162_0 := hcc1162 0 _ rfl; rw [Nat.add_zero, show ((Kd.slice 3 (Kd.int .i64))).sz = 1 from rfl, Nat.mul_one] at hv1162_0; replace hv1162_0 := Option.some.inj (hv1162_0.symm.trans hx1162_0); injection hv1162_0 with hva_ hvn_ hvc_; rw [hva_] at ge1162_0; rw [hvc_] at ul1162_0; have HL1162_0 := ak (show Kd.V (Kd.int .i64) 3 _ w.heap.size _ _ (rd_L7 t1108 x6_2) from Kd.V_mk ul1162_0 ge1162_0); clear hva_ hvn_ hvc_ ge1162_0 ul1162_0; clear hcc1162 hce1162; have HR1162_0 := ak hi1162_0; have HC1162_0 := ak hl1162_0; clear hi1162_0 hl1162_0; replace p1162 := eq_true p1162; replace q1162 := eq_true q1162) | (go_at_call 75; (with_reducible refine (herbariumref0_EqNumbers.calls kj83 _ _ t1123 _ _ (rd_L7 t1108 x6_2) true _ ?side1 ?side2 ?side3 ?side4 A110.out).mono ?_); (case side1 => exact uc (Kd.R_reads' HO_8.out).2.2); (case side2 => exact (Kd.R_reads' HO_8.out).2.1); (case side3 => exact uc HR1162_0.out); (case side4 => exact HC1162_0.out); rintro e w' ⟨rfl, ⟨nd, rfl⟩⟩))
           go_roundg kj83
           case measure => have := HJ8.out; have := HK2.out; have := HK3.out; have := HJ35.out; have := HJ40.out; have := HJ52.out; have := HK7.out; have := HJ56.out; have := HJ66.out; have := HJ83.out; omega
           case rel => exact ⟨(wrap64 (x15_7 + 1)), (by first | rfl | (simp; done) | (simp [*]; done)), H', ⟨by have := HJ8.out; have := HK2.out; have := HK3.out; have := HJ35.out; have := HJ40.out; have := HJ52.out; have := HK7.out; have := HJ56.out; have := HJ66.out; have := HJ83.out; omega⟩, ⟨un <| Kd.N_mono HO_3.out (fun _ hk => ⟨hk.1, ⟨hk.2.1, ⟨hk.2.2.1, ⟨hk.2.2.2.1, hk.2.2.2.2.1⟩⟩⟩⟩)⟩, ⟨ur <| HO_4.out⟩, ⟨un <| Kd.N_mono HO_5.out (fun _ hk => ⟨hk.1, ⟨hk.2.1, ⟨hk.2.2.1, hk.2.2.2.1⟩⟩⟩)⟩, ⟨ur <| HO_8.out⟩, ⟨ur <| HO_14.out⟩, ⟨ub BK1106.out⟩, ⟨by repeat with_reducible first | exact HB.out | apply b1 | apply b2 | apply b3 | refine b4 ?_ GE1106.out | refine b4 ?_ GE1147.out | refine b4 ?_ GE1148.out⟩⟩
end Go.Proofs.Ytnpghcikhpglkaa.Q
namespace Go.Proofs.Ytnpghcikhpglkaa.Pb
open Go.RowKit Go.Proofs.YtnpghcikhpglkaaW.PrintWords Go.Proofs.YtnpghcikhpglkaaW.PrintLast Go.Proofs.YtnpghcikhpglkaaW.PrintMore Go.Proofs.Ytnpghcikhpglkaa.Hand Go.Proofs.Ytnpghcikhpglkaa.Pu Go.Proofs.Ytnpghcikhpglkaa.Q
set_option linter.unusedVariables false
set_option linter.unusedSimpArgs false
/-! ### a list's text -/
theorem packS_size (l : List Int) : (packS l).size = (l.length + 7) / 8 := by rw [packS, strOfNums_size, packL_length]
theorem bt_strOfNums (xs : List Int) (i : Nat) (hi : i < xs.length) (h : 0 ≤ xs.getD i 0 ∧ xs.getD i 0 < 256) : bt (strOfNums xs) (i : Int) = xs.getD i 0 := by
  have hs : i < (strOfNums xs).size := by rw [strOfNums_size]; exact hi
  rw [← bt_at (strOfNums xs) (i : Int) hs]
  have h2 : i < (strOfNums xs).data.toList.length := hs
  have h3 : (strOfNums xs).data.toList[i]'h2 = UInt8.ofNat (xs[i]'hi).toNat := by simp [strOfNums_data]
  have h4 : (strOfNums xs)[(i : Int).toNat]'hs = UInt8.ofNat (xs[i]'hi).toNat := h3
  rw [h4]
  rw [List.getD_eq_getElem?_getD, List.getElem?_eq_getElem hi] at h ⊢
  simp only [Option.getD_some] at h ⊢
  rw [UInt8.toNat_ofNat']
  omega
theorem bt_packS (l : List Int) (hl : IsBits l) (j : Nat) (hj : j < (l.length + 7) / 8) : bt (packS l) (j : Int) = byteAt l j := by
  have h1 : (packL l).getD j 0 = byteAt l j := by rw [List.getD_eq_getElem?_getD, packL_get l j hj]; rfl
  have := bt_strOfNums (packL l) j (by rw [packL_length]; exact hj) (by rw [h1]; exact byteAt_range hl j)
  rw [packS, this, h1]
theorem b01 {x : Int} (h : x = 0 ∨ x = 1) : 0 ≤ x ∧ x ≤ 1 := by omega
theorem byte8 (x0 x1 x2 x3 x4 x5 x6 x7 : Int) (h0 : 0 ≤ x0 ∧ x0 ≤ 1) (h1 : 0 ≤ x1 ∧ x1 ≤ 1) (h2 : 0 ≤ x2 ∧ x2 ≤ 1) (h3 : 0 ≤ x3 ∧ x3 ≤ 1) (h4 : 0 ≤ x4 ∧ x4 ≤ 1) (h5 : 0 ≤ x5 ∧ x5 ≤ 1) (h6 : 0 ≤ x6 ∧ x6 ≤ 1) (h7 : 0 ≤ x7 ∧ x7 ≤ 1) :
    let b := x0 * 128 + x1 * 64 + x2 * 32 + x3 * 16 + x4 * 8 + x5 * 4 + x6 * 2 + x7
    b / 128 % 2 = x0 ∧ b / 64 % 2 = x1 ∧ b / 32 % 2 = x2 ∧ b / 16 % 2 = x3 ∧ b / 8 % 2 = x4 ∧ b / 4 % 2 = x5 ∧ b / 2 % 2 = x6 ∧ b / 1 % 2 = x7 := by
  refine ⟨?_, ?_, ?_, ?_, ?_, ?_, ?_, ?_⟩ <;> omega
theorem bit_byteAt (l : List Int) (hl : IsBits l) (j i : Nat) (hi : i < 8) : byteAt l j / 2 ^ (7 - i) % 2 = l.getD (8 * j + i) 0 := by
  have h := byte8 _ _ _ _ _ _ _ _ (b01 (hl.getD (8 * j))) (b01 (hl.getD (8 * j + 1))) (b01 (hl.getD (8 * j + 2))) (b01 (hl.getD (8 * j + 3))) (b01 (hl.getD (8 * j + 4))) (b01 (hl.getD (8 * j + 5))) (b01 (hl.getD (8 * j + 6))) (b01 (hl.getD (8 * j + 7)))
  have hi' : i = 0 ∨ i = 1 ∨ i = 2 ∨ i = 3 ∨ i = 4 ∨ i = 5 ∨ i = 6 ∨ i = 7 := by omega
  rcases hi' with rfl | rfl | rfl | rfl | rfl | rfl | rfl | rfl
  · exact h.1
  · exact h.2.1
  · exact h.2.2.1
  · exact h.2.2.2.1
  · exact h.2.2.2.2.1
  · exact h.2.2.2.2.2.1
  · exact h.2.2.2.2.2.2.1
  · exact h.2.2.2.2.2.2.2
theorem bitOf_packS (l : List Int) (hl : IsBits l) (i : Nat) (hi : i < l.length) : bitOf (packS l) (i : Int) = l.getD i 0 := by
  have h := bitOf_at (packS l) (i / 8) (i % 8) (by omega)
  rw [show 8 * (i / 8) + i % 8 = i by omega] at h
  rw [h, bt_packS l hl (i / 8) (by omega), bit_byteAt l hl (i / 8) (i % 8) (by omega), show 8 * (i / 8) + i % 8 = i by omega]
theorem ofS_packS (l : List Int) (hl : IsBits l) : ofS (packS l) (l.length : Int) = l := by
  refine List.ext_getElem? fun i => ?_
  rcases Nat.lt_or_ge i l.length with hi | hi
  · have h := ofS_getD (packS l) (l.length : Int) i (by simpa using hi)
    rw [bitOf_packS l hl i hi] at h
    have hi2 : i < (ofS (packS l) (l.length : Int)).length := by rw [ofS_length]; simpa using hi
    rw [List.getD_eq_getElem?_getD, List.getD_eq_getElem?_getD, List.getElem?_eq_getElem hi2, List.getElem?_eq_getElem hi] at h
    rw [List.getElem?_eq_getElem hi2, List.getElem?_eq_getElem hi]
    simpa using h
  · rw [List.getElem?_eq_none (by rw [ofS_length]; simpa using hi), List.getElem?_eq_none hi]
theorem may_packS (l : List Int) (hl : IsBits l) (h : l.length ≤ 6000) : MayP (packS l) (l.length : Int) := by
  refine ⟨by omega, by omega, by rw [packS_size]; omega, ?_⟩
  rcases Nat.eq_zero_or_pos (l.length % 8) with h8 | h8
  · exact .inl (by omega)
  · refine .inr ?_
    have hj : ((packS l).size : Int) - 1 = ((l.length / 8 : Nat) : Int) := by rw [packS_size]; omega
    rw [hj, bt_packS l hl _ (by omega)]
    have := (byteAt_snoc_new l 0).2
    rw [show (8 - (l.length : Int) % 8).toNat = 7 - l.length % 8 + 1 by omega]
    exact this
/-- Bits that may be are their list's. -/
theorem canon (s : ByteArray) (n : Int) (h : MayP s n) : s = packS (ofS s n) ∧ n = ((ofS s n).length : Int) ∧ IsBits (ofS s n) ∧ (ofS s n).length ≤ 6000 := by
  refine ⟨(packS_ofS s n h).symm, by rw [ofS_length]; have := h.1; omega, ofS_bits s n, by rw [ofS_length]; have := h.2.1; omega⟩
/-! ### numbers out of bits -/
def numL (l : List Int) : Int := l.foldl (fun v b => 2 * v + b) 0
theorem numL_snoc (l : List Int) (b : Int) : numL (l ++ [b]) = 2 * numL l + b := by simp [numL]
theorem numL_from (l : List Int) : ∀ v : Int, l.foldl (fun v b => 2 * v + b) v = v * 2 ^ l.length + numL l := by
  induction l with
  | nil => intro v; simp [numL]
  | cons a r ih =>
    intro v
    have h0 := ih (2 * v + a)
    have h1 : numL (a :: r) = a * 2 ^ r.length + numL r := by
      have := ih a
      simp only [numL, List.foldl_cons] at this ⊢
      simpa using this
    simp only [List.foldl_cons, List.length_cons]
    rw [h0, h1, Int.pow_succ]
    rw [Int.add_mul]
    have e : 2 * v * 2 ^ r.length = v * (2 ^ r.length * 2) := by rw [Int.mul_comm 2 v, Int.mul_assoc, Int.mul_comm 2]
    rw [e]
    omega
theorem numL_cons (a : Int) (r : List Int) : numL (a :: r) = a * 2 ^ r.length + numL r := by
  have := numL_from r a
  simp only [numL, List.foldl_cons] at this ⊢
  simpa using this
theorem numL_range {l : List Int} (h : IsBits l) : 0 ≤ numL l ∧ numL l < 2 ^ l.length := by
  induction l with
  | nil => simp [numL]
  | cons a r ih =>
    have hr := ih (fun x hx => h x (List.mem_cons_of_mem _ hx))
    have ha := h a (List.mem_cons_self)
    have hp : (0 : Int) < 2 ^ r.length := Int.pow_pos (by decide)
    rw [numL_cons, List.length_cons, Int.pow_succ]
    rcases ha with rfl | rfl <;> omega
/-! ### bits.Look, bits.Get -/
theorem or_step (v b : Int) (h0 : 0 ≤ v) (h1 : v < 2 ^ 61) (hb : b = 0 ∨ b = 1) : Go.bits .or .i64 (wrap64 (v * 2)) b = 2 * v + b := by
  rw [wrap_in _ (by omega) (by omega), bits_join .i64 63 (by decide) wraps_i64 1 (v * 2) b (by omega) (by simp) (by omega) (by omega) (by simp; omega) (by omega)]
  omega
theorem look_loop (l : List Int) (hl : IsBits l) (hlen : l.length ≤ 1000000) (n : Int) (a w : Nat) (haw : a + w ≤ l.length) (hw : w ≤ 61) (d : Nat) : ∀ (k i : Nat), i + d = w → d < k →
    bits_Look.l0 k (a : Int) (numL ((l.drop a).take i)) (w : Int) (i : Int) (packS l) n = some (numL ((l.drop a).take w), true) := by
  induction d with
  | zero =>
    intro k i hi hk
    obtain ⟨k, rfl⟩ : ∃ m, k = m + 1 := ⟨k - 1, by omega⟩
    obtain rfl : i = w := by omega
    simp only [bits_Look.l0]
    rw [if_neg (by omega)]
  | succ d ih =>
    intro k i hi hk
    obtain ⟨k, rfl⟩ : ∃ m, k = m + 1 := ⟨k - 1, by omega⟩
    simp only [bits_Look.l0]
    rw [if_pos (by omega)]
    have hw1 : wrap64 ((a : Int) + (i : Int)) = ((a + i : Nat) : Int) := by rw [wrap_in _ (by omega) (by omega)]; omega
    have hsz := packS_size l
    rw [hw1, bit_some _ _ _ (by omega) (by omega) (by omega), bitOf_packS l hl (a + i) (by omega), Option.bind_some]
    have hib : IsBits ((l.drop a).take i) := fun x hx => hl x (List.mem_of_mem_drop (List.mem_of_mem_take hx))
    have hr := numL_range hib
    have hlt : (l.drop a).length = l.length - a := List.length_drop ..
    have hlen2 : ((l.drop a).take i).length = i := by rw [List.length_take, hlt]; omega
    rw [hlen2] at hr
    have hp : (2 : Int) ^ i ≤ 2 ^ 60 := by have := Nat.pow_le_pow_right (n := 2) (by decide) (show i ≤ 60 by omega); exact_mod_cast this
    have h60 : (2 : Int) ^ 60 < 2 ^ 61 := by decide
    have hb := hl.getD (a + i)
    rw [or_step _ _ hr.1 (by omega) hb]
    have hsn : (l.drop a).take (i + 1) = (l.drop a).take i ++ [l.getD (a + i) 0] := by
      rw [List.take_succ_eq_append_getElem (by rw [hlt]; omega), List.getElem_drop, List.getD_eq_getElem?_getD, List.getElem?_eq_getElem (by omega)]
      rfl
    rw [← numL_snoc, ← hsn, wrap_in _ (by omega) (by omega)]
    have := ih k (i + 1) (by omega) (by omega)
    rw [show ((i + 1 : Nat) : Int) = (i : Int) + 1 by omega] at this
    exact this
theorem look_yes (l : List Int) (hl : IsBits l) (hlen : l.length ≤ 1000000) (a w : Nat) (haw : a + w ≤ l.length) (hw : w ≤ 61) (k : Nat) (hk : w + 1 < k) :
    bits_Look.f k (packS l) (l.length : Int) (a : Int) (w : Int) = some (numL ((l.drop a).take w), true) := by
  obtain ⟨k, rfl⟩ : ∃ m, k = m + 1 := ⟨k - 1, by omega⟩
  unfold bits_Look.f
  rw [if_neg (by omega)]
  have hd : decide ((w : Int) > wrap64 ((l.length : Int) - (a : Int))) = false := by
    rw [wrap_in _ (by omega) (by omega)]
    simp
    omega
  rw [hd]
  simp only [bits_Look.j0]
  rw [if_neg (by decide)]
  exact look_loop l hl hlen _ a w haw hw w k 0 (by omega) (by omega)
theorem look_no (s : ByteArray) (n a w : Int) (hn : 0 ≤ n ∧ n ≤ 1000000) (ha : 0 ≤ a) (hw0 : 0 ≤ w) (h : n < a + w) (k : Nat) (hk : 0 < k) : bits_Look.f k s n a w = some (0, false) := by
  obtain ⟨k, rfl⟩ : ∃ m, k = m + 1 := ⟨k - 1, by omega⟩
  unfold bits_Look.f
  by_cases h1 : a > n
  · rw [if_pos h1]
    simp only [bits_Look.j0]
    rw [if_pos trivial]
  · rw [if_neg h1]
    have hd : decide (w > wrap64 (n - a)) = true := by
      rw [wrap_in _ (by omega) (by omega)]
      simp
      omega
    rw [hd]
    simp only [bits_Look.j0]
    rw [if_pos trivial]
/-! ### bits.Put -/
/-! ### slices of lists -/
end Go.Proofs.Ytnpghcikhpglkaa.Pb
namespace Go.Proofs.Ytnpghcikhpglkaa.Pb
open Go.RowKit Go.Proofs.YtnpghcikhpglkaaW.PrintWords Go.Proofs.YtnpghcikhpglkaaW.PrintLast Go.Proofs.YtnpghcikhpglkaaW.PrintMore Go.Proofs.Ytnpghcikhpglkaa.Hand Go.Proofs.Ytnpghcikhpglkaa.Pu Go.Proofs.Ytnpghcikhpglkaa.Q
set_option linter.unusedVariables false
set_option linter.unusedSimpArgs false
/-- How many bits 0 stand ahead of the first 1; -1: there is no 1. -/
def zerosL : List Int → Int
  | [] => -1
  | b :: r => if b = 1 then 0 else if zerosL r < 0 then -1 else zerosL r + 1
theorem zerosL_range (l : List Int) : -1 ≤ zerosL l ∧ zerosL l < (l.length : Int) := by
  induction l with
  | nil => simp [zerosL]
  | cons b r ih =>
    simp only [zerosL, List.length_cons]
    split
    · omega
    · split <;> omega
/-- What stands there. -/
theorem zerosL_split (l : List Int) (h : 0 ≤ zerosL l) (hb : IsBits l) : ∃ r, l = List.replicate (zerosL l).toNat 0 ++ 1 :: r := by
  induction l with
  | nil => simp [zerosL] at h
  | cons b r ih =>
    have hbb := hb b List.mem_cons_self
    simp only [zerosL] at h ⊢
    by_cases h1 : b = 1
    · rw [if_pos h1]
      exact ⟨r, by simp [h1]⟩
    · rw [if_neg h1] at h ⊢
      by_cases h2 : zerosL r < 0
      · rw [if_pos h2] at h; omega
      · rw [if_neg h2]
        obtain ⟨q, hq⟩ := ih (by omega) (fun x hx => hb x (List.mem_cons_of_mem _ hx))
        refine ⟨q, ?_⟩
        have hb0 : b = 0 := by omega
        have : (zerosL r + 1).toNat = (zerosL r).toNat + 1 := by omega
        rw [this, List.replicate_succ, List.cons_append, hb0, ← hq]
theorem ahead_loop (l : List Int) (hl : IsBits l) (hlen : l.length ≤ 1000000) (x : Int) (hx : 0 ≤ x) (d : Nat) : ∀ (k i : Nat), i + d = l.length → d < k → x ≤ i →
    bits_Ahead.l0 k x (i : Int) (packS l) (l.length : Int) = some (if zerosL (l.drop i) < 0 then -1 else (i : Int) + zerosL (l.drop i) - x) := by
  induction d with
  | zero =>
    intro k i hi hk hxi
    obtain ⟨k, rfl⟩ : ∃ m, k = m + 1 := ⟨k - 1, by omega⟩
    simp only [bits_Ahead.l0]
    rw [if_neg (by omega), List.drop_eq_nil_of_le (by omega)]
    rfl
  | succ d ih =>
    intro k i hi hk hxi
    obtain ⟨k, rfl⟩ : ∃ m, k = m + 1 := ⟨k - 1, by omega⟩
    have hsz := packS_size l
    have hb := bit_some (packS l) (l.length : Int) (i : Int) (by omega) (by omega) (by omega)
    rw [bitOf_packS l hl i (by omega)] at hb
    have hd : l.drop i = l.getD i 0 :: l.drop (i + 1) := by
      rw [List.drop_eq_getElem_cons (by omega), List.getD_eq_getElem?_getD, List.getElem?_eq_getElem (by omega)]
      rfl
    have hz := zerosL_range (l.drop (i + 1))
    simp only [bits_Ahead.l0]
    rw [if_pos (by omega), hb, Option.bind_some, hd]
    by_cases h1 : l.getD i 0 = 1
    · have hc : zerosL (l.getD i 0 :: l.drop (i + 1)) = 0 := by simp only [zerosL]; rw [if_pos h1]
      rw [if_pos h1, hc, wrap_in _ (by omega) (by omega), if_neg (by omega)]
      simp
    · rw [if_neg h1, wrap_in _ (by omega) (by omega)]
      have := ih k (i + 1) (by omega) (by omega) (by omega)
      rw [show ((i + 1 : Nat) : Int) = (i : Int) + 1 by omega] at this
      rw [this]
      by_cases h2 : zerosL (l.drop (i + 1)) < 0
      · have hc : zerosL (l.getD i 0 :: l.drop (i + 1)) = -1 := by simp only [zerosL]; rw [if_neg h1, if_pos h2]
        rw [if_pos h2, hc, if_pos (by omega)]
      · have hc : zerosL (l.getD i 0 :: l.drop (i + 1)) = zerosL (l.drop (i + 1)) + 1 := by simp only [zerosL]; rw [if_neg h1, if_neg h2]
        rw [if_neg h2, hc, if_neg (by omega)]
        congr 1
        omega
theorem ahead_eq (l : List Int) (hl : IsBits l) (hlen : l.length ≤ 1000000) (a : Nat) (ha : a ≤ l.length) (k : Nat) (hk : l.length < k) : bits_Ahead.f k (packS l) (l.length : Int) (a : Int) = some (zerosL (l.drop a)) := by
  have h := ahead_loop l hl hlen (a : Int) (by omega) (l.length - a) k a (by omega) (by omega) (Int.le_refl _)
  have hz := zerosL_range (l.drop a)
  unfold bits_Ahead.f
  rw [h]
  congr 1
  split <;> omega
end Go.Proofs.Ytnpghcikhpglkaa.Pb
namespace Go.Proofs.Ytnpghcikhpglkaa.Q
open Go.RowKit Go.Proofs.YtnpghcikhpglkaaW.PrintWords Go.Proofs.YtnpghcikhpglkaaW.PrintLast Go.Proofs.YtnpghcikhpglkaaW.PrintMore Go.Proofs.Ytnpghcikhpglkaa.Hand Go.Proofs.Ytnpghcikhpglkaa.Pu
set_option linter.unusedVariables false
set_option linter.unusedSimpArgs false
def ztGood (kk h : Nat) (q : Int × Int × Int × Int) : Bool :=
  q.1 == ((2 ^ (h * kk) : Nat) : Int) && (q.2.1 == ((2 ^ (h * kk + kk) : Nat) : Int) - ((2 ^ (h * kk) : Nat) : Int) && (Nat.ble 1 q.2.2.1.toNat && (Nat.ble q.2.2.1.toNat 40 && (q.2.2.1 == (q.2.2.1.toNat : Int) && (q.2.2.2 == ((2 ^ q.2.2.1.toNat : Nat) : Int) - q.2.1 && (q.2.2.2 == (q.2.2.2.toNat : Int) && Nat.ble q.2.2.2.toNat 2147483648))))))
def ztOk (kk : Nat) (h : Nat) : Bool := (code_zeta.f (kk : Int) (h : Int)).any (ztGood kk h)
theorem zt2 : ∀ h : Fin 16, ztOk 2 h.val = true := by decide +kernel
theorem zt3 : ∀ h : Fin 11, ztOk 3 h.val = true := by decide +kernel
theorem zt_facts {kk h : Nat} (ho : ztOk kk h = true) : ∃ low many size short : Int, code_zeta.f (kk : Int) (h : Int) = some (low, many, size, short) ∧ low = ((2 ^ (h * kk) : Nat) : Int) ∧ many = ((2 ^ (h * kk + kk) : Nat) : Int) - ((2 ^ (h * kk) : Nat) : Int) ∧ 1 ≤ size ∧ size ≤ 40 ∧ 0 ≤ short ∧ short = ((2 ^ size.toNat : Nat) : Int) - many ∧ short ≤ 2147483648 := by
  unfold ztOk at ho
  generalize code_zeta.f (kk : Int) (h : Int) = o at ho
  cases o with
  | none => cases ho
  | some q =>
    obtain ⟨low, many, size, short⟩ := q
    refine ⟨low, many, size, short, rfl, ?_⟩
    have hg : ztGood kk h (low, many, size, short) = true := ho
    clear ho
    unfold ztGood at hg
    simp only [Bool.and_eq_true, beq_iff_eq, Nat.ble_eq] at hg
    obtain ⟨h1, h2, h3, h4, h5, h6, h7, h8⟩ := hg
    exact ⟨h1, h2, by omega, by omega, by omega, h6, by omega⟩
def zetaL (kk n : Int) : List Int := match code_zeta.f kk (Int.tdiv (lg n) kk) with
  | some (low, _, size, short) => unaryL (Int.tdiv (lg n) kk + 1) ++ (if n - low < short then putL (size - 1).toNat (n - low) else putL size.toNat (n - low + short))
  | none => []
/-- A number's code. -/
def layL (kind n : Int) : List Int := if kind = 1 then unaryL n else if kind = 2 then gammaL n else if kind = 3 then deltaL n else if kind = 4 then zetaL 2 n else zetaL 3 n
theorem low_le {n : Int} {h kk : Nat} (h0 : 1 ≤ n) (h1 : n ≤ 1073741824) (hh : (h : Int) = lg n / (kk : Int)) (hk : 1 ≤ kk) : ((2 ^ (h * kk) : Nat) : Int) ≤ n := by
  obtain ⟨_, g0, g1, g2, g3⟩ := lg_facts n h0 h1
  obtain ⟨g, hg⟩ := Int.eq_ofNat_of_zero_le g0
  rw [hg] at hh g2
  rw [Int.toNat_natCast] at g2
  have hh' : h = g / kk := by exact_mod_cast hh
  have hle : h * kk ≤ g := by rw [hh']; exact Nat.div_mul_le_self g kk
  have := Nat.pow_le_pow_right (n := 2) (by decide) hle
  have h2 : ((2 ^ (h * kk) : Nat) : Int) ≤ ((2 ^ g : Nat) : Int) := by exact_mod_cast this
  have h3 : (((2 : Nat) ^ g : Nat) : Int) = (2 : Int) ^ g := Int.natCast_pow 2 g
  rw [h3] at h2
  exact Int.le_trans h2 g2
theorem lay_p (kind n : Int) (hk : code_Is.f kind = some true) (hn : code_number.f kind n = some true) : LayP kind n (layL kind n) := by
  have hk1 : 1 ≤ kind ∧ kind ≤ 5 := by
    unfold code_Is.f at hk
    split at hk
    · simp only [Option.some.injEq, decide_eq_true_eq] at hk; omega
    · simp at hk
  have hn1 : 1 ≤ n ∧ n ≤ 1073741824 ∧ (kind = 1 → n ≤ 1000) := by
    unfold code_number.f at hn
    split at hn
    · split at hn
      · simp only [Option.some.injEq, decide_eq_true_eq] at hn; omega
      · simp at hn
    · split at hn
      · simp only [Option.some.injEq, decide_eq_true_eq] at hn; omega
      · simp at hn
  obtain ⟨hn0, hn2, hn3⟩ := hn1
  obtain ⟨hlog, g0, g1, g2, g3⟩ := lg_facts n hn0 hn2
  intro W base p l hrow hl hbase
  have hkk : kind = 1 ∨ kind = 2 ∨ kind = 3 ∨ kind = 4 ∨ kind = 5 := by omega
  rcases hkk with rfl | rfl | rfl | rfl | rfl
  · exact lay_unary W base p l n hrow hn0 (hn3 rfl) (by omega) hbase
  · exact lay_gamma W base p l n hrow hn0 hn2 (by omega) hbase
  · exact lay_delta W base p l n hrow hn0 hn2 (by omega) hbase
  · obtain ⟨h, hh⟩ := Int.eq_ofNat_of_zero_le (show 0 ≤ lg n / 2 by omega)
    have ht : Int.tdiv (lg n) 2 = (h : Int) := by rw [Int.tdiv_eq_ediv_of_nonneg g0]; exact hh
    obtain ⟨low, many, size, short, e, e1, e2, e3, e4, e5, e6, e7⟩ := zt_facts (zt2 ⟨h, by omega⟩)
    simp only at e e1
    have hlow : low ≤ n := by rw [e1]; exact low_le hn0 hn2 hh.symm (by omega)
    have hp : 0 < 2 ^ (h * 2) := Nat.pow_pos (by decide)
    have e' : code_zeta.f 2 (Int.tdiv (lg n) 2) = some (low, many, size, short) := by rw [ht]; exact e
    exact lay_zeta2 W base p l n (lg n) low many size short (layL 4 n) hrow hn0 hn2 (by omega) hbase hlog g0 g1 e' (by omega) hlow e3 (by omega) e5 (by omega) (by unfold layL zetaL; rw [if_neg (by decide), if_neg (by decide), if_neg (by decide), if_pos rfl, e'])
  · obtain ⟨h, hh⟩ := Int.eq_ofNat_of_zero_le (show 0 ≤ lg n / 3 by omega)
    have ht : Int.tdiv (lg n) 3 = (h : Int) := by rw [Int.tdiv_eq_ediv_of_nonneg g0]; exact hh
    obtain ⟨low, many, size, short, e, e1, e2, e3, e4, e5, e6, e7⟩ := zt_facts (zt3 ⟨h, by omega⟩)
    simp only at e e1
    have hlow : low ≤ n := by rw [e1]; exact low_le hn0 hn2 hh.symm (by omega)
    have hp : 0 < 2 ^ (h * 3) := Nat.pow_pos (by decide)
    have e' : code_zeta.f 3 (Int.tdiv (lg n) 3) = some (low, many, size, short) := by rw [ht]; exact e
    exact lay_zeta3 W base p l n (lg n) low many size short (layL 5 n) hrow hn0 hn2 (by omega) hbase hlog g0 g1 e' (by omega) hlow e3 (by omega) e5 (by omega) (by unfold layL zetaL; rw [if_neg (by decide), if_neg (by decide), if_neg (by decide), if_neg (by decide), e'])
/-- code.Put. -/
def code_Put.f (s : ByteArray) (n kind v : Int) : Option (ByteArray × Int × Int) :=
  if MayP s n then (code_Is.f kind).bind fun i => if i = true then (code_number.f kind v).bind fun m => if m = true then
    (if ((ofS s n ++ layL kind v).length : Int) ≤ 6000 then some (packS (ofS s n ++ layL kind v), ((ofS s n ++ layL kind v).length : Int), 0) else some (⟨#[]⟩, 0, 2)) else some (⟨#[]⟩, 0, 1) else some (⟨#[]⟩, 0, 1)
  else some (⟨#[]⟩, 0, 1)
theorem code_Put.calls (s : ByteArray) (n kind v : Int) (r1 : ByteArray) (r2 r3 : Int) (w : World) (h : code_Put.f s n kind v = some (r1, r2, r3)) :
    Calls Try.prog 58 #[.agg #[.string s, .int .i64 n], .int .i64 kind, .int .i64 v] w fun e w' => e = .returned (.tuple #[.agg #[.string r1, .int .i64 r2], .int .i64 r3]) ∧ Below w.heap.size w w' := by
  unfold code_Put.f at h
  split at h
  · rename_i hm
    obtain ⟨i, hi, h⟩ := Option.bind_eq_some_iff.1 h
    cases i with
    | false =>
      rw [if_neg (by simp)] at h
      simp only [Option.some.injEq, Prod.mk.injEq] at h
      obtain ⟨rfl, rfl, rfl⟩ := h
      exact cput_no2 s n kind v w hm hi
    | true =>
      rw [if_pos rfl] at h
      obtain ⟨m, hv, h⟩ := Option.bind_eq_some_iff.1 h
      cases m with
      | false =>
        rw [if_neg (by simp)] at h
        simp only [Option.some.injEq, Prod.mk.injEq] at h
        obtain ⟨rfl, rfl, rfl⟩ := h
        exact cput_no3 s n kind v w hm hi hv
      | true =>
        rw [if_pos rfl] at h
        split at h
        · rename_i hle
          simp only [Option.some.injEq, Prod.mk.injEq] at h
          obtain ⟨rfl, rfl, rfl⟩ := h
          exact cput_yes s n kind v (layL kind v) _ w rfl hm hi hv (lay_p kind v hi hv) hle
        · rename_i hle
          simp only [Option.some.injEq, Prod.mk.injEq] at h
          obtain ⟨rfl, rfl, rfl⟩ := h
          exact cput_no s n kind v (layL kind v) _ w rfl hm hi hv (lay_p kind v hi hv) (by omega)
  · rename_i hm
    simp only [Option.some.injEq, Prod.mk.injEq] at h
    obtain ⟨rfl, rfl, rfl⟩ := h
    exact cput_no1 s n kind v w hm
/-- code.Size. -/
def code_Size.f (kind v : Int) : Option (Int × Int) :=
  (code_Is.f kind).bind fun i => if i = true then (code_number.f kind v).bind fun m => if m = true then some (((layL kind v).length : Int), 0) else some (0, 1) else some (0, 1)
theorem code_Size.calls (kind v r1 r2 : Int) (w : World) (h : code_Size.f kind v = some (r1, r2)) :
    Calls Try.prog 64 #[.int .i64 kind, .int .i64 v] w fun e w' => e = .returned (.tuple #[.int .i64 r1, .int .i64 r2]) ∧ Below w.heap.size w w' := by
  unfold code_Size.f at h
  obtain ⟨i, hi, h⟩ := Option.bind_eq_some_iff.1 h
  cases i with
  | false =>
    rw [if_neg (by simp)] at h
    simp only [Option.some.injEq, Prod.mk.injEq] at h
    obtain ⟨rfl, rfl⟩ := h
    exact csize_no1 kind v w hi
  | true =>
    rw [if_pos rfl] at h
    obtain ⟨m, hv, h⟩ := Option.bind_eq_some_iff.1 h
    cases m with
    | false =>
      rw [if_neg (by simp)] at h
      simp only [Option.some.injEq, Prod.mk.injEq] at h
      obtain ⟨rfl, rfl⟩ := h
      exact csize_no2 kind v w hi hv
    | true =>
      rw [if_pos rfl] at h
      simp only [Option.some.injEq, Prod.mk.injEq] at h
      obtain ⟨rfl, rfl⟩ := h
      exact csize_yes kind v (layL kind v) _ w (by rw [List.nil_append]) hi hv (lay_p kind v hi hv)
end Go.Proofs.Ytnpghcikhpglkaa.Q
namespace Go.Proofs.Ytnpghcikhpglkaa.Pb
open Go.RowKit Go.Proofs.YtnpghcikhpglkaaW.PrintWords Go.Proofs.YtnpghcikhpglkaaW.PrintLast Go.Proofs.YtnpghcikhpglkaaW.PrintMore Go.Proofs.Ytnpghcikhpglkaa.Hand Go.Proofs.Ytnpghcikhpglkaa.Pu Go.Proofs.Ytnpghcikhpglkaa.Q
set_option linter.unusedVariables false
set_option linter.unusedSimpArgs false
theorem rd_zeros_eq (l : List Int) (hl : IsBits l) (hlen : l.length ≤ 6000) (a : Nat) (ha : a ≤ l.length) (most : Int) (k : Nat) (hk : 7000 ≤ k) : rd_zeros k (packS l) (l.length : Int) (a : Int) false most =
    some (if 0 ≤ zerosL (l.drop a) ∧ zerosL (l.drop a) ≤ most then (zerosL (l.drop a), (a : Int) + zerosL (l.drop a), false) else (0, (a : Int), true)) := by
  have hr := zerosL_range (l.drop a)
  rw [List.length_drop] at hr
  unfold rd_zeros
  rw [ahead_eq l hl (by omega) a ha k (by omega), Option.bind_some, if_neg (by decide)]
  generalize zerosL (l.drop a) = z at *
  by_cases h1 : z < 0
  · rw [if_pos h1, if_neg (fun h => by omega)]
  · rw [if_neg h1]
    by_cases h2 : most < z
    · rw [if_pos h2, if_neg (fun h => by omega)]
    · rw [if_neg h2, if_pos ⟨by omega, by omega⟩, wrap_in _ (by omega) (by omega)]
theorem look_some (l : List Int) (hl : IsBits l) (hlen : l.length ≤ 6000) (a w : Nat) (hw : w ≤ 61) (k : Nat) (hk : 7000 ≤ k) : bits_Look.f k (packS l) (l.length : Int) (a : Int) (w : Int) = if a + w ≤ l.length then some (numL ((l.drop a).take w), true) else some (0, false) := by
  by_cases h : a + w ≤ l.length
  · rw [if_pos h]
    exact look_yes l hl (by omega) a w h hw k (by omega)
  · rw [if_neg h]
    exact look_no (packS l) (l.length : Int) (a : Int) (w : Int) (by omega) (by omega) (by omega) (by omega) k (by omega)
theorem rd_look_bad (l : List Int) (hl : IsBits l) (hlen : l.length ≤ 6000) (a w : Nat) (hw : w ≤ 61) (k : Nat) (hk : 7000 ≤ k) : rd_look k (packS l) (l.length : Int) (a : Int) true (w : Int) = some (0, (a : Int), true) := by
  unfold rd_look
  rw [look_some l hl hlen a w hw k hk]
  split <;> (rw [Option.bind_some, if_pos rfl])
theorem rd_look_eq (l : List Int) (hl : IsBits l) (hlen : l.length ≤ 6000) (a w : Nat) (hw : w ≤ 61) (k : Nat) (hk : 7000 ≤ k) : rd_look k (packS l) (l.length : Int) (a : Int) false (w : Int) =
    some (if a + w ≤ l.length then (numL ((l.drop a).take w), ((a + w : Nat) : Int), false) else (0, (a : Int), true)) := by
  unfold rd_look
  rw [look_some l hl hlen a w hw k hk]
  by_cases h : a + w ≤ l.length
  · rw [if_pos h, if_pos h, Option.bind_some, if_neg (by decide), if_pos rfl, wrap_in _ (by omega) (by omega)]
    rfl
  · rw [if_neg h, if_neg h, Option.bind_some, if_neg (by decide), if_neg (by simp)]
/-- The rest's first code, as a number and how many bits it takes. -/
def unaryR (most : Int) (r : List Int) : Option (Int × Nat) := if 0 ≤ zerosL r ∧ zerosL r ≤ most - 1 then some (zerosL r + 1, (zerosL r).toNat + 1) else none
def gammaR (r : List Int) : Option (Int × Nat) :=
  if 0 ≤ zerosL r ∧ zerosL r ≤ 30 ∧ 2 * (zerosL r).toNat + 1 ≤ r.length then some (numL ((r.drop (zerosL r).toNat).take ((zerosL r).toNat + 1)), 2 * (zerosL r).toNat + 1) else none
/-- What the reader has: good, it stands behind the code; bad. -/
def Got (o : Option (Int × Int × Bool)) (a : Nat) (q : Option (Int × Nat)) : Prop := match q with
  | some (v, c) => o = some (v, ((a + c : Nat) : Int), false)
  | none => ∃ (v : Int) (a' : Nat), o = some (v, (a' : Int), true)
theorem unary_got (l : List Int) (hl : IsBits l) (hlen : l.length ≤ 6000) (a : Nat) (ha : a ≤ l.length) (most : Int) (hm0 : 1 ≤ most) (hm1 : most ≤ 10000) (k : Nat) (hk : 7000 ≤ k) : Got (rd_unary k (packS l) (l.length : Int) (a : Int) false most) a (unaryR most (l.drop a)) := by
  have hr := zerosL_range (l.drop a)
  rw [List.length_drop] at hr
  unfold rd_unary
  rw [if_pos ⟨hm0, hm1⟩, rd_zeros_eq l hl hlen a ha _ k hk, Option.bind_some]
  unfold unaryR
  generalize zerosL (l.drop a) = z at *
  by_cases h : 0 ≤ z ∧ z ≤ most - 1
  · rw [if_pos h, if_pos h]
    simp only [Got]
    obtain ⟨z, rfl⟩ := Int.eq_ofNat_of_zero_le h.1
    have e := rd_look_eq l hl hlen (a + z) 1 (by omega) k hk
    rw [if_pos (by omega)] at e
    have e' : rd_look k (packS l) (l.length : Int) ((a : Int) + (z : Int)) false 1 = _ := e
    rw [if_pos ⟨by omega, by omega⟩, e', Option.bind_some, Int.toNat_natCast]
    rfl
  · rw [if_neg h, if_neg h]
    simp only [Got]
    have e := rd_look_bad l hl hlen a 1 (by omega) k hk
    have e' : rd_look k (packS l) (l.length : Int) (a : Int) true 1 = _ := e
    rw [if_pos ⟨by omega, by omega⟩, e', Option.bind_some]
    exact ⟨_, a, rfl⟩
theorem gamma_got (l : List Int) (hl : IsBits l) (hlen : l.length ≤ 6000) (a : Nat) (ha : a ≤ l.length) (k : Nat) (hk : 7000 ≤ k) : Got (rd_gamma k (packS l) (l.length : Int) (a : Int) false) a (gammaR (l.drop a)) := by
  have hr := zerosL_range (l.drop a)
  unfold rd_gamma
  rw [rd_zeros_eq l hl hlen a ha _ k hk, Option.bind_some]
  unfold gammaR
  have hd : ∀ z : Nat, (l.drop a).drop z = l.drop (a + z) := fun z => by rw [List.drop_drop]
  rw [hd, List.length_drop]
  rw [List.length_drop] at hr
  generalize zerosL (l.drop a) = z at *
  by_cases h : 0 ≤ z ∧ z ≤ 30
  · rw [if_pos h]
    obtain ⟨z, rfl⟩ := Int.eq_ofNat_of_zero_le h.1
    have e := rd_look_eq l hl hlen (a + z) (z + 1) (by omega) k hk
    have e' : rd_look k (packS l) (l.length : Int) ((a : Int) + (z : Int)) false ((z : Int) + 1) = _ := e
    simp only [Int.toNat_natCast]
    rw [if_pos ⟨by omega, by omega⟩, e']
    by_cases h2 : 2 * z + 1 ≤ l.length - a
    · rw [if_pos (show a + z + (z + 1) ≤ l.length by omega), if_pos ⟨h.1, h.2, h2⟩]
      simp only [Got]
      rw [show a + z + (z + 1) = a + (2 * z + 1) by omega]
    · rw [if_neg (show ¬ (a + z + (z + 1) ≤ l.length) by omega), if_neg (fun h => h2 h.2.2)]
      exact ⟨_, a + z, rfl⟩
  · have hn : ¬ (0 ≤ z ∧ z ≤ 30 ∧ 2 * z.toNat + 1 ≤ l.length - a) := fun h2 => h ⟨h2.1, h2.2.1⟩
    rw [if_neg h, if_neg hn]
    have e := rd_look_bad l hl hlen a 1 (by omega) k hk
    have e' : rd_look k (packS l) (l.length : Int) (a : Int) true (0 + 1) = _ := e
    rw [if_pos ⟨by omega, by omega⟩, e']
    exact ⟨_, a, rfl⟩
theorem IsBits.drop' {l : List Int} (h : IsBits l) (n : Nat) : IsBits (l.drop n) := fun x hx => h x (List.mem_of_mem_drop hx)
theorem IsBits.take' {l : List Int} (h : IsBits l) (n : Nat) : IsBits (l.take n) := fun x hx => h x (List.mem_of_mem_take hx)
theorem gamma_facts (r : List Int) (hr : IsBits r) (g : Int) (c : Nat) (h : gammaR r = some (g, c)) : 1 ≤ g ∧ g < 2147483648 ∧ c ≤ r.length := by
  unfold gammaR at h
  split at h
  · rename_i hc
    simp only [Option.some.injEq, Prod.mk.injEq] at h
    obtain ⟨rfl, rfl⟩ := h
    obtain ⟨q, hq⟩ := zerosL_split r hc.1 hr
    generalize hz : (zerosL r).toNat = z at *
    have hz30 : z ≤ 30 := by omega
    have e1 : r.drop z = 1 :: q := by
      rw [hq, List.drop_append_of_le_length (by simp), List.drop_of_length_le (by simp), List.nil_append]
    have hqb : IsBits q := fun x hx => hr x (by rw [hq]; simp [hx])
    rw [e1, List.take_succ_cons, numL_cons]
    have hb := numL_range (IsBits.take' hqb z)
    have hl : (q.take z).length ≤ z := by rw [List.length_take]; omega
    generalize (q.take z).length = m at *
    have hm := Nat.pow_le_pow_right (n := 2) (by decide) (show m ≤ 30 by omega)
    have hm1 : ((2 ^ m : Nat) : Int) ≤ ((2 ^ 30 : Nat) : Int) := by exact_mod_cast hm
    have hm0 : 0 < 2 ^ m := Nat.pow_pos (by decide)
    have hcast : ((2 ^ m : Nat) : Int) = (2 : Int) ^ m := Int.natCast_pow 2 m
    rw [← hcast] at hb ⊢
    refine ⟨by omega, by omega, by omega⟩
  · cases h
def deltaR (r : List Int) : Option (Int × Nat) := (gammaR r).bind fun q =>
  if q.1 - 1 ≤ 30 ∧ q.2 + (q.1 - 1).toNat ≤ r.length then some (2 ^ (q.1 - 1).toNat + numL ((r.drop q.2).take (q.1 - 1).toNat), q.2 + (q.1 - 1).toNat) else none
theorem or_high (m : Nat) (hm : m ≤ 30) (v : Int) (h0 : 0 ≤ v) (h1 : v < 2 ^ m) : Go.bits .or .i64 (IntKind.i64.wrap (2 ^ m)) v = 2 ^ m + v := by
  have hp := pow_le30 (m : Int) (by omega) (by omega)
  rw [Int.toNat_natCast] at hp
  have hw : IntKind.i64.wrap (2 ^ m) = 2 ^ m := wraps_i64 _ (by omega) (by omega)
  rw [hw, bits_join .i64 63 (by decide) wraps_i64 m (2 ^ m) v (by omega) (Int.emod_self) (by omega) h0 h1 (by omega)]
theorem delta_got (l : List Int) (hl : IsBits l) (hlen : l.length ≤ 6000) (a : Nat) (ha : a ≤ l.length) (k : Nat) (hk : 7000 ≤ k) : Got (rd_delta k (packS l) (l.length : Int) (a : Int) false) a (deltaR (l.drop a)) := by
  have hg := gamma_got l hl hlen a ha k hk
  unfold rd_delta deltaR
  cases hgr : gammaR (l.drop a) with
  | none =>
    rw [hgr] at hg
    obtain ⟨v, a', e⟩ := hg
    rw [e, Option.bind_some, if_pos rfl, Option.bind_none]
    exact ⟨_, a', rfl⟩
  | some q =>
    obtain ⟨g, c⟩ := q
    rw [hgr] at hg
    simp only [Got] at hg
    obtain ⟨g1, g2, g3⟩ := gamma_facts _ (IsBits.drop' hl a) g c hgr
    rw [List.length_drop] at g3
    rw [hg, Option.bind_some, if_neg (by simp), Option.bind_some]
    simp only
    by_cases h30 : 30 < g - 1
    · rw [if_pos h30, if_pos (by omega), if_neg (fun h => by omega)]
      exact ⟨_, a + c, rfl⟩
    · rw [if_neg h30, if_pos (by omega)]
      obtain ⟨m, hm⟩ := Int.eq_ofNat_of_zero_le (show 0 ≤ g - 1 by omega)
      have hgn : g.toNat - 1 = m := by omega
      rw [hm, hgn, Int.toNat_natCast, List.drop_drop, List.length_drop]
      have e := rd_look_eq l hl hlen (a + c) m (by omega) k hk
      rw [e, Option.bind_some]
      by_cases h2 : a + c + m ≤ l.length
      · rw [if_pos h2, if_pos ⟨by omega, by omega⟩]
        have hb := numL_range (IsBits.take' (IsBits.drop' hl (a + c)) m)
        rw [List.length_take, List.length_drop, Nat.min_eq_left (by omega)] at hb
        simp only [Got]
        rw [or_high m (by omega) _ hb.1 hb.2, show a + c + m = a + (c + m) by omega]
      · rw [if_neg h2, if_neg (fun h => by omega)]
        exact ⟨_, a + c, rfl⟩
def zetaR (kk most : Int) (r : List Int) : Option (Int × Nat) := (unaryR most r).bind fun u => (code_zeta.f kk (u.1 - 1)).bind fun q =>
  if u.2 + (q.2.2.1 - 1).toNat ≤ r.length then
    (if numL ((r.drop u.2).take (q.2.2.1 - 1).toNat) < q.2.2.2 then some (q.1 + numL ((r.drop u.2).take (q.2.2.1 - 1).toNat), u.2 + (q.2.2.1 - 1).toNat)
    else if u.2 + (q.2.2.1 - 1).toNat + 1 ≤ r.length then some (q.1 + (numL ((r.drop u.2).take (q.2.2.1 - 1).toNat) * 2 + numL ((r.drop (u.2 + (q.2.2.1 - 1).toNat)).take 1) - q.2.2.2), u.2 + (q.2.2.1 - 1).toNat + 1) else none)
  else none
theorem zeta_got (kk : Nat) (most : Int) (hm0 : 1 ≤ most) (hm1 : most ≤ 16) (hz : ∀ h : Nat, (h : Int) ≤ most - 1 → ∃ low many size short : Int, code_zeta.f (kk : Int) (h : Int) = some (low, many, size, short) ∧ 0 ≤ low ∧ low ≤ 4294967296 ∧ 1 ≤ size ∧ size ≤ 33 ∧ 0 ≤ short ∧ short ≤ 4294967296)
    (l : List Int) (hl : IsBits l) (hlen : l.length ≤ 6000) (a : Nat) (ha : a ≤ l.length) (k : Nat) (hk : 7000 ≤ k) : Got (rd_zeta (kk : Int) most k (packS l) (l.length : Int) (a : Int) false) a (zetaR (kk : Int) most (l.drop a)) := by
  have hu := unary_got l hl hlen a ha most hm0 (by omega) k hk
  have hr := zerosL_range (l.drop a)
  rw [List.length_drop] at hr
  unfold rd_zeta zetaR
  cases hur : unaryR most (l.drop a) with
  | none =>
    rw [hur] at hu
    obtain ⟨v, a', e⟩ := hu
    rw [e, Option.bind_some, if_pos rfl, Option.bind_none]
    exact ⟨_, a', rfl⟩
  | some q =>
    obtain ⟨u, c⟩ := q
    rw [hur] at hu
    simp only [Got] at hu
    have hc : 1 ≤ u ∧ u ≤ most ∧ a + c ≤ l.length := by
      unfold unaryR at hur
      split at hur
      · simp only [Option.some.injEq, Prod.mk.injEq] at hur
        omega
      · cases hur
    obtain ⟨h, hh⟩ := Int.eq_ofNat_of_zero_le (show 0 ≤ u - 1 by omega)
    obtain ⟨low, many, size, short, e, z1, z2, z3, z4, z5, z6⟩ := hz h (by omega)
    rw [hu, Option.bind_some, if_neg (by simp), Option.bind_some]
    simp only
    rw [if_pos ⟨by omega, by omega⟩, hh, e, Option.bind_some, Option.bind_some]
    simp only
    rw [if_pos ⟨z1, z2, z3, by omega, z5, z6⟩]
    obtain ⟨m, hm⟩ := Int.eq_ofNat_of_zero_le (show 0 ≤ size - 1 by omega)
    rw [hm, Int.toNat_natCast, List.drop_drop, List.drop_drop, List.length_drop, rd_look_eq l hl hlen (a + c) m (by omega) k hk, Option.bind_some]
    by_cases h2 : a + c + m ≤ l.length
    · rw [if_pos h2, if_pos (show c + m ≤ l.length - a by omega)]
      have hb := numL_range (IsBits.take' (IsBits.drop' hl (a + c)) m)
      rw [List.length_take, List.length_drop, Nat.min_eq_left (by omega)] at hb
      have hpw := Nat.pow_le_pow_right (n := 2) (by decide) (show m ≤ 32 by omega)
      have hpc : ((2 ^ m : Nat) : Int) = (2 : Int) ^ m := Int.natCast_pow 2 m
      rw [← hpc] at hb
      generalize numL ((l.drop (a + c)).take m) = z at *
      simp only
      rw [if_pos ⟨by omega, by omega⟩]
      by_cases h3 : z < short
      · rw [if_pos h3, if_pos h3]
        simp only [Got]
        rw [show a + c + m = a + (c + m) by omega]
      · rw [if_neg h3, if_neg h3]
        have e1 := rd_look_eq l hl hlen (a + c + m) 1 (by omega) k hk
        have e1' : rd_look k (packS l) (l.length : Int) ((a + c + m : Nat) : Int) false 1 = _ := e1
        rw [e1', Option.bind_some]
        by_cases h4 : a + c + m + 1 ≤ l.length
        · rw [if_pos h4, if_pos (show c + m + 1 ≤ l.length - a by omega)]
          have hb1 := numL_range (IsBits.take' (IsBits.drop' hl (a + c + m)) 1)
          rw [List.length_take, List.length_drop, Nat.min_eq_left (by omega)] at hb1
          rw [show a + (c + m) = a + c + m by omega]
          generalize numL ((l.drop (a + c + m)).take 1) = y at *
          simp only [Got]
          rw [if_pos ⟨by omega, by omega⟩, show a + c + m + 1 = a + (c + m + 1) by omega]
        · rw [if_neg h4, if_neg (show ¬ (c + m + 1 ≤ l.length - a) by omega), if_pos ⟨by omega, by omega⟩]
          exact ⟨_, a + c + m, rfl⟩
    · rw [if_neg h2, if_neg (show ¬ (c + m ≤ l.length - a) by omega)]
      have e1 := rd_look_bad l hl hlen (a + c) 1 (by omega) k hk
      have e1' : rd_look k (packS l) (l.length : Int) ((a + c : Nat) : Int) true 1 = _ := e1
      simp only
      rw [if_pos ⟨by omega, by omega⟩, e1', Option.bind_some]
      split
      · exact ⟨_, a + c, rfl⟩
      · rw [if_pos ⟨by omega, by omega⟩]
        exact ⟨_, a + c, rfl⟩
end Go.Proofs.Ytnpghcikhpglkaa.Pb
namespace Go.Proofs.Ytnpghcikhpglkaa.Pb
open Go.RowKit Go.Proofs.YtnpghcikhpglkaaW.PrintWords Go.Proofs.YtnpghcikhpglkaaW.PrintLast Go.Proofs.YtnpghcikhpglkaaW.PrintMore Go.Proofs.Ytnpghcikhpglkaa.Hand Go.Proofs.Ytnpghcikhpglkaa.Pu Go.Proofs.Ytnpghcikhpglkaa.Q
set_option linter.unusedVariables false
set_option linter.unusedSimpArgs false
/-- The rest's first code of a kind. -/
def ReadL (kind : Int) (r : List Int) : Option (Int × Nat) :=
  if kind = 1 then unaryR 1000 r else if kind = 2 then gammaR r else if kind = 3 then deltaR r else if kind = 4 then zetaR 2 16 r else zetaR 3 11 r
theorem zt2' (h : Nat) (hh : (h : Int) ≤ 16 - 1) : ∃ low many size short : Int, code_zeta.f ((2 : Nat) : Int) (h : Int) = some (low, many, size, short) ∧ 0 ≤ low ∧ low ≤ 4294967296 ∧ 1 ≤ size ∧ size ≤ 33 ∧ 0 ≤ short ∧ short ≤ 4294967296 := by
  obtain ⟨low, many, size, short, e, e1, e2, e3, e4, e5, e6, e7⟩ := zt_facts (zt2 ⟨h, by omega⟩)
  have hb : ∀ h : Fin 16, (Option.any (fun q : Int × Int × Int × Int => Nat.ble q.2.2.1.toNat 33) (code_zeta.f ((2 : Nat) : Int) (h.val : Int))) = true := by decide +kernel
  have hb2 := hb ⟨h, by omega⟩
  simp only at e e1 hb2
  rw [e] at hb2
  have hb3 : size.toNat ≤ 33 := Nat.le_of_ble_eq_true hb2
  have hp := Nat.pow_le_pow_right (n := 2) (by decide) (show h * 2 ≤ 32 by omega)
  have hp0 : 0 < 2 ^ (h * 2) := Nat.pow_pos (by decide)
  exact ⟨low, many, size, short, e, by omega, by omega, e3, by omega, e5, by omega⟩
theorem zt3' (h : Nat) (hh : (h : Int) ≤ 11 - 1) : ∃ low many size short : Int, code_zeta.f ((3 : Nat) : Int) (h : Int) = some (low, many, size, short) ∧ 0 ≤ low ∧ low ≤ 4294967296 ∧ 1 ≤ size ∧ size ≤ 33 ∧ 0 ≤ short ∧ short ≤ 4294967296 := by
  obtain ⟨low, many, size, short, e, e1, e2, e3, e4, e5, e6, e7⟩ := zt_facts (zt3 ⟨h, by omega⟩)
  have hb : ∀ h : Fin 11, (Option.any (fun q : Int × Int × Int × Int => Nat.ble q.2.2.1.toNat 33) (code_zeta.f ((3 : Nat) : Int) (h.val : Int))) = true := by decide +kernel
  have hb2 := hb ⟨h, by omega⟩
  simp only at e e1 hb2
  rw [e] at hb2
  have hb3 : size.toNat ≤ 33 := Nat.le_of_ble_eq_true hb2
  have hp := Nat.pow_le_pow_right (n := 2) (by decide) (show h * 3 ≤ 32 by omega)
  have hp0 : 0 < 2 ^ (h * 3) := Nat.pow_pos (by decide)
  exact ⟨low, many, size, short, e, by omega, by omega, e3, by omega, e5, by omega⟩
theorem read_got (l : List Int) (hl : IsBits l) (hlen : l.length ≤ 6000) (a : Nat) (ha : a ≤ l.length) (kind : Int) (hk1 : 1 ≤ kind) (hk5 : kind ≤ 5) (k : Nat) (hk : 7000 ≤ k) : Got (readK k (packS l) (l.length : Int) (a : Int) kind) a (ReadL kind (l.drop a)) := by
  have hkk : kind = 1 ∨ kind = 2 ∨ kind = 3 ∨ kind = 4 ∨ kind = 5 := by omega
  unfold readK ReadL
  rcases hkk with rfl | rfl | rfl | rfl | rfl
  · rw [if_pos rfl, if_pos rfl]; exact unary_got l hl hlen a ha 1000 (by omega) (by omega) k hk
  · rw [if_neg (by decide), if_pos rfl, if_neg (by decide), if_pos rfl]; exact gamma_got l hl hlen a ha k hk
  · rw [if_neg (by decide), if_neg (by decide), if_pos rfl, if_neg (by decide), if_neg (by decide), if_pos rfl]; exact delta_got l hl hlen a ha k hk
  · rw [if_neg (by decide), if_neg (by decide), if_neg (by decide), if_pos rfl, if_neg (by decide), if_neg (by decide), if_neg (by decide), if_pos rfl]
    exact zeta_got 2 16 (by omega) (by omega) zt2' l hl hlen a ha k hk
  · rw [if_neg (by decide), if_neg (by decide), if_neg (by decide), if_neg (by decide), if_pos rfl, if_neg (by decide), if_neg (by decide), if_neg (by decide), if_neg (by decide)]
    exact zeta_got 3 11 (by omega) (by omega) zt3' l hl hlen a ha k hk
/-- code.Read's answer. -/
def readR (kind : Int) (l : List Int) (a : Nat) : Int × Int × Bool := match ReadL kind (l.drop a) with
  | some (v, c) => if 1073741824 < v then (0, 0, false) else (v, ((a + c : Nat) : Int), true)
  | none => (0, 0, false)
theorem read_eq (l : List Int) (hl : IsBits l) (hlen : l.length ≤ 6000) (a : Nat) (ha : a ≤ l.length) (kind : Int) (hk1 : 1 ≤ kind) (hk5 : kind ≤ 5) : code_Read.f (packS l) (l.length : Int) (a : Int) kind = some (readR kind l a) := by
  have hg := read_got l hl hlen a ha kind hk1 hk5 rounds (by unfold rounds; omega)
  unfold code_Read.f readR
  cases hr : ReadL kind (l.drop a) with
  | none =>
    rw [hr] at hg
    obtain ⟨v, a', e⟩ := hg
    rw [e, Option.bind_some, if_pos rfl]
  | some q =>
    obtain ⟨v, c⟩ := q
    rw [hr] at hg
    simp only [Got] at hg
    rw [hg, Option.bind_some, if_neg (by simp)]
    simp only
    split <;> rfl
end Go.Proofs.Ytnpghcikhpglkaa.Pb
namespace Go.Proofs.Ytnpghcikhpglkaa.Pb
open Go.RowKit Go.Proofs.YtnpghcikhpglkaaW.PrintWords Go.Proofs.YtnpghcikhpglkaaW.PrintLast Go.Proofs.YtnpghcikhpglkaaW.PrintMore Go.Proofs.Ytnpghcikhpglkaa.Hand Go.Proofs.Ytnpghcikhpglkaa.Pu Go.Proofs.Ytnpghcikhpglkaa.Q
set_option linter.unusedVariables false
set_option linter.unusedSimpArgs false
/-- A number may be coded so. -/
def NumP (kind n : Int) : Prop := 1 ≤ n ∧ n ≤ 1073741824 ∧ (kind = 1 → n ≤ 1000)
instance (kind n : Int) : Decidable (NumP kind n) := by unfold NumP; infer_instance
end Go.Proofs.Ytnpghcikhpglkaa.Pb
namespace Go.Proofs.Ytnpghcikhpglkaa.Pb
open Go.RowKit Go.Proofs.YtnpghcikhpglkaaW.PrintWords Go.Proofs.YtnpghcikhpglkaaW.PrintLast Go.Proofs.YtnpghcikhpglkaaW.PrintMore Go.Proofs.Ytnpghcikhpglkaa.Hand Go.Proofs.Ytnpghcikhpglkaa.Pu Go.Proofs.Ytnpghcikhpglkaa.Q
set_option linter.unusedVariables false
set_option linter.unusedSimpArgs false
theorem gammaL_bits (n : Int) : IsBits (gammaL n) := by unfold gammaL; exact IsBits.append (putL_bits _ _) (putL_bits _ _)
theorem read_good (kind : Int) (l : List Int) (a c : Nat) (n : Int) (hr : ReadL kind (l.drop a) = some (n, c)) (hn : n ≤ 1073741824) : readR kind l a = (n, ((a + c : Nat) : Int), true) := by
  unfold readR
  rw [hr]
  simp only
  rw [if_neg (by omega)]
end Go.Proofs.Ytnpghcikhpglkaa.Pb
namespace Go.Proofs.Ytnpghcikhpglkaa.Pb
open Go.RowKit Go.Proofs.YtnpghcikhpglkaaW.PrintWords Go.Proofs.YtnpghcikhpglkaaW.PrintLast Go.Proofs.YtnpghcikhpglkaaW.PrintMore Go.Proofs.Ytnpghcikhpglkaa.Hand Go.Proofs.Ytnpghcikhpglkaa.Pu Go.Proofs.Ytnpghcikhpglkaa.Q
set_option linter.unusedVariables false
set_option linter.unusedSimpArgs false
theorem gpieces_bits (v : Int) (l : List Int) : ∀ c, IsBits (gpieces v l c)
  | 0 => IsBits.nil
  | c + 1 => IsBits.append (gpieces_bits v l c) (gammaL_bits _)
theorem gapsL_bits (v : Int) (l : List Int) : IsBits (gapsL v l) := IsBits.append (gammaL_bits _) (gpieces_bits v l _)
theorem gapsL_len {v : Int} {l : List Int} (h : GMay l) (hv0 : 0 ≤ v) (hv : v < 16) : (gapsL v l).length ≤ 1100 := by
  have h1 := gpieces_len h hv0 hv l.length (Nat.le_refl _)
  have h2 := gmay_len h
  have h3 := gammaL_le (n := (l.length : Int) + 1) (by omega) (by omega)
  unfold gapsL
  rw [List.length_append]; omega
theorem cread_good (b : List Int) (hb : IsBits b) (hlen : b.length ≤ 6000) (p c : Nat) (n : Int) (hp : p ≤ b.length) (hr : ReadL 2 (b.drop p) = some (n, c)) (hn : n ≤ 1073741824) : code_Read.f (packS b) (b.length : Int) (p : Int) 2 = some (n, ((p + c : Nat) : Int), true) := by
  rw [read_eq b hb hlen p hp 2 (by omega) (by omega), read_good 2 b p c n hr hn]
theorem cread_bad (b : List Int) (hb : IsBits b) (hlen : b.length ≤ 6000) (p : Nat) (hp : p ≤ b.length) (hr : ReadL 2 (b.drop p) = none) : code_Read.f (packS b) (b.length : Int) (p : Int) 2 = some (0, 0, false) := by
  rw [read_eq b hb hlen p hp 2 (by omega) (by omega)]
  unfold readR; rw [hr]
theorem gtake_read (b : List Int) (hb : IsBits b) (hlen : b.length ≤ 6000) (a : Nat) (ha : a ≤ b.length) (v : Int) (hv0 : 0 ≤ v) (hv : v < 16) (k : Nat) :
    gaps_Take.f (k + 1) (packS b) (b.length : Int) (a : Int) v = (gaps_Read.f k (packS b) (b.length : Int) (a : Int) v).bind fun r => if r.2.2 = true then some (r.1, r.2.1, 0) else some ([], 0, 9) := by
  unfold gaps_Take.f
  rw [may_eq, decide_eq_true (may_packS b hb hlen), Option.bind_some, if_pos rfl, gis_eq, decide_eq_true ⟨hv0, hv⟩, Option.bind_some, if_pos rfl, if_neg (by omega), decide_eq_false (by omega), gaps_Take.j0, if_neg (by decide)]
/-! ### gaps.Put, gaps.Size in lists -/
theorem gput_eq (b : List Int) (hb : IsBits b) (hlen : b.length ≤ 6000) (v : Int) (l : List Int) (hll : (l.length : Int) < 9223372036854775807) : gaps_Put.f (packS b) (b.length : Int) v l =
    some (if (0 ≤ v ∧ v < 16) ∧ GMay l then (if b.length + (gapsL v l).length ≤ 6000 then (packS (b ++ gapsL v l), ((b ++ gapsL v l).length : Int), 0) else (⟨#[]⟩, 0, 2)) else (⟨#[]⟩, 0, 1)) := by
  unfold gaps_Put.f
  rw [if_pos hll, ofS_packS b hb]
  by_cases h : (0 ≤ v ∧ v < 16) ∧ GMay l
  · rw [if_pos ⟨may_packS b hb hlen, h⟩, if_pos h]
    by_cases h2 : b.length + (gapsL v l).length ≤ 6000
    · rw [if_pos h2, if_pos (show ((b ++ gapsL v l).length : Int) ≤ 6000 by rw [List.length_append]; omega)]
    · rw [if_neg h2, if_neg (show ¬ (((b ++ gapsL v l).length : Int) ≤ 6000) by rw [List.length_append]; omega)]
  · rw [if_neg (fun h2 => h h2.2), if_neg h]
theorem gsize_eq (v : Int) (l : List Int) (hll : (l.length : Int) < 9223372036854775807) : gaps_Size.f v l = some (if (0 ≤ v ∧ v < 16) ∧ GMay l then (((gapsL v l).length : Int), 0) else (0, 1)) := by
  unfold gaps_Size.f
  rw [if_pos hll]
  split <;> rfl
end Go.Proofs.Ytnpghcikhpglkaa.Pb
