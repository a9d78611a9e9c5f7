-- laid by a program of this session (a changed copy of the kit's print program): functions, contracts
import Derived.Test.YtnpghcikhpglkaaQ0
import Derived.Test.YtnpghcikhpglkaaQ5
import Derived.Test.YtnpghcikhpglkaaQ9
namespace Go.Proofs.Ytnpghcikhpglkaa.Q
open Go.RowKit Go.Proofs.YtnpghcikhpglkaaW.PrintWords Go.Proofs.YtnpghcikhpglkaaW.PrintLast Go.Proofs.YtnpghcikhpglkaaW.PrintMore
attribute [local go_sem] max2_int min2_int max_two min_two max_three min_three max_four min_four   -- for this text's walks alone
set_option linter.unusedVariables false
set_option linter.unusedSimpArgs false

/-! ### herbariumlaw13_SpaceApart: function 7 -/
mutual
def herbariumlaw13_SpaceApart.l0 : Nat → Int → List (List (S41)) → List Int → List (S27) → List Int → Option (Bool)
  | 0, _, _, _, _, _ => none
  | k + 1, x3, x237000, x237001, x237002, x237003 => if x3 < (x237000.length : Int) then (herbariumlaw13_SpaceApart.j1 k x3 (decide (x3 < 5)) x237000 x237001 x237002 x237003) else (herbariumlaw13_SpaceApart.j1 k x3 false x237000 x237001 x237002 x237003)
def herbariumlaw13_SpaceApart.j1 : Nat → Int → Bool → List (List (S41)) → List Int → List (S27) → List Int → Option (Bool)
  | 0, _, _, _, _, _, _ => none
  | k + 1, x3, x23, x237000, x237001, x237002, x237003 => if x23 = true then (herbariumlaw13_SpaceApart.l1 k x3 1 x237000 x237001 x237002 x237003) else ((herbariumlaw13_wakes.f k).bind fun t238 => (some t238))
def herbariumlaw13_SpaceApart.l1 : Nat → Int → Int → List (List (S41)) → List Int → List (S27) → List Int → Option (Bool)
  | 0, _, _, _, _, _, _ => none
  | k + 1, x3, x4, x237000, x237001, x237002, x237003 => if x4 < 9 then (if 0 ≤ x3 then (if x3 < (x237000.length : Int) then ((space_Find.f k (rd_L4 x237000 x3) 30 x4).bind fun bt240 => ((herbariumlaw13_num.f bt240.2).bind fun t242 => (if t242 = 0 then (herbariumlaw13_SpaceApart.j3 k x3 x4 bt240.1 (decide (((rd_L4 x237000 x3).length : Int) > 12)) x237000 x237001 x237002 x237003) else (herbariumlaw13_SpaceApart.j3 k x3 x4 bt240.1 true x237000 x237001 x237002 x237003)))) else (none)) else (none)) else (herbariumlaw13_SpaceApart.l0 k (wrap64 (x3 + 1)) x237000 x237001 x237002 x237003)
def herbariumlaw13_SpaceApart.j3 : Nat → Int → Int → Int → Bool → List (List (S41)) → List Int → List (S27) → List Int → Option (Bool)
  | 0, _, _, _, _, _, _, _, _ => none
  | k + 1, x3, x4, x5, x51, x237000, x237001, x237002, x237003 => if x51 = true then (herbariumlaw13_SpaceApart.l1 k x3 (wrap64 (x4 + 1)) x237000 x237001 x237002 x237003) else (if 0 ≤ x3 then (if x3 < (x237000.length : Int) then ((herbariumref0_CopyRuns.f k (rd_L4 x237000 x3)).bind fun t245 => (if t245.length < 8796093022208 then ((space_Free.f k (rd_L4 x237000 x3) 30).bind fun bt252 => ((space_Free.f k (t245 ++ [(⟨x5, x4⟩ : S41)]) 30).bind fun bt254 => ((herbariumlaw13_num.f bt252.2).bind fun t256 => (if t256 = 0 then ((herbariumlaw13_num.f bt254.2).bind fun t257 => (if t257 = 0 then (herbariumlaw13_SpaceApart.j4 k x3 x4 x5 (bt252.1 != (wrap64 (bt254.1 + x4))) x237000 x237001 x237002 x237003) else (herbariumlaw13_SpaceApart.j4 k x3 x4 x5 true x237000 x237001 x237002 x237003))) else (herbariumlaw13_SpaceApart.j4 k x3 x4 x5 true x237000 x237001 x237002 x237003))))) else (none))) else (none)) else (none))
def herbariumlaw13_SpaceApart.j4 : Nat → Int → Int → Int → Bool → List (List (S41)) → List Int → List (S27) → List Int → Option (Bool)
  | 0, _, _, _, _, _, _, _, _ => none
  | k + 1, x3, x4, x5, x91, x237000, x237001, x237002, x237003 => if x91 = true then (some false) else (herbariumlaw13_SpaceApart.l2 k x3 x4 x5 0 x237000 x237001 x237002 x237003)
def herbariumlaw13_SpaceApart.l2 : Nat → Int → Int → Int → Int → List (List (S41)) → List Int → List (S27) → List Int → Option (Bool)
  | 0, _, _, _, _, _, _, _, _ => none
  | k + 1, x3, x4, x5, x12, x237000, x237001, x237002, x237003 => if x12 < x5 then (if 0 ≤ x3 then (if x3 < (x237000.length : Int) then ((herbariumref0_CopyRuns.f k (rd_L4 x237000 x3)).bind fun t259 => (if t259.length < 8796093022208 then ((space_Check.f k (t259 ++ [(⟨x12, x4⟩ : S41)]) 30).bind fun t265 => ((herbariumlaw13_num.f t265).bind fun t266 => (if t266 = 0 then (some false) else (herbariumlaw13_SpaceApart.l2 k x3 x4 x5 (wrap64 (x12 + 1)) x237000 x237001 x237002 x237003)))) else (none))) else (none)) else (none)) else (herbariumlaw13_SpaceApart.l1 k x3 (wrap64 (x4 + 1)) x237000 x237001 x237002 x237003)
end
def herbariumlaw13_SpaceApart.f (k : Nat) (l0_0 : List (List (S41))) (l0_1 : List Int) (l0_2 : List (S27)) (l0_3 : List Int) : Option (Bool) := (herbariumlaw13_Heavy.f k l0_0 l0_1 l0_2 l0_3).bind fun t237 => (if t237 = true then (some true) else (herbariumlaw13_SpaceApart.l0 k 0 l0_0 l0_1 l0_2 l0_3))
theorem herbariumlaw13_SpaceApart.mono_l : ∀ k, (∀ y0 y1 y2 y3 y4, LeO (herbariumlaw13_SpaceApart.l0 k y0 y1 y2 y3 y4) (herbariumlaw13_SpaceApart.l0 (k + 1) y0 y1 y2 y3 y4)) ∧ (∀ y0 y1 y2 y3 y4 y5, LeO (herbariumlaw13_SpaceApart.j1 k y0 y1 y2 y3 y4 y5) (herbariumlaw13_SpaceApart.j1 (k + 1) y0 y1 y2 y3 y4 y5)) ∧ (∀ y0 y1 y2 y3 y4 y5, LeO (herbariumlaw13_SpaceApart.l1 k y0 y1 y2 y3 y4 y5) (herbariumlaw13_SpaceApart.l1 (k + 1) y0 y1 y2 y3 y4 y5)) ∧ (∀ y0 y1 y2 y3 y4 y5 y6 y7, LeO (herbariumlaw13_SpaceApart.j3 k y0 y1 y2 y3 y4 y5 y6 y7) (herbariumlaw13_SpaceApart.j3 (k + 1) y0 y1 y2 y3 y4 y5 y6 y7)) ∧ (∀ y0 y1 y2 y3 y4 y5 y6 y7, LeO (herbariumlaw13_SpaceApart.j4 k y0 y1 y2 y3 y4 y5 y6 y7) (herbariumlaw13_SpaceApart.j4 (k + 1) y0 y1 y2 y3 y4 y5 y6 y7)) ∧ (∀ y0 y1 y2 y3 y4 y5 y6 y7, LeO (herbariumlaw13_SpaceApart.l2 k y0 y1 y2 y3 y4 y5 y6 y7) (herbariumlaw13_SpaceApart.l2 (k + 1) y0 y1 y2 y3 y4 y5 y6 y7))
  | 0 => ⟨fun _ _ _ _ _ r h => by simp [herbariumlaw13_SpaceApart.l0] at h, fun _ _ _ _ _ _ r h => by simp [herbariumlaw13_SpaceApart.j1] at h, fun _ _ _ _ _ _ r h => by simp [herbariumlaw13_SpaceApart.l1] at h, fun _ _ _ _ _ _ _ _ r h => by simp [herbariumlaw13_SpaceApart.j3] at h, fun _ _ _ _ _ _ _ _ r h => by simp [herbariumlaw13_SpaceApart.j4] at h, fun _ _ _ _ _ _ _ _ r h => by simp [herbariumlaw13_SpaceApart.l2] at h⟩
  | k + 1 => by
    obtain ⟨ih0, ih1, ih2, ih3, ih4, ih5⟩ := herbariumlaw13_SpaceApart.mono_l k
    refine ⟨?_, ?_, ?_, ?_, ?_, ?_⟩
    · intro y0 y1 y2 y3 y4
      unfold herbariumlaw13_SpaceApart.l0
      repeat' first
      | (with_reducible exact ih0 _ _ _ _ _)
      | (with_reducible exact ih1 _ _ _ _ _ _)
      | (with_reducible exact ih2 _ _ _ _ _ _)
      | (with_reducible exact ih3 _ _ _ _ _ _ _ _)
      | (with_reducible exact ih4 _ _ _ _ _ _ _ _)
      | (with_reducible exact ih5 _ _ _ _ _ _ _ _)
      | (with_reducible exact herbariumlaw13_Heavy.mono _ _ _ _ _)
      | (with_reducible exact herbariumlaw13_wakes.mono _)
      | (with_reducible exact herbariumref0_CopyRuns.mono _ _)
      | (with_reducible exact space_Check.mono _ _ _)
      | (with_reducible exact space_Find.mono _ _ _ _)
      | (with_reducible exact space_Free.mono _ _ _)
      | (with_reducible exact LeO.refl _)
      | (with_reducible exact LeO.none _)
      | (with_reducible refine LeO.ite ?_ ?_)
      | (with_reducible refine LeO.bind ?_ (fun _ => ?_))
      | exact ih0 _ _ _ _ _
      | exact ih1 _ _ _ _ _ _
      | exact ih2 _ _ _ _ _ _
      | exact ih3 _ _ _ _ _ _ _ _
      | exact ih4 _ _ _ _ _ _ _ _
      | exact ih5 _ _ _ _ _ _ _ _
      | exact herbariumlaw13_Heavy.mono _ _ _ _ _
      | exact herbariumlaw13_wakes.mono _
      | exact herbariumref0_CopyRuns.mono _ _
      | exact space_Check.mono _ _ _
      | exact space_Find.mono _ _ _ _
      | exact space_Free.mono _ _ _
      | exact LeO.none _
      | refine LeO.ite ?_ ?_
      | refine LeO.bind ?_ (fun _ => ?_)
    · intro y0 y1 y2 y3 y4 y5
      unfold herbariumlaw13_SpaceApart.j1
      repeat' first
      | (with_reducible exact ih0 _ _ _ _ _)
      | (with_reducible exact ih1 _ _ _ _ _ _)
      | (with_reducible exact ih2 _ _ _ _ _ _)
      | (with_reducible exact ih3 _ _ _ _ _ _ _ _)
      | (with_reducible exact ih4 _ _ _ _ _ _ _ _)
      | (with_reducible exact ih5 _ _ _ _ _ _ _ _)
      | (with_reducible exact herbariumlaw13_Heavy.mono _ _ _ _ _)
      | (with_reducible exact herbariumlaw13_wakes.mono _)
      | (with_reducible exact herbariumref0_CopyRuns.mono _ _)
      | (with_reducible exact space_Check.mono _ _ _)
      | (with_reducible exact space_Find.mono _ _ _ _)
      | (with_reducible exact space_Free.mono _ _ _)
      | (with_reducible exact LeO.refl _)
      | (with_reducible exact LeO.none _)
      | (with_reducible refine LeO.ite ?_ ?_)
      | (with_reducible refine LeO.bind ?_ (fun _ => ?_))
      | exact ih0 _ _ _ _ _
      | exact ih1 _ _ _ _ _ _
      | exact ih2 _ _ _ _ _ _
      | exact ih3 _ _ _ _ _ _ _ _
      | exact ih4 _ _ _ _ _ _ _ _
      | exact ih5 _ _ _ _ _ _ _ _
      | exact herbariumlaw13_Heavy.mono _ _ _ _ _
      | exact herbariumlaw13_wakes.mono _
      | exact herbariumref0_CopyRuns.mono _ _
      | exact space_Check.mono _ _ _
      | exact space_Find.mono _ _ _ _
      | exact space_Free.mono _ _ _
      | exact LeO.none _
      | refine LeO.ite ?_ ?_
      | refine LeO.bind ?_ (fun _ => ?_)
    · intro y0 y1 y2 y3 y4 y5
      unfold herbariumlaw13_SpaceApart.l1
      repeat' first
      | (with_reducible exact ih0 _ _ _ _ _)
      | (with_reducible exact ih1 _ _ _ _ _ _)
      | (with_reducible exact ih2 _ _ _ _ _ _)
      | (with_reducible exact ih3 _ _ _ _ _ _ _ _)
      | (with_reducible exact ih4 _ _ _ _ _ _ _ _)
      | (with_reducible exact ih5 _ _ _ _ _ _ _ _)
      | (with_reducible exact herbariumlaw13_Heavy.mono _ _ _ _ _)
      | (with_reducible exact herbariumlaw13_wakes.mono _)
      | (with_reducible exact herbariumref0_CopyRuns.mono _ _)
      | (with_reducible exact space_Check.mono _ _ _)
      | (with_reducible exact space_Find.mono _ _ _ _)
      | (with_reducible exact space_Free.mono _ _ _)
      | (with_reducible exact LeO.refl _)
      | (with_reducible exact LeO.none _)
      | (with_reducible refine LeO.ite ?_ ?_)
      | (with_reducible refine LeO.bind ?_ (fun _ => ?_))
      | exact ih0 _ _ _ _ _
      | exact ih1 _ _ _ _ _ _
      | exact ih2 _ _ _ _ _ _
      | exact ih3 _ _ _ _ _ _ _ _
      | exact ih4 _ _ _ _ _ _ _ _
      | exact ih5 _ _ _ _ _ _ _ _
      | exact herbariumlaw13_Heavy.mono _ _ _ _ _
      | exact herbariumlaw13_wakes.mono _
      | exact herbariumref0_CopyRuns.mono _ _
      | exact space_Check.mono _ _ _
      | exact space_Find.mono _ _ _ _
      | exact space_Free.mono _ _ _
      | exact LeO.none _
      | refine LeO.ite ?_ ?_
      | refine LeO.bind ?_ (fun _ => ?_)
    · intro y0 y1 y2 y3 y4 y5 y6 y7
      unfold herbariumlaw13_SpaceApart.j3
      repeat' first
      | (with_reducible exact ih0 _ _ _ _ _)
      | (with_reducible exact ih1 _ _ _ _ _ _)
      | (with_reducible exact ih2 _ _ _ _ _ _)
      | (with_reducible exact ih3 _ _ _ _ _ _ _ _)
      | (with_reducible exact ih4 _ _ _ _ _ _ _ _)
      | (with_reducible exact ih5 _ _ _ _ _ _ _ _)
      | (with_reducible exact herbariumlaw13_Heavy.mono _ _ _ _ _)
      | (with_reducible exact herbariumlaw13_wakes.mono _)
      | (with_reducible exact herbariumref0_CopyRuns.mono _ _)
      | (with_reducible exact space_Check.mono _ _ _)
      | (with_reducible exact space_Find.mono _ _ _ _)
      | (with_reducible exact space_Free.mono _ _ _)
      | (with_reducible exact LeO.refl _)
      | (with_reducible exact LeO.none _)
      | (with_reducible refine LeO.ite ?_ ?_)
      | (with_reducible refine LeO.bind ?_ (fun _ => ?_))
      | exact ih0 _ _ _ _ _
      | exact ih1 _ _ _ _ _ _
      | exact ih2 _ _ _ _ _ _
      | exact ih3 _ _ _ _ _ _ _ _
      | exact ih4 _ _ _ _ _ _ _ _
      | exact ih5 _ _ _ _ _ _ _ _
      | exact herbariumlaw13_Heavy.mono _ _ _ _ _
      | exact herbariumlaw13_wakes.mono _
      | exact herbariumref0_CopyRuns.mono _ _
      | exact space_Check.mono _ _ _
      | exact space_Find.mono _ _ _ _
      | exact space_Free.mono _ _ _
      | exact LeO.none _
      | refine LeO.ite ?_ ?_
      | refine LeO.bind ?_ (fun _ => ?_)
    · intro y0 y1 y2 y3 y4 y5 y6 y7
      unfold herbariumlaw13_SpaceApart.j4
      repeat' first
      | (with_reducible exact ih0 _ _ _ _ _)
      | (with_reducible exact ih1 _ _ _ _ _ _)
      | (with_reducible exact ih2 _ _ _ _ _ _)
      | (with_reducible exact ih3 _ _ _ _ _ _ _ _)
      | (with_reducible exact ih4 _ _ _ _ _ _ _ _)
      | (with_reducible exact ih5 _ _ _ _ _ _ _ _)
      | (with_reducible exact herbariumlaw13_Heavy.mono _ _ _ _ _)
      | (with_reducible exact herbariumlaw13_wakes.mono _)
      | (with_reducible exact herbariumref0_CopyRuns.mono _ _)
      | (with_reducible exact space_Check.mono _ _ _)
      | (with_reducible exact space_Find.mono _ _ _ _)
      | (with_reducible exact space_Free.mono _ _ _)
      | (with_reducible exact LeO.refl _)
      | (with_reducible exact LeO.none _)
      | (with_reducible refine LeO.ite ?_ ?_)
      | (with_reducible refine LeO.bind ?_ (fun _ => ?_))
      | exact ih0 _ _ _ _ _
      | exact ih1 _ _ _ _ _ _
      | exact ih2 _ _ _ _ _ _
      | exact ih3 _ _ _ _ _ _ _ _
      | exact ih4 _ _ _ _ _ _ _ _
      | exact ih5 _ _ _ _ _ _ _ _
      | exact herbariumlaw13_Heavy.mono _ _ _ _ _
      | exact herbariumlaw13_wakes.mono _
      | exact herbariumref0_CopyRuns.mono _ _
      | exact space_Check.mono _ _ _
      | exact space_Find.mono _ _ _ _
      | exact space_Free.mono _ _ _
      | exact LeO.none _
      | refine LeO.ite ?_ ?_
      | refine LeO.bind ?_ (fun _ => ?_)
    · intro y0 y1 y2 y3 y4 y5 y6 y7
      unfold herbariumlaw13_SpaceApart.l2
      repeat' first
      | (with_reducible exact ih0 _ _ _ _ _)
      | (with_reducible exact ih1 _ _ _ _ _ _)
      | (with_reducible exact ih2 _ _ _ _ _ _)
      | (with_reducible exact ih3 _ _ _ _ _ _ _ _)
      | (with_reducible exact ih4 _ _ _ _ _ _ _ _)
      | (with_reducible exact ih5 _ _ _ _ _ _ _ _)
      | (with_reducible exact herbariumlaw13_Heavy.mono _ _ _ _ _)
      | (with_reducible exact herbariumlaw13_wakes.mono _)
      | (with_reducible exact herbariumref0_CopyRuns.mono _ _)
      | (with_reducible exact space_Check.mono _ _ _)
      | (with_reducible exact space_Find.mono _ _ _ _)
      | (with_reducible exact space_Free.mono _ _ _)
      | (with_reducible exact LeO.refl _)
      | (with_reducible exact LeO.none _)
      | (with_reducible refine LeO.ite ?_ ?_)
      | (with_reducible refine LeO.bind ?_ (fun _ => ?_))
      | exact ih0 _ _ _ _ _
      | exact ih1 _ _ _ _ _ _
      | exact ih2 _ _ _ _ _ _
      | exact ih3 _ _ _ _ _ _ _ _
      | exact ih4 _ _ _ _ _ _ _ _
      | exact ih5 _ _ _ _ _ _ _ _
      | exact herbariumlaw13_Heavy.mono _ _ _ _ _
      | exact herbariumlaw13_wakes.mono _
      | exact herbariumref0_CopyRuns.mono _ _
      | exact space_Check.mono _ _ _
      | exact space_Find.mono _ _ _ _
      | exact space_Free.mono _ _ _
      | exact LeO.none _
      | refine LeO.ite ?_ ?_
      | refine LeO.bind ?_ (fun _ => ?_)
theorem herbariumlaw13_SpaceApart.mono : ∀ a0 a1 a2 a3 k, LeO (herbariumlaw13_SpaceApart.f k a0 a1 a2 a3) (herbariumlaw13_SpaceApart.f (k + 1) a0 a1 a2 a3) := by
  intro a0 a1 a2 a3 k
  obtain ⟨ih0, ih1, ih2, ih3, ih4, ih5⟩ := herbariumlaw13_SpaceApart.mono_l k
  unfold herbariumlaw13_SpaceApart.f
  repeat' first
      | (with_reducible exact ih0 _ _ _ _ _)
      | (with_reducible exact ih1 _ _ _ _ _ _)
      | (with_reducible exact ih2 _ _ _ _ _ _)
      | (with_reducible exact ih3 _ _ _ _ _ _ _ _)
      | (with_reducible exact ih4 _ _ _ _ _ _ _ _)
      | (with_reducible exact ih5 _ _ _ _ _ _ _ _)
      | (with_reducible exact herbariumlaw13_Heavy.mono _ _ _ _ _)
      | (with_reducible exact herbariumlaw13_wakes.mono _)
      | (with_reducible exact herbariumref0_CopyRuns.mono _ _)
      | (with_reducible exact space_Check.mono _ _ _)
      | (with_reducible exact space_Find.mono _ _ _ _)
      | (with_reducible exact space_Free.mono _ _ _)
      | (with_reducible exact LeO.refl _)
      | (with_reducible exact LeO.none _)
      | (with_reducible refine LeO.ite ?_ ?_)
      | (with_reducible refine LeO.bind ?_ (fun _ => ?_))
      | exact ih0 _ _ _ _ _
      | exact ih1 _ _ _ _ _ _
      | exact ih2 _ _ _ _ _ _
      | exact ih3 _ _ _ _ _ _ _ _
      | exact ih4 _ _ _ _ _ _ _ _
      | exact ih5 _ _ _ _ _ _ _ _
      | exact herbariumlaw13_Heavy.mono _ _ _ _ _
      | exact herbariumlaw13_wakes.mono _
      | exact herbariumref0_CopyRuns.mono _ _
      | exact space_Check.mono _ _ _
      | exact space_Find.mono _ _ _ _
      | exact space_Free.mono _ _ _
      | exact LeO.none _
      | refine LeO.ite ?_ ?_
      | refine LeO.bind ?_ (fun _ => ?_)
set_option maxHeartbeats 8000000 in
set_option maxRecDepth 100000 in
theorem herbariumlaw13_SpaceApart.calls (k : Nat) (A0_0 : Option Addr) (c0_0 : Nat) (l0_0 : List (List (S41))) (A0_1 : Option Addr) (c0_1 : Nat) (l0_1 : List Int) (A0_2 : Option Addr) (c0_2 : Nat) (l0_2 : List (S27)) (A0_3 : Option Addr) (c0_3 : Nat) (l0_3 : List Int) (r : Bool) (w : World) (hr0_0 : Kd.C (Kd.slice 41 k41) w A0_0 l0_0.length l0_0) (hc0_0 : l0_0.length ≤ c0_0) (hr0_1 : Kd.C (Kd.int .i64) w A0_1 l0_1.length l0_1) (hc0_1 : l0_1.length ≤ c0_1) (hr0_2 : Kd.C k27 w A0_2 l0_2.length l0_2) (hc0_2 : l0_2.length ≤ c0_2) (hr0_3 : Kd.C (Kd.int .i64) w A0_3 l0_3.length l0_3) (hc0_3 : l0_3.length ≤ c0_3) (h : herbariumlaw13_SpaceApart.f k l0_0 l0_1 l0_2 l0_3 = some r) :
    Calls Try.prog 7 #[.agg #[.slice A0_0 l0_0.length c0_0, .slice A0_1 l0_1.length c0_1, .slice A0_2 l0_2.length c0_2, .slice A0_3 l0_3.length c0_3]] w fun e w' => e = .returned (.bool r) ∧ Below w.heap.size w w' := by
  have hu38 := Try.underlying38
  have hu41 := Try.underlying41
  have HR0_0 := Aside0.mk hr0_0
  have HC0_0 := Aside0.mk hc0_0
  clear hr0_0 hc0_0
  have HR0_1 := Aside0.mk hr0_1
  have HC0_1 := Aside0.mk hc0_1
  clear hr0_1 hc0_1
  have HR0_2 := Aside0.mk hr0_2
  have HC0_2 := Aside0.mk hc0_2
  clear hr0_2 hc0_2
  have HR0_3 := Aside0.mk hr0_3
  have HC0_3 := Aside0.mk hc0_3
  clear hr0_3 hc0_3
  have HB := Aside0.mk (Below.refl w.heap.size w)
  have H : ((herbariumlaw13_Heavy.f k l0_0 l0_1 l0_2 l0_3).bind fun t237 => (if t237 = true then (some true) else (herbariumlaw13_SpaceApart.l0 k 0 l0_0 l0_1 l0_2 l0_3))) = some r := h
  clear h
  replace H := Option.bind_eq_some_iff.mp H
  obtain ⟨t237, A20, H⟩ := H
  replace H : (if t237 = true then (some true) else (herbariumlaw13_SpaceApart.l0 k 0 l0_0 l0_1 l0_2 l0_3)) = some r := H
  have A2 := Aside0.mk A20
  clear A20
  by_cases c3 : t237 = true
  · subst c3
    have H1 : (some true) = some r := by rw [if_pos rfl] at H; exact H
    clear H
    have H := H1
    clear H1
    obtain rfl := Option.some.inj H
    go_enter Try.func7, Try.ntmps7
    go_wp2_with (first | ((with_reducible refine gate_dst (N := 1) rfl ?_); (try (refine gate_guard (by rfl) ?_; dsimp only)); refine box_event ?hg (N := 1) ?hd (cs := #[.slice A0_0 l0_0.length c0_0, .slice A0_1 l0_1.length c0_1, .slice A0_2 l0_2.length c0_2, .slice A0_3 l0_3.length c0_3]) (t := 38) ?hr ?_; (case hd => rfl); (case hg => rfl); (case hr => first | (go_simp; done) | (go_simp; rfl)); intro gb236 hg w4 hbox hb; have n0_ := Aside0.mk (below_step (by repeat (first | (with_reducible first | exact HB.out | apply below_alloc | apply pw_below_drewN | apply below_drew1) | exact HB.out)) hb); have n1_ := Aside0.mk (hbox); have n2_ := Aside0.mk ((by rw [hg]; exact (below_size (by repeat (first | (with_reducible first | exact HB.out | apply below_alloc | apply pw_below_drewN | apply below_drew1) | exact HB.out))) : w.heap.size ≤ gb236)); have n3_ := Aside0.mk ((by rw [hg]; exact (below_size (by repeat (first | (with_reducible first | exact HB.out | apply below_alloc | apply pw_below_drewN | apply below_drew1) | exact HB.out))) : w.heap.size ≤ gb236)); clear HB; have HB := n0_; have BK236 := n1_; have GW236 := n2_; have GE236 := n3_; clear n0_ n1_ n2_ n3_; clear hb hbox hg; have hcz5_0 : w4.cell? ⟨gb236, 0, none⟩ = some (.slice A0_0 l0_0.length c0_0) := (blk_cell BK236.out 0).trans rfl; have hcz5_1 : w4.cell? ⟨gb236, 1, none⟩ = some (.slice A0_1 l0_1.length c0_1) := (blk_cell BK236.out 1).trans rfl; have hcz5_2 : w4.cell? ⟨gb236, 2, none⟩ = some (.slice A0_2 l0_2.length c0_2) := (blk_cell BK236.out 2).trans rfl; have hcz5_3 : w4.cell? ⟨gb236, 3, none⟩ = some (.slice A0_3 l0_3.length c0_3) := (blk_cell BK236.out 3).trans rfl; have hfz5_0 := blk_frozen BK236.out 0; have hfz5_1 := blk_frozen BK236.out 1; have hfz5_2 := blk_frozen BK236.out 2; have hfz5_3 := blk_frozen BK236.out 3) | ((with_reducible refine gate_callee (f := 36) rfl ?_); refine goesL_ (some 14) rfl rfl Try.func36 (by kernel_rfl) rfl #[.agg #[.slice A0_0 l0_0.length c0_0, .slice A0_1 l0_1.length c0_1, .slice A0_2 l0_2.length c0_2, .slice A0_3 l0_3.length c0_3]] rfl (by (try simp only [List.map_toArray, List.map_cons, List.map_nil]); first | done | rfl | (simp only [List.length_drop, List.length_take]; rfl)) ?_; (with_reducible refine (herbariumlaw13_Heavy.calls k _ _ l0_0 _ _ l0_1 _ _ l0_2 _ _ l0_3 true _ ?side1 ?side2 ?side3 ?side4 ?side5 ?side6 ?side7 ?side8 A2.out).mono ?_); (case side1 => repeat (first | exact (Kd.C_below HR0_0.out HB.out) | (with_reducible refine Kd.C_alloc ?_ _) | (with_reducible refine Kd.C_drewN ?_ _) | (with_reducible refine Kd.C_drew ?_))); (case side2 => exact HC0_0.out); (case side3 => repeat (first | exact (Kd.C_below HR0_1.out HB.out) | (with_reducible refine Kd.C_alloc ?_ _) | (with_reducible refine Kd.C_drewN ?_ _) | (with_reducible refine Kd.C_drew ?_))); (case side4 => exact HC0_1.out); (case side5 => repeat (first | exact (Kd.C_below HR0_2.out HB.out) | (with_reducible refine Kd.C_alloc ?_ _) | (with_reducible refine Kd.C_drewN ?_ _) | (with_reducible refine Kd.C_drew ?_))); (case side6 => exact HC0_2.out); (case side7 => repeat (first | exact (Kd.C_below HR0_3.out HB.out) | (with_reducible refine Kd.C_alloc ?_ _) | (with_reducible refine Kd.C_drewN ?_ _) | (with_reducible refine Kd.C_drew ?_))); (case side8 => exact HC0_3.out); rintro e w6 ⟨rfl, hb⟩; refine ⟨_, rfl, ?_⟩; have n0_ := Aside0.mk (blk_below (g := gb236) (o := .cells #[.slice A0_0 l0_0.length c0_0, .slice A0_1 l0_1.length c0_1, .slice A0_2 l0_2.length c0_2, .slice A0_3 l0_3.length c0_3] 38 (0, 0)) (by (with_reducible repeat (first | refine blk_drewN ?_ _ | refine blk_drew ?_ | refine blk_alloc ?_ _)); exact BK236.out) hb); have n1_ := Aside0.mk (below_step (by repeat (first | (with_reducible first | exact HB.out | apply below_alloc | apply pw_below_drewN | apply below_drew1 | refine below_set ?_ GE236.out) | exact HB.out)) hb); clear BK236; clear HB; have BK236 := n0_; have HB := n1_; clear n0_ n1_; (try clear hb); (try clear hb2); (try clear hk); (try clear hi)))
    go_ret
    exact ⟨by first | rfl | (simp [errW_none, errW_some] <;> rfl) | (simp [*, errW_none, errW_some] <;> rfl), by repeat (first | (with_reducible first | exact HB.out | apply below_alloc | apply pw_below_drewN | apply below_drew1 | refine below_set ?_ GE236.out) | exact HB.out)⟩
  · replace c3 := Bool.eq_false_iff.mpr c3
    subst c3
    have H1 : (herbariumlaw13_SpaceApart.l0 k 0 l0_0 l0_1 l0_2 l0_3) = some r := by rw [if_neg (show ¬ (false = true) by decide)] at H; exact H
    clear H
    have H := H1
    clear H1
    have H' := Aside0.mk H
    clear H
    go_enter Try.func7, Try.ntmps7
    go_wp2_with (first | ((with_reducible refine gate_dst (N := 1) rfl ?_); (try (refine gate_guard (by rfl) ?_; dsimp only)); refine box_event ?hg (N := 1) ?hd (cs := #[.slice A0_0 l0_0.length c0_0, .slice A0_1 l0_1.length c0_1, .slice A0_2 l0_2.length c0_2, .slice A0_3 l0_3.length c0_3]) (t := 38) ?hr ?_; (case hd => rfl); (case hg => rfl); (case hr => first | (go_simp; done) | (go_simp; rfl)); intro gb236 hg w7 hbox hb; have n0_ := Aside0.mk (below_step (by repeat (first | (with_reducible first | exact HB.out | apply below_alloc | apply pw_below_drewN | apply below_drew1) | exact HB.out)) hb); have n1_ := Aside0.mk (hbox); have n2_ := Aside0.mk ((by rw [hg]; exact (below_size (by repeat (first | (with_reducible first | exact HB.out | apply below_alloc | apply pw_below_drewN | apply below_drew1) | exact HB.out))) : w.heap.size ≤ gb236)); have n3_ := Aside0.mk ((by rw [hg]; exact (below_size (by repeat (first | (with_reducible first | exact HB.out | apply below_alloc | apply pw_below_drewN | apply below_drew1) | exact HB.out))) : w.heap.size ≤ gb236)); clear HB; have HB := n0_; have BK236 := n1_; have GW236 := n2_; have GE236 := n3_; clear n0_ n1_ n2_ n3_; clear hb hbox hg; have hcz8_0 : w7.cell? ⟨gb236, 0, none⟩ = some (.slice A0_0 l0_0.length c0_0) := (blk_cell BK236.out 0).trans rfl; have hcz8_1 : w7.cell? ⟨gb236, 1, none⟩ = some (.slice A0_1 l0_1.length c0_1) := (blk_cell BK236.out 1).trans rfl; have hcz8_2 : w7.cell? ⟨gb236, 2, none⟩ = some (.slice A0_2 l0_2.length c0_2) := (blk_cell BK236.out 2).trans rfl; have hcz8_3 : w7.cell? ⟨gb236, 3, none⟩ = some (.slice A0_3 l0_3.length c0_3) := (blk_cell BK236.out 3).trans rfl; have hfz8_0 := blk_frozen BK236.out 0; have hfz8_1 := blk_frozen BK236.out 1; have hfz8_2 := blk_frozen BK236.out 2; have hfz8_3 := blk_frozen BK236.out 3) | ((with_reducible refine gate_callee (f := 36) rfl ?_); refine goesL_ (some 14) rfl rfl Try.func36 (by kernel_rfl) rfl #[.agg #[.slice A0_0 l0_0.length c0_0, .slice A0_1 l0_1.length c0_1, .slice A0_2 l0_2.length c0_2, .slice A0_3 l0_3.length c0_3]] rfl (by (try simp only [List.map_toArray, List.map_cons, List.map_nil]); first | done | rfl | (simp only [List.length_drop, List.length_take]; rfl)) ?_; (with_reducible refine (herbariumlaw13_Heavy.calls k _ _ l0_0 _ _ l0_1 _ _ l0_2 _ _ l0_3 false _ ?side1 ?side2 ?side3 ?side4 ?side5 ?side6 ?side7 ?side8 A2.out).mono ?_); (case side1 => repeat (first | exact (Kd.C_below HR0_0.out HB.out) | (with_reducible refine Kd.C_alloc ?_ _) | (with_reducible refine Kd.C_drewN ?_ _) | (with_reducible refine Kd.C_drew ?_))); (case side2 => exact HC0_0.out); (case side3 => repeat (first | exact (Kd.C_below HR0_1.out HB.out) | (with_reducible refine Kd.C_alloc ?_ _) | (with_reducible refine Kd.C_drewN ?_ _) | (with_reducible refine Kd.C_drew ?_))); (case side4 => exact HC0_1.out); (case side5 => repeat (first | exact (Kd.C_below HR0_2.out HB.out) | (with_reducible refine Kd.C_alloc ?_ _) | (with_reducible refine Kd.C_drewN ?_ _) | (with_reducible refine Kd.C_drew ?_))); (case side6 => exact HC0_2.out); (case side7 => repeat (first | exact (Kd.C_below HR0_3.out HB.out) | (with_reducible refine Kd.C_alloc ?_ _) | (with_reducible refine Kd.C_drewN ?_ _) | (with_reducible refine Kd.C_drew ?_))); (case side8 => exact HC0_3.out); rintro e w9 ⟨rfl, hb⟩; refine ⟨_, rfl, ?_⟩; have n0_ := Aside0.mk (blk_below (g := gb236) (o := .cells #[.slice A0_0 l0_0.length c0_0, .slice A0_1 l0_1.length c0_1, .slice A0_2 l0_2.length c0_2, .slice A0_3 l0_3.length c0_3] 38 (0, 0)) (by (with_reducible repeat (first | refine blk_drewN ?_ _ | refine blk_drew ?_ | refine blk_alloc ?_ _)); exact BK236.out) hb); have n1_ := Aside0.mk (below_step (by repeat (first | (with_reducible first | exact HB.out | apply below_alloc | apply pw_below_drewN | apply below_drew1 | refine below_set ?_ GE236.out) | exact HB.out)) hb); clear BK236; clear HB; have BK236 := n0_; have HB := n1_; clear n0_ n1_; (try clear hb); (try clear hb2); (try clear hk); (try clear hi)))
    go_loopg [3] k (fun kq v3 w' => ∃ (x3_1 : Int), v3 = .int .i64 x3_1 ∧ Aside0 (herbariumlaw13_SpaceApart.l0 kq x3_1 l0_0 l0_1 l0_2 l0_3 = some r) ∧ Aside0 (kq ≤ k) ∧ Aside0 (w'.heap[gb236]? = some (.cells #[(.slice A0_0 l0_0.length c0_0), (.slice A0_1 l0_1.length c0_1), (.slice A0_2 l0_2.length c0_2), (.slice A0_3 l0_3.length c0_3)] 38 (0, 0))) ∧ Aside0 (Below w.heap.size w w'))
    case atStart => exact ⟨(0), (by first | rfl | (simp; done) | (simp [*]; done)), H', ⟨Nat.le_refl _⟩, ⟨by (with_reducible repeat (first | refine blk_drewN ?_ _ | refine blk_drew ?_ | refine blk_alloc ?_ _)); exact BK236.out⟩, ⟨by repeat (first | (with_reducible first | exact HB.out | apply below_alloc | apply pw_below_drewN | apply below_drew1 | refine below_set ?_ GE236.out) | exact HB.out)⟩⟩
    case round =>
      clear H'
      try clear p2
      try clear c3
      try clear c7
      try clear hcz5_0
      try clear hcz5_1
      try clear hcz5_2
      try clear hcz5_3
      try clear hcz8_0
      try clear hcz8_1
      try clear hcz8_2
      try clear hcz8_3
      try clear hfz5_0
      try clear hfz5_1
      try clear hfz5_2
      try clear hfz5_3
      try clear hfz8_0
      try clear hfz8_1
      try clear hfz8_2
      try clear hfz8_3
      obtain ⟨x3_1, rfl, HA, HK1, BK236, HB⟩ := hrel
      cases gk with
      | zero => exact absurd HA.out (by simp [herbariumlaw13_SpaceApart.l0])
      | succ k1 =>
        have H := HA.out
        clear HA
        simp only [herbariumlaw13_SpaceApart.l0] at H
        have HC10 := Aside0.mk H
        clear H
        go_upto_region 4 with (fail)
        go_cut [23] (fun v23 wc => ∃ (kq : Nat) (x23_9 : Bool), v23 = .bool x23_9 ∧ Aside0 (herbariumlaw13_SpaceApart.j1 kq x3_1 x23_9 l0_0 l0_1 l0_2 l0_3 = some r) ∧ Aside0 (kq ≤ k1) ∧ Aside0 (wc.heap[gb236]? = some (.cells #[(.slice A0_0 l0_0.length c0_0), (.slice A0_1 l0_1.length c0_1), (.slice A0_2 l0_2.length c0_2), (.slice A0_3 l0_3.length c0_3)] 38 (0, 0))) ∧ Aside0 (Below w.heap.size w wc))
        case first =>
          have H := HC10.out
          clear HC10
          by_cases c11 : x3_1 < (l0_0.length : Int)
          · rw [if_pos c11] at H
            have c11b0 : decide (x3_1 < (l0_0.length : Int)) = true := decide_eq_true c11
            clear c11
            (first | rw [c11b0] | (simp only [i64_w, i32_w]; rw [c11b0]) | skip)
            have H' := Aside0.mk H
            clear H
            have hcz12_0 : wr.cell? ⟨gb236, 0, none⟩ = some (.slice A0_0 l0_0.length c0_0) := (blk_cell BK236.out 0).trans rfl
            have hcz12_1 : wr.cell? ⟨gb236, 1, none⟩ = some (.slice A0_1 l0_1.length c0_1) := (blk_cell BK236.out 1).trans rfl
            have hcz12_2 : wr.cell? ⟨gb236, 2, none⟩ = some (.slice A0_2 l0_2.length c0_2) := (blk_cell BK236.out 2).trans rfl
            have hcz12_3 : wr.cell? ⟨gb236, 3, none⟩ = some (.slice A0_3 l0_3.length c0_3) := (blk_cell BK236.out 3).trans rfl
            have hfz12_0 := blk_frozen BK236.out 0
            have hfz12_1 := blk_frozen BK236.out 1
            have hfz12_2 := blk_frozen BK236.out 2
            have hfz12_3 := blk_frozen BK236.out 3
            go_wp2
            go_meet
            case rel => exact ⟨_, (decide (x3_1 < 5)), (by first | rfl | (simp; done) | (simp [*]; done)), H', ⟨by have := HK1.out; first | omega | exact Nat.le_refl _⟩, ⟨by (with_reducible repeat (first | refine blk_drewN ?_ _ | refine blk_drew ?_ | refine blk_alloc ?_ _)); exact BK236.out⟩, ⟨by repeat (first | (with_reducible first | exact HB.out | apply below_alloc | apply pw_below_drewN | apply below_drew1 | refine below_set ?_ GE236.out) | exact HB.out)⟩⟩
          · rw [if_neg c11] at H
            have c11b0 : decide (x3_1 < (l0_0.length : Int)) = false := decide_eq_false c11
            clear c11
            (first | rw [c11b0] | (simp only [i64_w, i32_w]; rw [c11b0]) | skip)
            have H' := Aside0.mk H
            clear H
            have hcz13_0 : wr.cell? ⟨gb236, 0, none⟩ = some (.slice A0_0 l0_0.length c0_0) := (blk_cell BK236.out 0).trans rfl
            have hcz13_1 : wr.cell? ⟨gb236, 1, none⟩ = some (.slice A0_1 l0_1.length c0_1) := (blk_cell BK236.out 1).trans rfl
            have hcz13_2 : wr.cell? ⟨gb236, 2, none⟩ = some (.slice A0_2 l0_2.length c0_2) := (blk_cell BK236.out 2).trans rfl
            have hcz13_3 : wr.cell? ⟨gb236, 3, none⟩ = some (.slice A0_3 l0_3.length c0_3) := (blk_cell BK236.out 3).trans rfl
            have hfz13_0 := blk_frozen BK236.out 0
            have hfz13_1 := blk_frozen BK236.out 1
            have hfz13_2 := blk_frozen BK236.out 2
            have hfz13_3 := blk_frozen BK236.out 3
            go_wp2
            go_meet
            case rel => exact ⟨_, (false), (by first | rfl | (simp; done) | (simp [*]; done)), H', ⟨by have := HK1.out; first | omega | exact Nat.le_refl _⟩, ⟨by (with_reducible repeat (first | refine blk_drewN ?_ _ | refine blk_drew ?_ | refine blk_alloc ?_ _)); exact BK236.out⟩, ⟨by repeat (first | (with_reducible first | exact HB.out | apply below_alloc | apply pw_below_drewN | apply below_drew1 | refine below_set ?_ GE236.out) | exact HB.out)⟩⟩
        case rest =>
          clear HC10
          try clear c1
          try clear p2
          try clear c3
          try clear c7
          try clear c11
          try clear c11b0
          try clear hcz12_0
          try clear hcz12_1
          try clear hcz12_2
          try clear hcz12_3
          try clear hcz13_0
          try clear hcz13_1
          try clear hcz13_2
          try clear hcz13_3
          try clear hcz5_0
          try clear hcz5_1
          try clear hcz5_2
          try clear hcz5_3
          try clear hcz8_0
          try clear hcz8_1
          try clear hcz8_2
          try clear hcz8_3
          try clear hfz12_0
          try clear hfz12_1
          try clear hfz12_2
          try clear hfz12_3
          try clear hfz13_0
          try clear hfz13_1
          try clear hfz13_2
          try clear hfz13_3
          try clear hfz5_0
          try clear hfz5_1
          try clear hfz5_2
          try clear hfz5_3
          try clear hfz8_0
          try clear hfz8_1
          try clear hfz8_2
          try clear hfz8_3
          try clear p2
          obtain ⟨kq, x23_9, rfl, HA, HJ9, BK236, HB⟩ := hcut
          cases kq with
          | zero => exact absurd HA.out (by simp [herbariumlaw13_SpaceApart.j1])
          | succ kj9 =>
            have H := HA.out
            clear HA
            simp only [herbariumlaw13_SpaceApart.j1] at H
            by_cases c14 : x23_9 = true
            · subst c14
              have H1 : (herbariumlaw13_SpaceApart.l1 kj9 x3_1 1 l0_0 l0_1 l0_2 l0_3) = some r := by rw [if_pos rfl] at H; exact H
              clear H
              have H := H1
              clear H1
              have H' := Aside0.mk H
              clear H
              go_wp2
              go_loopg [4] kj9 (fun kq v4 w' => ∃ (x4_3 : Int), v4 = .int .i64 x4_3 ∧ Aside0 (herbariumlaw13_SpaceApart.l1 kq x3_1 x4_3 l0_0 l0_1 l0_2 l0_3 = some r) ∧ Aside0 (kq ≤ kj9) ∧ Aside0 (w'.heap[gb236]? = some (.cells #[(.slice A0_0 l0_0.length c0_0), (.slice A0_1 l0_1.length c0_1), (.slice A0_2 l0_2.length c0_2), (.slice A0_3 l0_3.length c0_3)] 38 (0, 0))) ∧ Aside0 (Below w.heap.size w w'))
              case atStart => exact ⟨(1), (by first | rfl | (simp; done) | (simp [*]; done)), H', ⟨Nat.le_refl _⟩, ⟨by (with_reducible repeat (first | refine blk_drewN ?_ _ | refine blk_drew ?_ | refine blk_alloc ?_ _)); exact BK236.out⟩, ⟨by repeat (first | (with_reducible first | exact HB.out | apply below_alloc | apply pw_below_drewN | apply below_drew1 | refine below_set ?_ GE236.out) | exact HB.out)⟩⟩
              case round =>
                clear H'
                try clear c1
                try clear p2
                try clear c3
                try clear c7
                try clear c11
                try clear c11b0
                try clear c14
                try clear hcz12_0
                try clear hcz12_1
                try clear hcz12_2
                try clear hcz12_3
                try clear hcz13_0
                try clear hcz13_1
                try clear hcz13_2
                try clear hcz13_3
                try clear hcz5_0
                try clear hcz5_1
                try clear hcz5_2
                try clear hcz5_3
                try clear hcz8_0
                try clear hcz8_1
                try clear hcz8_2
                try clear hcz8_3
                try clear hfz12_0
                try clear hfz12_1
                try clear hfz12_2
                try clear hfz12_3
                try clear hfz13_0
                try clear hfz13_1
                try clear hfz13_2
                try clear hfz13_3
                try clear hfz5_0
                try clear hfz5_1
                try clear hfz5_2
                try clear hfz5_3
                try clear hfz8_0
                try clear hfz8_1
                try clear hfz8_2
                try clear hfz8_3
                try clear p2
                obtain ⟨x4_3, rfl, HA, HK3, BK236, HB⟩ := hrel
                cases gk with
                | zero => exact absurd HA.out (by simp [herbariumlaw13_SpaceApart.l1])
                | succ k3 =>
                  have H := HA.out
                  clear HA
                  simp only [herbariumlaw13_SpaceApart.l1] at H
                  by_cases c15 : x4_3 < 9
                  · rw [if_pos c15] at H
                    have c15b0 : decide (x4_3 < 9) = true := decide_eq_true c15
                    clear c15
                    by_cases c16 : 0 ≤ x3_1
                    · rw [if_pos c16] at H
                      have c16b0 : decide (0 ≤ x3_1) = true := decide_eq_true c16
                      clear c16
                      by_cases c17 : x3_1 < (l0_0.length : Int)
                      · rw [if_pos c17] at H
                        have c17b0 : decide (x3_1 < (l0_0.length : Int)) = true := decide_eq_true c17
                        clear c17
                        replace H := Option.bind_eq_some_iff.mp H
                        obtain ⟨⟨t240, t241⟩, A180, H⟩ := H
                        replace H : ((herbariumlaw13_num.f t241).bind fun t242 => (if t242 = 0 then (herbariumlaw13_SpaceApart.j3 k3 x3_1 x4_3 t240 (decide (((rd_L4 l0_0 x3_1).length : Int) > 12)) l0_0 l0_1 l0_2 l0_3) else (herbariumlaw13_SpaceApart.j3 k3 x3_1 x4_3 t240 true l0_0 l0_1 l0_2 l0_3))) = some r := H
                        have A18 := Aside0.mk A180
                        clear A180
                        have HC19 := Aside0.mk H
                        clear H
                        have hcz20_0 : wr.cell? ⟨gb236, 0, none⟩ = some (.slice A0_0 l0_0.length c0_0) := (blk_cell BK236.out 0).trans rfl
                        have hcz20_1 : wr.cell? ⟨gb236, 1, none⟩ = some (.slice A0_1 l0_1.length c0_1) := (blk_cell BK236.out 1).trans rfl
                        have hcz20_2 : wr.cell? ⟨gb236, 2, none⟩ = some (.slice A0_2 l0_2.length c0_2) := (blk_cell BK236.out 2).trans rfl
                        have hcz20_3 : wr.cell? ⟨gb236, 3, none⟩ = some (.slice A0_3 l0_3.length c0_3) := (blk_cell BK236.out 3).trans rfl
                        have hfz20_0 := blk_frozen BK236.out 0
                        have hfz20_1 := blk_frozen BK236.out 1
                        have hfz20_2 := blk_frozen BK236.out 2
                        have hfz20_3 := blk_frozen BK236.out 3
                        have p239 : 0 ≤ (x3_1 : Int) := of_decide_eq_true (by first | (with_reducible assumption) | assumption)
                        have q239 : x3_1 < (l0_0.length : Int) := of_decide_eq_true (by first | (with_reducible assumption) | assumption)
                        obtain ⟨ad239, A239_0, c239_0, e239, hx239_0, hl239_0, hi239_0⟩ := at_L4 HR0_0.out x3_1 p239 q239
                        cases e239
                        replace hx239_0 := (HB.out.cell (World.block_lt_of_cell? w _ hx239_0)).trans hx239_0
                        have HR239_0 := Aside0.mk hi239_0
                        have HC239_0 := Aside0.mk hl239_0
                        clear hi239_0 hl239_0
                        replace p239 := eq_true p239
                        replace q239 := eq_true q239
                        go_upto_region 10 with (first | ((with_reducible refine gate_callee (f := 28) rfl ?_); refine goesL_ (some 37) rfl rfl Try.func28 (by kernel_rfl) rfl #[.slice A239_0 (rd_L4 l0_0 x3_1).length c239_0, .int .i64 30, .int .i64 x4_3] rfl (by (try simp only [List.map_toArray, List.map_cons, List.map_nil]); first | done | rfl | (simp only [List.length_drop, List.length_take]; rfl)) ?_; (with_reducible refine (space_Find.calls k3 _ _ (rd_L4 l0_0 x3_1) 30 x4_3 t240 t241 _ ?side1 ?side2 A18.out).mono ?_); (case side1 => repeat (first | exact (Kd.C_below HR239_0.out HB.out) | (with_reducible refine Kd.C_alloc ?_ _) | (with_reducible refine Kd.C_drewN ?_ _) | (with_reducible refine Kd.C_drew ?_))); (case side2 => exact HC239_0.out); rintro e w21 ⟨rfl, hb⟩; refine ⟨_, rfl, ?_⟩; have n0_ := Aside0.mk (blk_below (g := gb236) (o := .cells #[.slice (some ad239) l0_0.length c0_0, .slice A0_1 l0_1.length c0_1, .slice A0_2 l0_2.length c0_2, .slice A0_3 l0_3.length c0_3] 38 (0, 0)) (by (with_reducible repeat (first | refine blk_drewN ?_ _ | refine blk_drew ?_ | refine blk_alloc ?_ _)); exact BK236.out) hb); have n1_ := Aside0.mk (below_step (by repeat (first | (with_reducible first | exact HB.out | apply below_alloc | apply pw_below_drewN | apply below_drew1 | refine below_set ?_ GE236.out) | exact HB.out)) hb); clear BK236; clear HB; have BK236 := n0_; have HB := n1_; clear n0_ n1_; (try clear hb); (try clear hb2); (try clear hk); (try clear hi)))
                        (try simp only [Act.put, List.setIfInBounds_toArray, List.set_cons_zero, List.set_cons_succ])
                        go_cut [51] (fun v51 wc => ∃ (kq : Nat) (x51_18 : Bool), v51 = .bool x51_18 ∧ Aside0 (herbariumlaw13_SpaceApart.j3 kq x3_1 x4_3 t240 x51_18 l0_0 l0_1 l0_2 l0_3 = some r) ∧ Aside0 (kq ≤ k3) ∧ Aside0 (wc.heap[gb236]? = some (.cells #[(.slice (some ad239) l0_0.length c0_0), (.slice A0_1 l0_1.length c0_1), (.slice A0_2 l0_2.length c0_2), (.slice A0_3 l0_3.length c0_3)] 38 (0, 0))) ∧ Aside0 (Below w.heap.size w wc))
                        case first =>
                          have H := HC19.out
                          clear HC19
                          replace H := Option.bind_eq_some_iff.mp H
                          obtain ⟨t242, A220, H⟩ := H
                          replace H : (if t242 = 0 then (herbariumlaw13_SpaceApart.j3 k3 x3_1 x4_3 t240 (decide (((rd_L4 l0_0 x3_1).length : Int) > 12)) l0_0 l0_1 l0_2 l0_3) else (herbariumlaw13_SpaceApart.j3 k3 x3_1 x4_3 t240 true l0_0 l0_1 l0_2 l0_3)) = some r := H
                          have A22 := Aside0.mk A220
                          clear A220
                          by_cases c23 : t242 = 0
                          · rw [if_pos c23] at H
                            have c23b0 : (t242 == 0) = true := beq_iff_eq.mpr c23
                            have c23b1 : (t242 != 0) = false := bne_eq_false_iff_eq.mpr c23
                            clear c23
                            (first | rw [c23b0] | (simp only [i64_w, i32_w]; rw [c23b0]) | skip)
                            have H' := Aside0.mk H
                            clear H
                            go_wp2_with (first | ((with_reducible refine gate_callee (f := 31) rfl ?_); refine goesL_ (some 41) rfl rfl Try.func31 (by kernel_rfl) rfl #[.int .i64 t241] rfl (by (try simp only [List.map_toArray, List.map_cons, List.map_nil]); first | done | rfl | (simp only [List.length_drop, List.length_take]; rfl)) ?_; (with_reducible refine (herbariumlaw13_num.calls t241 t242 _ A22.out).mono ?_); rintro e w' ⟨rfl, ⟨nd, rfl⟩⟩; refine ⟨_, rfl, ?_⟩; have hcz24_0 : w21.cell? ⟨gb236, 0, none⟩ = some (.slice (some ad239) l0_0.length c0_0) := (blk_cell BK236.out 0).trans rfl; have hcz24_1 : w21.cell? ⟨gb236, 1, none⟩ = some (.slice A0_1 l0_1.length c0_1) := (blk_cell BK236.out 1).trans rfl; have hcz24_2 : w21.cell? ⟨gb236, 2, none⟩ = some (.slice A0_2 l0_2.length c0_2) := (blk_cell BK236.out 2).trans rfl; have hcz24_3 : w21.cell? ⟨gb236, 3, none⟩ = some (.slice A0_3 l0_3.length c0_3) := (blk_cell BK236.out 3).trans rfl; have hfz24_0 := blk_frozen BK236.out 0; have hfz24_1 := blk_frozen BK236.out 1; have hfz24_2 := blk_frozen BK236.out 2; have hfz24_3 := blk_frozen BK236.out 3; have p243 : 0 ≤ (x3_1 : Int) := of_decide_eq_true (by first | (with_reducible assumption) | assumption); have q243 : x3_1 < (l0_0.length : Int) := of_decide_eq_true (by first | (with_reducible assumption) | assumption); obtain ⟨ad243, A243_0, c243_0, e243, hx243_0, hl243_0, hi243_0⟩ := at_L4 HR0_0.out x3_1 p243 q243; obtain rfl : ad239 = ad243 := (by injection e243); replace hx243_0 := (HB.out.cell (World.block_lt_of_cell? w _ hx243_0)).trans hx243_0; have HR243_0 := Aside0.mk hi243_0; have HC243_0 := Aside0.mk hl243_0; clear hi243_0 hl243_0; replace p243 := eq_true p243; replace q243 := eq_true q243))
                            go_meet
                            case rel => exact ⟨_, (decide (((rd_L4 l0_0 x3_1).length : Int) > 12)), (by first | rfl | (simp; done) | (simp [*]; done)), H', ⟨by have := HK1.out; have := HJ9.out; have := HK3.out; first | omega | exact Nat.le_refl _⟩, ⟨by (with_reducible repeat (first | refine blk_drewN ?_ _ | refine blk_drew ?_ | refine blk_alloc ?_ _)); exact BK236.out⟩, ⟨by repeat (first | (with_reducible first | exact HB.out | apply below_alloc | apply pw_below_drewN | apply below_drew1 | refine below_set ?_ GE236.out) | exact HB.out)⟩⟩
                          · rw [if_neg c23] at H
                            have c23b0 : (t242 == 0) = false := beq_eq_false_iff_ne.mpr c23
                            have c23b1 : (t242 != 0) = true := bne_iff_ne.mpr c23
                            (first | rw [c23b0] | (simp only [i64_w, i32_w]; rw [c23b0]) | skip)
                            have H' := Aside0.mk H
                            clear H
                            go_wp2_with (first | ((with_reducible refine gate_callee (f := 31) rfl ?_); refine goesL_ (some 41) rfl rfl Try.func31 (by kernel_rfl) rfl #[.int .i64 t241] rfl (by (try simp only [List.map_toArray, List.map_cons, List.map_nil]); first | done | rfl | (simp only [List.length_drop, List.length_take]; rfl)) ?_; (with_reducible refine (herbariumlaw13_num.calls t241 t242 _ A22.out).mono ?_); rintro e w' ⟨rfl, ⟨nd, rfl⟩⟩; refine ⟨_, rfl, ?_⟩))
                            go_meet
                            case rel => exact ⟨_, (true), (by first | rfl | (simp; done) | (simp [*]; done)), H', ⟨by have := HK1.out; have := HJ9.out; have := HK3.out; first | omega | exact Nat.le_refl _⟩, ⟨by (with_reducible repeat (first | refine blk_drewN ?_ _ | refine blk_drew ?_ | refine blk_alloc ?_ _)); exact BK236.out⟩, ⟨by repeat (first | (with_reducible first | exact HB.out | apply below_alloc | apply pw_below_drewN | apply below_drew1 | refine below_set ?_ GE236.out) | exact HB.out)⟩⟩
                        case rest =>
                          clear HC19
                          try clear c1
                          try clear c2
                          try clear p2
                          try clear q2
                          try clear hx2
                          try clear c3
                          try clear c7
                          try clear c11
                          try clear c11b0
                          try clear c14
                          try clear c15
                          try clear c15b0
                          try clear c16
                          try clear c16b0
                          try clear c17
                          try clear c17b0
                          try clear c23
                          try clear c23b0
                          try clear c23b1
                          try clear p23
                          try clear q23
                          try clear hx23
                          try clear c24
                          try clear p24
                          try clear q24
                          try clear hx24
                          try clear hcz12_0
                          try clear hcz12_1
                          try clear hcz12_2
                          try clear hcz12_3
                          try clear hcz13_0
                          try clear hcz13_1
                          try clear hcz13_2
                          try clear hcz13_3
                          try clear hcz20_0
                          try clear hcz20_1
                          try clear hcz20_2
                          try clear hcz20_3
                          try clear hcz24_0
                          try clear hcz24_1
                          try clear hcz24_2
                          try clear hcz24_3
                          try clear hcz5_0
                          try clear hcz5_1
                          try clear hcz5_2
                          try clear hcz5_3
                          try clear hcz8_0
                          try clear hcz8_1
                          try clear hcz8_2
                          try clear hcz8_3
                          try clear hfz12_0
                          try clear hfz12_1
                          try clear hfz12_2
                          try clear hfz12_3
                          try clear hfz13_0
                          try clear hfz13_1
                          try clear hfz13_2
                          try clear hfz13_3
                          try clear hfz20_0
                          try clear hfz20_1
                          try clear hfz20_2
                          try clear hfz20_3
                          try clear hfz24_0
                          try clear hfz24_1
                          try clear hfz24_2
                          try clear hfz24_3
                          try clear hfz5_0
                          try clear hfz5_1
                          try clear hfz5_2
                          try clear hfz5_3
                          try clear hfz8_0
                          try clear hfz8_1
                          try clear hfz8_2
                          try clear hfz8_3
                          try clear hx239_0
                          try clear hx243_0
                          try clear p2
                          try clear p239
                          try clear p243
                          try clear q239
                          try clear q243
                          obtain ⟨kq, x51_18, rfl, HA, HJ18, BK236, HB⟩ := hcut
                          cases kq with
                          | zero => exact absurd HA.out (by simp [herbariumlaw13_SpaceApart.j3])
                          | succ kj18 =>
                            have H := HA.out
                            clear HA
                            simp only [herbariumlaw13_SpaceApart.j3] at H
                            by_cases c25 : x51_18 = true
                            · subst c25
                              have H1 : (herbariumlaw13_SpaceApart.l1 kj18 x3_1 (wrap64 (x4_3 + 1)) l0_0 l0_1 l0_2 l0_3) = some r := by rw [if_pos rfl] at H; exact H
                              clear H
                              have H := H1
                              clear H1
                              have H' := Aside0.mk H
                              clear H
                              go_wp2
                              go_roundg kj18
                              case measure => have := HK1.out; have := HJ9.out; have := HK3.out; have := HJ18.out; omega
                              case rel => exact ⟨(wrap64 (x4_3 + 1)), (by first | rfl | (simp; done) | (simp [*]; done)), H', ⟨by have := HK1.out; have := HJ9.out; have := HK3.out; have := HJ18.out; omega⟩, ⟨by (with_reducible repeat (first | refine blk_drewN ?_ _ | refine blk_drew ?_ | refine blk_alloc ?_ _)); exact BK236.out⟩, ⟨by repeat (first | (with_reducible first | exact HB.out | apply below_alloc | apply pw_below_drewN | apply below_drew1 | refine below_set ?_ GE236.out) | exact HB.out)⟩⟩
                            · replace c25 := Bool.eq_false_iff.mpr c25
                              subst c25
                              have H1 : (if 0 ≤ x3_1 then (if x3_1 < (l0_0.length : Int) then ((herbariumref0_CopyRuns.f kj18 (rd_L4 l0_0 x3_1)).bind fun t245 => (if t245.length < 8796093022208 then ((space_Free.f kj18 (rd_L4 l0_0 x3_1) 30).bind fun bt252 => ((space_Free.f kj18 (t245 ++ [(⟨t240, x4_3⟩ : S41)]) 30).bind fun bt254 => ((herbariumlaw13_num.f bt252.2).bind fun t256 => (if t256 = 0 then ((herbariumlaw13_num.f bt254.2).bind fun t257 => (if t257 = 0 then (herbariumlaw13_SpaceApart.j4 kj18 x3_1 x4_3 t240 (bt252.1 != (wrap64 (bt254.1 + x4_3))) l0_0 l0_1 l0_2 l0_3) else (herbariumlaw13_SpaceApart.j4 kj18 x3_1 x4_3 t240 true l0_0 l0_1 l0_2 l0_3))) else (herbariumlaw13_SpaceApart.j4 kj18 x3_1 x4_3 t240 true l0_0 l0_1 l0_2 l0_3))))) else (none))) else (none)) else (none)) = some r := by rw [if_neg (show ¬ (false = true) by decide)] at H; exact H
                              clear H
                              have H := H1
                              clear H1
                              by_cases c26 : 0 ≤ x3_1
                              · rw [if_pos c26] at H
                                have c26b0 : decide (0 ≤ x3_1) = true := decide_eq_true c26
                                clear c26
                                by_cases c27 : x3_1 < (l0_0.length : Int)
                                · rw [if_pos c27] at H
                                  have c27b0 : decide (x3_1 < (l0_0.length : Int)) = true := decide_eq_true c27
                                  clear c27
                                  replace H := Option.bind_eq_some_iff.mp H
                                  obtain ⟨t245, A280, H⟩ := H
                                  replace H : (if t245.length < 8796093022208 then ((space_Free.f kj18 (rd_L4 l0_0 x3_1) 30).bind fun bt252 => ((space_Free.f kj18 (t245 ++ [(⟨t240, x4_3⟩ : S41)]) 30).bind fun bt254 => ((herbariumlaw13_num.f bt252.2).bind fun t256 => (if t256 = 0 then ((herbariumlaw13_num.f bt254.2).bind fun t257 => (if t257 = 0 then (herbariumlaw13_SpaceApart.j4 kj18 x3_1 x4_3 t240 (bt252.1 != (wrap64 (bt254.1 + x4_3))) l0_0 l0_1 l0_2 l0_3) else (herbariumlaw13_SpaceApart.j4 kj18 x3_1 x4_3 t240 true l0_0 l0_1 l0_2 l0_3))) else (herbariumlaw13_SpaceApart.j4 kj18 x3_1 x4_3 t240 true l0_0 l0_1 l0_2 l0_3))))) else (none)) = some r := H
                                  have A28 := Aside0.mk A280
                                  clear A280
                                  by_cases c29 : t245.length < 8796093022208
                                  · rw [if_pos c29] at H
                                    have LMc29 := Aside0.mk c29
                                    clear c29
                                    obtain ⟨y248, hy248⟩ : ∃ y_ : List (S41), y_ = (t245 ++ [(⟨t240, x4_3⟩ : S41)]) := ⟨_, rfl⟩
                                    replace H : ((space_Free.f kj18 (rd_L4 l0_0 x3_1) 30).bind fun bt252 => ((space_Free.f kj18 y248 30).bind fun bt254 => ((herbariumlaw13_num.f bt252.2).bind fun t256 => (if t256 = 0 then ((herbariumlaw13_num.f bt254.2).bind fun t257 => (if t257 = 0 then (herbariumlaw13_SpaceApart.j4 kj18 x3_1 x4_3 t240 (bt252.1 != (wrap64 (bt254.1 + x4_3))) l0_0 l0_1 l0_2 l0_3) else (herbariumlaw13_SpaceApart.j4 kj18 x3_1 x4_3 t240 true l0_0 l0_1 l0_2 l0_3))) else (herbariumlaw13_SpaceApart.j4 kj18 x3_1 x4_3 t240 true l0_0 l0_1 l0_2 l0_3))))) = some r := by first | (rw [hy248]; with_reducible exact H) | (have H2_ := (Option.bind_some _ _).symm.trans H; rw [hy248]; with_reducible exact H2_) | (have H2_ := (Option.bind_some _ _).symm.trans H; with_reducible exact H2_) | with_reducible exact H | (rw [hy248]; exact H) | exact H
                                    have Ny248 := Aside0.mk hy248
                                    clear hy248
                                    replace H := Option.bind_eq_some_iff.mp H
                                    obtain ⟨⟨t252, t253⟩, A300, H⟩ := H
                                    replace H : ((space_Free.f kj18 y248 30).bind fun bt254 => ((herbariumlaw13_num.f t253).bind fun t256 => (if t256 = 0 then ((herbariumlaw13_num.f bt254.2).bind fun t257 => (if t257 = 0 then (herbariumlaw13_SpaceApart.j4 kj18 x3_1 x4_3 t240 (t252 != (wrap64 (bt254.1 + x4_3))) l0_0 l0_1 l0_2 l0_3) else (herbariumlaw13_SpaceApart.j4 kj18 x3_1 x4_3 t240 true l0_0 l0_1 l0_2 l0_3))) else (herbariumlaw13_SpaceApart.j4 kj18 x3_1 x4_3 t240 true l0_0 l0_1 l0_2 l0_3)))) = some r := H
                                    have A30 := Aside0.mk A300
                                    clear A300
                                    replace H := Option.bind_eq_some_iff.mp H
                                    obtain ⟨⟨t254, t255⟩, A310, H⟩ := H
                                    replace H : ((herbariumlaw13_num.f t253).bind fun t256 => (if t256 = 0 then ((herbariumlaw13_num.f t255).bind fun t257 => (if t257 = 0 then (herbariumlaw13_SpaceApart.j4 kj18 x3_1 x4_3 t240 (t252 != (wrap64 (t254 + x4_3))) l0_0 l0_1 l0_2 l0_3) else (herbariumlaw13_SpaceApart.j4 kj18 x3_1 x4_3 t240 true l0_0 l0_1 l0_2 l0_3))) else (herbariumlaw13_SpaceApart.j4 kj18 x3_1 x4_3 t240 true l0_0 l0_1 l0_2 l0_3))) = some r := H
                                    have A31 := Aside0.mk A310
                                    clear A310
                                    have HC32 := Aside0.mk H
                                    clear H
                                    have hcz33_0 : wc.cell? ⟨gb236, 0, none⟩ = some (.slice (some ad239) l0_0.length c0_0) := (blk_cell BK236.out 0).trans rfl
                                    have hcz33_1 : wc.cell? ⟨gb236, 1, none⟩ = some (.slice A0_1 l0_1.length c0_1) := (blk_cell BK236.out 1).trans rfl
                                    have hcz33_2 : wc.cell? ⟨gb236, 2, none⟩ = some (.slice A0_2 l0_2.length c0_2) := (blk_cell BK236.out 2).trans rfl
                                    have hcz33_3 : wc.cell? ⟨gb236, 3, none⟩ = some (.slice A0_3 l0_3.length c0_3) := (blk_cell BK236.out 3).trans rfl
                                    have hfz33_0 := blk_frozen BK236.out 0
                                    have hfz33_1 := blk_frozen BK236.out 1
                                    have hfz33_2 := blk_frozen BK236.out 2
                                    have hfz33_3 := blk_frozen BK236.out 3
                                    have p244 : 0 ≤ (x3_1 : Int) := of_decide_eq_true (by first | (with_reducible assumption) | assumption)
                                    have q244 : x3_1 < (l0_0.length : Int) := of_decide_eq_true (by first | (with_reducible assumption) | assumption)
                                    obtain ⟨ad244, A244_0, c244_0, e244, hx244_0, hl244_0, hi244_0⟩ := at_L4 HR0_0.out x3_1 p244 q244
                                    obtain rfl : ad239 = ad244 := (by injection e244)
                                    replace hx244_0 := (HB.out.cell (World.block_lt_of_cell? w _ hx244_0)).trans hx244_0
                                    have HR244_0 := Aside0.mk hi244_0
                                    have HC244_0 := Aside0.mk hl244_0
                                    clear hi244_0 hl244_0
                                    replace p244 := eq_true p244
                                    replace q244 := eq_true q244
                                    go_upto_region 14 with (first | ((with_reducible refine gate_callee (f := 37) rfl ?_); refine goesL_ (some 57) rfl rfl Try.func37 (by kernel_rfl) rfl #[.slice A244_0 (rd_L4 l0_0 x3_1).length c244_0] rfl (by (try simp only [List.map_toArray, List.map_cons, List.map_nil]); first | done | rfl | (simp only [List.length_drop, List.length_take]; rfl)) ?_; (with_reducible refine (herbariumref0_CopyRuns.calls kj18 _ _ (rd_L4 l0_0 x3_1) t245 _ ?side1 ?side2 A28.out).mono ?_); (case side1 => repeat (first | exact (Kd.C_below HR244_0.out HB.out) | (with_reducible refine Kd.C_alloc ?_ _) | (with_reducible refine Kd.C_drewN ?_ _) | (with_reducible refine Kd.C_drew ?_))); (case side2 => exact HC244_0.out); rintro e w34 ⟨v246, rfl, ho0, hb⟩; refine ⟨_, rfl, ?_⟩; have n0_ := Aside0.mk (Kd.R_lower ho0 (below_size (by repeat (first | (with_reducible first | exact HB.out | apply below_alloc | apply pw_below_drewN | apply below_drew1 | refine below_set ?_ GE236.out) | exact HB.out)))); have n1_ := Aside0.mk (blk_below (g := gb236) (o := .cells #[.slice (some ad239) l0_0.length c0_0, .slice A0_1 l0_1.length c0_1, .slice A0_2 l0_2.length c0_2, .slice A0_3 l0_3.length c0_3] 38 (0, 0)) (by (with_reducible repeat (first | refine blk_drewN ?_ _ | refine blk_drew ?_ | refine blk_alloc ?_ _)); exact BK236.out) hb); have n2_ := Aside0.mk (below_step (by repeat (first | (with_reducible first | exact HB.out | apply below_alloc | apply pw_below_drewN | apply below_drew1 | refine below_set ?_ GE236.out) | exact HB.out)) hb); clear BK236; clear HB; have HO247 := n0_; have BK236 := n1_; have HB := n2_; clear n0_ n1_ n2_; (try clear hb); (try clear hb2); (try clear hk); (try clear hi); (try clear ho0)) | ((with_reducible refine gate_builtin (b := .append) (xs := #[.tmp 57, .tmp 61]) rfl ?_); (try (refine gate_guard (by rfl) ?_; dsimp only)); at_builtin; refine Kd.R_append k41 (w0 := w) w.heap.size rfl (.tmp 57) (.tmp 61) 39 41 (.agg #[(.int .i64 0), (.int .i64 0)]) 16 rfl Try.underlying39 info41 rfl (by decide) (by omega) v246 t245 (⟨t240, x4_3⟩ : S41) [.int .i64 t240, .int .i64 x4_3] (fun _ => True) (fun _ => False) rfl rfl ?aP (fun _ hk => hk.elim) ?aF ?aO ?aB ?aS ?aL ?_; (case aP => exact k41_mkM _ _ _ (⟨t240, x4_3⟩ : S41)); (case aB => exact (by repeat (first | (with_reducible first | exact HB.out | apply below_alloc | apply pw_below_drewN | apply below_drew1 | refine below_set ?_ GE236.out) | exact HB.out))); (case aF => exact (fun _ _ => trivial)); (case aO => exact (by (with_reducible repeat (first | apply Kd.R_alloc | apply Kd.R_drewN | apply Kd.R_drew)); exact HO247.out)); (case aS => exact (below_size (by repeat (first | (with_reducible first | exact HB.out | apply below_alloc | apply pw_below_drewN | apply below_drew1 | refine below_set ?_ GE236.out) | exact HB.out)))); (case aL => have := LMc29.out; omega); intro v249 w35 ho hb hg hat; rw [← Ny248.out] at ho; have n0_ := Aside0.mk (blk_grown (g := gb236) (o := .cells #[.slice (some ad239) l0_0.length c0_0, .slice A0_1 l0_1.length c0_1, .slice A0_2 l0_2.length c0_2, .slice A0_3 l0_3.length c0_3] 38 (0, 0)) (by (with_reducible repeat (first | refine blk_drewN ?_ _ | refine blk_drew ?_ | refine blk_alloc ?_ _)); exact BK236.out) hg (Kd.R_ne HO247.out BK236.out (by decide))); have n1_ := Aside0.mk (hb); have n2_ := Aside0.mk (ho); clear BK236; clear HB; clear HO247; have BK236 := n0_; have HB := n1_; have HO250 := n2_; clear n0_ n1_ n2_; clear ho hb hg hat; have hcz36_0 : w35.cell? ⟨gb236, 0, none⟩ = some (.slice (some ad239) l0_0.length c0_0) := (blk_cell BK236.out 0).trans rfl; have hcz36_1 : w35.cell? ⟨gb236, 1, none⟩ = some (.slice A0_1 l0_1.length c0_1) := (blk_cell BK236.out 1).trans rfl; have hcz36_2 : w35.cell? ⟨gb236, 2, none⟩ = some (.slice A0_2 l0_2.length c0_2) := (blk_cell BK236.out 2).trans rfl; have hcz36_3 : w35.cell? ⟨gb236, 3, none⟩ = some (.slice A0_3 l0_3.length c0_3) := (blk_cell BK236.out 3).trans rfl; have hfz36_0 := blk_frozen BK236.out 0; have hfz36_1 := blk_frozen BK236.out 1; have hfz36_2 := blk_frozen BK236.out 2; have hfz36_3 := blk_frozen BK236.out 3; have p251 : 0 ≤ (x3_1 : Int) := of_decide_eq_true (by first | (with_reducible assumption) | assumption); have q251 : x3_1 < (l0_0.length : Int) := of_decide_eq_true (by first | (with_reducible assumption) | assumption); obtain ⟨ad251, A251_0, c251_0, e251, hx251_0, hl251_0, hi251_0⟩ := at_L4 HR0_0.out x3_1 p251 q251; obtain rfl : ad239 = ad251 := (by injection e251); replace hx251_0 := (HB.out.cell (World.block_lt_of_cell? w _ hx251_0)).trans hx251_0; have HR251_0 := Aside0.mk hi251_0; have HC251_0 := Aside0.mk hl251_0; clear hi251_0 hl251_0; replace p251 := eq_true p251; replace q251 := eq_true q251) | ((with_reducible refine gate_callee (f := 29) rfl ?_); refine goesL_ (some 69) rfl rfl Try.func29 (by kernel_rfl) rfl #[.slice A251_0 (rd_L4 l0_0 x3_1).length c251_0, .int .i64 30] rfl (by (try simp only [List.map_toArray, List.map_cons, List.map_nil]); first | done | rfl | (simp only [List.length_drop, List.length_take]; rfl)) ?_; (with_reducible refine (space_Free.calls kj18 _ _ (rd_L4 l0_0 x3_1) 30 t252 t253 _ ?side1 ?side2 A30.out).mono ?_); (case side1 => repeat (first | exact (Kd.C_below HR251_0.out HB.out) | (with_reducible refine Kd.C_alloc ?_ _) | (with_reducible refine Kd.C_drewN ?_ _) | (with_reducible refine Kd.C_drew ?_))); (case side2 => exact HC251_0.out); rintro e w37 ⟨rfl, hb⟩; refine ⟨_, rfl, ?_⟩; have n0_ := Aside0.mk (Kd.R_below (by (with_reducible repeat (first | apply Kd.R_alloc | apply Kd.R_drewN | apply Kd.R_drew)); exact HO250.out) hb); have n1_ := Aside0.mk (blk_below (g := gb236) (o := .cells #[.slice (some ad239) l0_0.length c0_0, .slice A0_1 l0_1.length c0_1, .slice A0_2 l0_2.length c0_2, .slice A0_3 l0_3.length c0_3] 38 (0, 0)) (by (with_reducible repeat (first | refine blk_drewN ?_ _ | refine blk_drew ?_ | refine blk_alloc ?_ _)); exact BK236.out) hb); have n2_ := Aside0.mk (below_step (by repeat (first | (with_reducible first | exact HB.out | apply below_alloc | apply pw_below_drewN | apply below_drew1 | refine below_set ?_ GE236.out) | exact HB.out)) hb); clear HO250; clear BK236; clear HB; have HO250 := n0_; have BK236 := n1_; have HB := n2_; clear n0_ n1_ n2_; (try clear hb); (try clear hb2); (try clear hk); (try clear hi); obtain ⟨Ao38, co38, eo38⟩ := Kd.R_slice HO250.out; subst eo38) | ((with_reducible refine gate_callee (f := 29) rfl ?_); refine goesL_ (some 74) rfl rfl Try.func29 (by kernel_rfl) rfl #[.slice Ao38 y248.length co38, .int .i64 30] rfl (by (try simp only [List.map_toArray, List.map_cons, List.map_nil]); first | done | rfl | (simp only [List.length_drop, List.length_take]; rfl)) ?_; (with_reducible refine (space_Free.calls kj18 _ _ y248 30 t254 t255 _ ?side1 ?side2 A31.out).mono ?_); (case side1 => repeat (first | exact (Kd.R_reads' HO250.out).2.2 | (with_reducible refine Kd.C_alloc ?_ _) | (with_reducible refine Kd.C_drewN ?_ _) | (with_reducible refine Kd.C_drew ?_))); (case side2 => exact (Kd.R_reads' HO250.out).2.1); rintro e w39 ⟨rfl, hb⟩; refine ⟨_, rfl, ?_⟩; have n0_ := Aside0.mk (Kd.R_below (by (with_reducible repeat (first | apply Kd.R_alloc | apply Kd.R_drewN | apply Kd.R_drew)); exact HO250.out) hb); have n1_ := Aside0.mk (blk_below (g := gb236) (o := .cells #[.slice (some ad239) l0_0.length c0_0, .slice A0_1 l0_1.length c0_1, .slice A0_2 l0_2.length c0_2, .slice A0_3 l0_3.length c0_3] 38 (0, 0)) (by (with_reducible repeat (first | refine blk_drewN ?_ _ | refine blk_drew ?_ | refine blk_alloc ?_ _)); exact BK236.out) hb); have n2_ := Aside0.mk (below_step (by repeat (first | (with_reducible first | exact HB.out | apply below_alloc | apply pw_below_drewN | apply below_drew1 | refine below_set ?_ GE236.out) | exact HB.out)) hb); clear HO250; clear BK236; clear HB; have HO250 := n0_; have BK236 := n1_; have HB := n2_; clear n0_ n1_ n2_; (try clear hb); (try clear hb2); (try clear hk); (try clear hi)))
                                    (try simp only [Act.put, List.setIfInBounds_toArray, List.set_cons_zero, List.set_cons_succ])
                                    go_cut [91] (fun v91 wc => ∃ (kq : Nat) (x91_31 : Bool), v91 = .bool x91_31 ∧ Aside0 (herbariumlaw13_SpaceApart.j4 kq x3_1 x4_3 t240 x91_31 l0_0 l0_1 l0_2 l0_3 = some r) ∧ Aside0 (kq ≤ kj18) ∧ Aside0 (wc.heap[gb236]? = some (.cells #[(.slice (some ad239) l0_0.length c0_0), (.slice A0_1 l0_1.length c0_1), (.slice A0_2 l0_2.length c0_2), (.slice A0_3 l0_3.length c0_3)] 38 (0, 0))) ∧ Aside0 (Below w.heap.size w wc))
                                    case first =>
                                      have H := HC32.out
                                      clear HC32
                                      replace H := Option.bind_eq_some_iff.mp H
                                      obtain ⟨t256, A400, H⟩ := H
                                      replace H : (if t256 = 0 then ((herbariumlaw13_num.f t255).bind fun t257 => (if t257 = 0 then (herbariumlaw13_SpaceApart.j4 kj18 x3_1 x4_3 t240 (t252 != (wrap64 (t254 + x4_3))) l0_0 l0_1 l0_2 l0_3) else (herbariumlaw13_SpaceApart.j4 kj18 x3_1 x4_3 t240 true l0_0 l0_1 l0_2 l0_3))) else (herbariumlaw13_SpaceApart.j4 kj18 x3_1 x4_3 t240 true l0_0 l0_1 l0_2 l0_3)) = some r := H
                                      have A40 := Aside0.mk A400
                                      clear A400
                                      by_cases c41 : t256 = 0
                                      · rw [if_pos c41] at H
                                        have c41b0 : (t256 == 0) = true := beq_iff_eq.mpr c41
                                        have c41b1 : (t256 != 0) = false := bne_eq_false_iff_eq.mpr c41
                                        clear c41
                                        (first | rw [c41b0] | (simp only [i64_w, i32_w]; rw [c41b0]) | skip)
                                        replace H := Option.bind_eq_some_iff.mp H
                                        obtain ⟨t257, A420, H⟩ := H
                                        replace H : (if t257 = 0 then (herbariumlaw13_SpaceApart.j4 kj18 x3_1 x4_3 t240 (t252 != (wrap64 (t254 + x4_3))) l0_0 l0_1 l0_2 l0_3) else (herbariumlaw13_SpaceApart.j4 kj18 x3_1 x4_3 t240 true l0_0 l0_1 l0_2 l0_3)) = some r := H
                                        have A42 := Aside0.mk A420
                                        clear A420
                                        by_cases c43 : t257 = 0
                                        · rw [if_pos c43] at H
                                          have c43b0 : (t257 == 0) = true := beq_iff_eq.mpr c43
                                          have c43b1 : (t257 != 0) = false := bne_eq_false_iff_eq.mpr c43
                                          clear c43
                                          have H' := Aside0.mk H
                                          clear H
                                          go_wp2_with (first | ((with_reducible refine gate_callee (f := 31) rfl ?_); refine goesL_ (some 78) rfl rfl Try.func31 (by kernel_rfl) rfl #[.int .i64 t253] rfl (by (try simp only [List.map_toArray, List.map_cons, List.map_nil]); first | done | rfl | (simp only [List.length_drop, List.length_take]; rfl)) ?_; (with_reducible refine (herbariumlaw13_num.calls t253 t256 _ A40.out).mono ?_); rintro e w' ⟨rfl, ⟨nd, rfl⟩⟩; refine ⟨_, rfl, ?_⟩) | (go_at_call 31; (with_reducible refine (herbariumlaw13_num.calls t255 t257 _ A42.out).mono ?_); rintro e w' ⟨rfl, ⟨nd, rfl⟩⟩))
                                          go_meet
                                          case rel => exact ⟨_, ((t252 != (wrap64 (t254 + x4_3)))), (by first | rfl | (simp; done) | (simp [*]; done)), H', ⟨by have := HK1.out; have := HJ9.out; have := HK3.out; have := HJ18.out; first | omega | exact Nat.le_refl _⟩, ⟨by (with_reducible repeat (first | refine blk_drewN ?_ _ | refine blk_drew ?_ | refine blk_alloc ?_ _)); exact BK236.out⟩, ⟨by repeat (first | (with_reducible first | exact HB.out | apply below_alloc | apply pw_below_drewN | apply below_drew1 | refine below_set ?_ GE236.out) | exact HB.out)⟩⟩
                                        · rw [if_neg c43] at H
                                          have c43b0 : (t257 == 0) = false := beq_eq_false_iff_ne.mpr c43
                                          have c43b1 : (t257 != 0) = true := bne_iff_ne.mpr c43
                                          have H' := Aside0.mk H
                                          clear H
                                          go_wp2_with (first | ((with_reducible refine gate_callee (f := 31) rfl ?_); refine goesL_ (some 78) rfl rfl Try.func31 (by kernel_rfl) rfl #[.int .i64 t253] rfl (by (try simp only [List.map_toArray, List.map_cons, List.map_nil]); first | done | rfl | (simp only [List.length_drop, List.length_take]; rfl)) ?_; (with_reducible refine (herbariumlaw13_num.calls t253 t256 _ A40.out).mono ?_); rintro e w' ⟨rfl, ⟨nd, rfl⟩⟩; refine ⟨_, rfl, ?_⟩) | (go_at_call 31; (with_reducible refine (herbariumlaw13_num.calls t255 t257 _ A42.out).mono ?_); rintro e w' ⟨rfl, ⟨nd, rfl⟩⟩))
                                          go_meet
                                          case rel => exact ⟨_, (true), (by first | rfl | (simp; done) | (simp [*]; done)), H', ⟨by have := HK1.out; have := HJ9.out; have := HK3.out; have := HJ18.out; first | omega | exact Nat.le_refl _⟩, ⟨by (with_reducible repeat (first | refine blk_drewN ?_ _ | refine blk_drew ?_ | refine blk_alloc ?_ _)); exact BK236.out⟩, ⟨by repeat (first | (with_reducible first | exact HB.out | apply below_alloc | apply pw_below_drewN | apply below_drew1 | refine below_set ?_ GE236.out) | exact HB.out)⟩⟩
                                      · rw [if_neg c41] at H
                                        have c41b0 : (t256 == 0) = false := beq_eq_false_iff_ne.mpr c41
                                        have c41b1 : (t256 != 0) = true := bne_iff_ne.mpr c41
                                        (first | rw [c41b0] | (simp only [i64_w, i32_w]; rw [c41b0]) | skip)
                                        have H' := Aside0.mk H
                                        clear H
                                        go_wp2_with (first | ((with_reducible refine gate_callee (f := 31) rfl ?_); refine goesL_ (some 78) rfl rfl Try.func31 (by kernel_rfl) rfl #[.int .i64 t253] rfl (by (try simp only [List.map_toArray, List.map_cons, List.map_nil]); first | done | rfl | (simp only [List.length_drop, List.length_take]; rfl)) ?_; (with_reducible refine (herbariumlaw13_num.calls t253 t256 _ A40.out).mono ?_); rintro e w' ⟨rfl, ⟨nd, rfl⟩⟩; refine ⟨_, rfl, ?_⟩))
                                        go_meet
                                        case rel => exact ⟨_, (true), (by first | rfl | (simp; done) | (simp [*]; done)), H', ⟨by have := HK1.out; have := HJ9.out; have := HK3.out; have := HJ18.out; first | omega | exact Nat.le_refl _⟩, ⟨by (with_reducible repeat (first | refine blk_drewN ?_ _ | refine blk_drew ?_ | refine blk_alloc ?_ _)); exact BK236.out⟩, ⟨by repeat (first | (with_reducible first | exact HB.out | apply below_alloc | apply pw_below_drewN | apply below_drew1 | refine below_set ?_ GE236.out) | exact HB.out)⟩⟩
                                    case rest =>
                                      clear HC32
                                      try clear c1
                                      try clear c2
                                      try clear p2
                                      try clear q2
                                      try clear hx2
                                      try clear c3
                                      try clear c4
                                      try clear p6
                                      try clear c7
                                      try clear c11
                                      try clear c11b0
                                      try clear c14
                                      try clear c15
                                      try clear c15b0
                                      try clear c16
                                      try clear c16b0
                                      try clear c17
                                      try clear c17b0
                                      try clear c23
                                      try clear c23b0
                                      try clear c23b1
                                      try clear p23
                                      try clear q23
                                      try clear hx23
                                      try clear c24
                                      try clear p24
                                      try clear q24
                                      try clear hx24
                                      try clear c25
                                      try clear p25
                                      try clear q25
                                      try clear hx25
                                      try clear c26
                                      try clear c26b0
                                      try clear c27
                                      try clear c27b0
                                      try clear c28
                                      try clear c29
                                      try clear c31
                                      try clear c36
                                      try clear c37
                                      try clear c41
                                      try clear c41b0
                                      try clear c41b1
                                      try clear c43
                                      try clear c43b0
                                      try clear c43b1
                                      try clear hcz12_0
                                      try clear hcz12_1
                                      try clear hcz12_2
                                      try clear hcz12_3
                                      try clear hcz13_0
                                      try clear hcz13_1
                                      try clear hcz13_2
                                      try clear hcz13_3
                                      try clear hcz20_0
                                      try clear hcz20_1
                                      try clear hcz20_2
                                      try clear hcz20_3
                                      try clear hcz24_0
                                      try clear hcz24_1
                                      try clear hcz24_2
                                      try clear hcz24_3
                                      try clear hcz33_0
                                      try clear hcz33_1
                                      try clear hcz33_2
                                      try clear hcz33_3
                                      try clear hcz36_0
                                      try clear hcz36_1
                                      try clear hcz36_2
                                      try clear hcz36_3
                                      try clear hcz5_0
                                      try clear hcz5_1
                                      try clear hcz5_2
                                      try clear hcz5_3
                                      try clear hcz8_0
                                      try clear hcz8_1
                                      try clear hcz8_2
                                      try clear hcz8_3
                                      try clear hfz12_0
                                      try clear hfz12_1
                                      try clear hfz12_2
                                      try clear hfz12_3
                                      try clear hfz13_0
                                      try clear hfz13_1
                                      try clear hfz13_2
                                      try clear hfz13_3
                                      try clear hfz20_0
                                      try clear hfz20_1
                                      try clear hfz20_2
                                      try clear hfz20_3
                                      try clear hfz24_0
                                      try clear hfz24_1
                                      try clear hfz24_2
                                      try clear hfz24_3
                                      try clear hfz33_0
                                      try clear hfz33_1
                                      try clear hfz33_2
                                      try clear hfz33_3
                                      try clear hfz36_0
                                      try clear hfz36_1
                                      try clear hfz36_2
                                      try clear hfz36_3
                                      try clear hfz5_0
                                      try clear hfz5_1
                                      try clear hfz5_2
                                      try clear hfz5_3
                                      try clear hfz8_0
                                      try clear hfz8_1
                                      try clear hfz8_2
                                      try clear hfz8_3
                                      try clear hx239_0
                                      try clear hx243_0
                                      try clear hx244_0
                                      try clear hx251_0
                                      try clear p2
                                      try clear p23
                                      try clear p239
                                      try clear p24
                                      try clear p243
                                      try clear p244
                                      try clear p251
                                      try clear q2
                                      try clear q23
                                      try clear q239
                                      try clear q24
                                      try clear q243
                                      try clear q244
                                      try clear q251
                                      obtain ⟨kq, x91_31, rfl, HA, HJ31, BK236, HB⟩ := hcut
                                      cases kq with
                                      | zero => exact absurd HA.out (by simp [herbariumlaw13_SpaceApart.j4])
                                      | succ kj31 =>
                                        have H := HA.out
                                        clear HA
                                        simp only [herbariumlaw13_SpaceApart.j4] at H
                                        by_cases c44 : x91_31 = true
                                        · subst c44
                                          have H1 : (some false) = some r := by rw [if_pos rfl] at H; exact H
                                          clear H
                                          have H := H1
                                          clear H1
                                          obtain rfl := Option.some.inj H
                                          go_wp2
                                          go_ret
                                          exact ⟨by first | rfl | (simp [errW_none, errW_some] <;> rfl) | (simp [*, errW_none, errW_some] <;> rfl), by repeat (first | (with_reducible first | exact HB.out | apply below_alloc | apply pw_below_drewN | apply below_drew1 | refine below_set ?_ GE236.out) | exact HB.out)⟩
                                        · replace c44 := Bool.eq_false_iff.mpr c44
                                          subst c44
                                          have H1 : (herbariumlaw13_SpaceApart.l2 kj31 x3_1 x4_3 t240 0 l0_0 l0_1 l0_2 l0_3) = some r := by rw [if_neg (show ¬ (false = true) by decide)] at H; exact H
                                          clear H
                                          have H := H1
                                          clear H1
                                          have H' := Aside0.mk H
                                          clear H
                                          go_wp2
                                          go_loopg [12] kj31 (fun kq v12 w' => ∃ (x12_6 : Int), v12 = .int .i64 x12_6 ∧ Aside0 (herbariumlaw13_SpaceApart.l2 kq x3_1 x4_3 t240 x12_6 l0_0 l0_1 l0_2 l0_3 = some r) ∧ Aside0 (kq ≤ kj31) ∧ Aside0 (w'.heap[gb236]? = some (.cells #[(.slice (some ad239) l0_0.length c0_0), (.slice A0_1 l0_1.length c0_1), (.slice A0_2 l0_2.length c0_2), (.slice A0_3 l0_3.length c0_3)] 38 (0, 0))) ∧ Aside0 (Below w.heap.size w w'))
                                          case atStart => exact ⟨(0), (by first | rfl | (simp; done) | (simp [*]; done)), H', ⟨Nat.le_refl _⟩, ⟨by (with_reducible repeat (first | refine blk_drewN ?_ _ | refine blk_drew ?_ | refine blk_alloc ?_ _)); exact BK236.out⟩, ⟨by repeat (first | (with_reducible first | exact HB.out | apply below_alloc | apply pw_below_drewN | apply below_drew1 | refine below_set ?_ GE236.out) | exact HB.out)⟩⟩
                                          case round =>
                                            clear H'
                                            try clear c1
                                            try clear c2
                                            try clear p2
                                            try clear q2
                                            try clear hx2
                                            try clear c3
                                            try clear c4
                                            try clear p6
                                            try clear c7
                                            try clear c11
                                            try clear c11b0
                                            try clear c14
                                            try clear c15
                                            try clear c15b0
                                            try clear c16
                                            try clear c16b0
                                            try clear c17
                                            try clear c17b0
                                            try clear c23
                                            try clear c23b0
                                            try clear c23b1
                                            try clear p23
                                            try clear q23
                                            try clear hx23
                                            try clear c24
                                            try clear p24
                                            try clear q24
                                            try clear hx24
                                            try clear c25
                                            try clear p25
                                            try clear q25
                                            try clear hx25
                                            try clear c26
                                            try clear c26b0
                                            try clear c27
                                            try clear c27b0
                                            try clear c28
                                            try clear c29
                                            try clear c31
                                            try clear c36
                                            try clear c37
                                            try clear c41
                                            try clear c41b0
                                            try clear c41b1
                                            try clear c43
                                            try clear c43b0
                                            try clear c43b1
                                            try clear c44
                                            try clear hcz12_0
                                            try clear hcz12_1
                                            try clear hcz12_2
                                            try clear hcz12_3
                                            try clear hcz13_0
                                            try clear hcz13_1
                                            try clear hcz13_2
                                            try clear hcz13_3
                                            try clear hcz20_0
                                            try clear hcz20_1
                                            try clear hcz20_2
                                            try clear hcz20_3
                                            try clear hcz24_0
                                            try clear hcz24_1
                                            try clear hcz24_2
                                            try clear hcz24_3
                                            try clear hcz33_0
                                            try clear hcz33_1
                                            try clear hcz33_2
                                            try clear hcz33_3
                                            try clear hcz36_0
                                            try clear hcz36_1
                                            try clear hcz36_2
                                            try clear hcz36_3
                                            try clear hcz5_0
                                            try clear hcz5_1
                                            try clear hcz5_2
                                            try clear hcz5_3
                                            try clear hcz8_0
                                            try clear hcz8_1
                                            try clear hcz8_2
                                            try clear hcz8_3
                                            try clear hfz12_0
                                            try clear hfz12_1
                                            try clear hfz12_2
                                            try clear hfz12_3
                                            try clear hfz13_0
                                            try clear hfz13_1
                                            try clear hfz13_2
                                            try clear hfz13_3
                                            try clear hfz20_0
                                            try clear hfz20_1
                                            try clear hfz20_2
                                            try clear hfz20_3
                                            try clear hfz24_0
                                            try clear hfz24_1
                                            try clear hfz24_2
                                            try clear hfz24_3
                                            try clear hfz33_0
                                            try clear hfz33_1
                                            try clear hfz33_2
                                            try clear hfz33_3
                                            try clear hfz36_0
                                            try clear hfz36_1
                                            try clear hfz36_2
                                            try clear hfz36_3
                                            try clear hfz5_0
                                            try clear hfz5_1
                                            try clear hfz5_2
                                            try clear hfz5_3
                                            try clear hfz8_0
                                            try clear hfz8_1
                                            try clear hfz8_2
                                            try clear hfz8_3
                                            try clear hx239_0
                                            try clear hx243_0
                                            try clear hx244_0
                                            try clear hx251_0
                                            try clear p2
                                            try clear p23
                                            try clear p239
                                            try clear p24
                                            try clear p243
                                            try clear p244
                                            try clear p25
                                            try clear p251
                                            try clear p6
                                            try clear q2
                                            try clear q23
                                            try clear q239
                                            try clear q24
                                            try clear q243
                                            try clear q244
                                            try clear q25
                                            try clear q251
                                            obtain ⟨x12_6, rfl, HA, HK6, BK236, HB⟩ := hrel
                                            cases gk with
                                            | zero => exact absurd HA.out (by simp [herbariumlaw13_SpaceApart.l2])
                                            | succ k6 =>
                                              have H := HA.out
                                              clear HA
                                              simp only [herbariumlaw13_SpaceApart.l2] at H
                                              by_cases c45 : x12_6 < t240
                                              · rw [if_pos c45] at H
                                                have c45b0 : decide (x12_6 < t240) = true := decide_eq_true c45
                                                clear c45
                                                by_cases c46 : 0 ≤ x3_1
                                                · rw [if_pos c46] at H
                                                  have c46b0 : decide (0 ≤ x3_1) = true := decide_eq_true c46
                                                  clear c46
                                                  by_cases c47 : x3_1 < (l0_0.length : Int)
                                                  · rw [if_pos c47] at H
                                                    have c47b0 : decide (x3_1 < (l0_0.length : Int)) = true := decide_eq_true c47
                                                    clear c47
                                                    replace H := Option.bind_eq_some_iff.mp H
                                                    obtain ⟨t259, A480, H⟩ := H
                                                    replace H : (if t259.length < 8796093022208 then ((space_Check.f k6 (t259 ++ [(⟨x12_6, x4_3⟩ : S41)]) 30).bind fun t265 => ((herbariumlaw13_num.f t265).bind fun t266 => (if t266 = 0 then (some false) else (herbariumlaw13_SpaceApart.l2 k6 x3_1 x4_3 t240 (wrap64 (x12_6 + 1)) l0_0 l0_1 l0_2 l0_3)))) else (none)) = some r := H
                                                    have A48 := Aside0.mk A480
                                                    clear A480
                                                    by_cases c49 : t259.length < 8796093022208
                                                    · rw [if_pos c49] at H
                                                      have LMc49 := Aside0.mk c49
                                                      clear c49
                                                      obtain ⟨y262, hy262⟩ : ∃ y_ : List (S41), y_ = (t259 ++ [(⟨x12_6, x4_3⟩ : S41)]) := ⟨_, rfl⟩
                                                      replace H : ((space_Check.f k6 y262 30).bind fun t265 => ((herbariumlaw13_num.f t265).bind fun t266 => (if t266 = 0 then (some false) else (herbariumlaw13_SpaceApart.l2 k6 x3_1 x4_3 t240 (wrap64 (x12_6 + 1)) l0_0 l0_1 l0_2 l0_3)))) = some r := by first | (rw [hy262]; with_reducible exact H) | (have H2_ := (Option.bind_some _ _).symm.trans H; rw [hy262]; with_reducible exact H2_) | (have H2_ := (Option.bind_some _ _).symm.trans H; with_reducible exact H2_) | with_reducible exact H | (rw [hy262]; exact H) | exact H
                                                      have Ny262 := Aside0.mk hy262
                                                      clear hy262
                                                      replace H := Option.bind_eq_some_iff.mp H
                                                      obtain ⟨t265, A500, H⟩ := H
                                                      replace H : ((herbariumlaw13_num.f t265).bind fun t266 => (if t266 = 0 then (some false) else (herbariumlaw13_SpaceApart.l2 k6 x3_1 x4_3 t240 (wrap64 (x12_6 + 1)) l0_0 l0_1 l0_2 l0_3))) = some r := H
                                                      have A50 := Aside0.mk A500
                                                      clear A500
                                                      replace H := Option.bind_eq_some_iff.mp H
                                                      obtain ⟨t266, A510, H⟩ := H
                                                      replace H : (if t266 = 0 then (some false) else (herbariumlaw13_SpaceApart.l2 k6 x3_1 x4_3 t240 (wrap64 (x12_6 + 1)) l0_0 l0_1 l0_2 l0_3)) = some r := H
                                                      have A51 := Aside0.mk A510
                                                      clear A510
                                                      by_cases c52 : t266 = 0
                                                      · rw [if_pos c52] at H
                                                        have c52b0 : (t266 == 0) = true := beq_iff_eq.mpr c52
                                                        have c52b1 : (t266 != 0) = false := bne_eq_false_iff_eq.mpr c52
                                                        clear c52
                                                        obtain rfl := Option.some.inj H
                                                        have hcz53_0 : wr.cell? ⟨gb236, 0, none⟩ = some (.slice (some ad239) l0_0.length c0_0) := (blk_cell BK236.out 0).trans rfl
                                                        have hcz53_1 : wr.cell? ⟨gb236, 1, none⟩ = some (.slice A0_1 l0_1.length c0_1) := (blk_cell BK236.out 1).trans rfl
                                                        have hcz53_2 : wr.cell? ⟨gb236, 2, none⟩ = some (.slice A0_2 l0_2.length c0_2) := (blk_cell BK236.out 2).trans rfl
                                                        have hcz53_3 : wr.cell? ⟨gb236, 3, none⟩ = some (.slice A0_3 l0_3.length c0_3) := (blk_cell BK236.out 3).trans rfl
                                                        have hfz53_0 := blk_frozen BK236.out 0
                                                        have hfz53_1 := blk_frozen BK236.out 1
                                                        have hfz53_2 := blk_frozen BK236.out 2
                                                        have hfz53_3 := blk_frozen BK236.out 3
                                                        have p258 : 0 ≤ (x3_1 : Int) := of_decide_eq_true (by first | (with_reducible assumption) | assumption)
                                                        have q258 : x3_1 < (l0_0.length : Int) := of_decide_eq_true (by first | (with_reducible assumption) | assumption)
                                                        obtain ⟨ad258, A258_0, c258_0, e258, hx258_0, hl258_0, hi258_0⟩ := at_L4 HR0_0.out x3_1 p258 q258
                                                        obtain rfl : ad239 = ad258 := (by injection e258)
                                                        replace hx258_0 := (HB.out.cell (World.block_lt_of_cell? w _ hx258_0)).trans hx258_0
                                                        have HR258_0 := Aside0.mk hi258_0
                                                        have HC258_0 := Aside0.mk hl258_0
                                                        clear hi258_0 hl258_0
                                                        replace p258 := eq_true p258
                                                        replace q258 := eq_true q258
                                                        go_wp2_with (first | ((with_reducible refine gate_callee (f := 37) rfl ?_); refine goesL_ (some 102) rfl rfl Try.func37 (by kernel_rfl) rfl #[.slice A258_0 (rd_L4 l0_0 x3_1).length c258_0] rfl (by (try simp only [List.map_toArray, List.map_cons, List.map_nil]); first | done | rfl | (simp only [List.length_drop, List.length_take]; rfl)) ?_; (with_reducible refine (herbariumref0_CopyRuns.calls k6 _ _ (rd_L4 l0_0 x3_1) t259 _ ?side1 ?side2 A48.out).mono ?_); (case side1 => repeat (first | exact (Kd.C_below HR258_0.out HB.out) | (with_reducible refine Kd.C_alloc ?_ _) | (with_reducible refine Kd.C_drewN ?_ _) | (with_reducible refine Kd.C_drew ?_))); (case side2 => exact HC258_0.out); rintro e w54 ⟨v260, rfl, ho0, hb⟩; refine ⟨_, rfl, ?_⟩; have n0_ := Aside0.mk (Kd.R_lower ho0 (below_size (by repeat (first | (with_reducible first | exact HB.out | apply below_alloc | apply pw_below_drewN | apply below_drew1 | refine below_set ?_ GE236.out) | exact HB.out)))); have n1_ := Aside0.mk (blk_below (g := gb236) (o := .cells #[.slice (some ad239) l0_0.length c0_0, .slice A0_1 l0_1.length c0_1, .slice A0_2 l0_2.length c0_2, .slice A0_3 l0_3.length c0_3] 38 (0, 0)) (by (with_reducible repeat (first | refine blk_drewN ?_ _ | refine blk_drew ?_ | refine blk_alloc ?_ _)); exact BK236.out) hb); have n2_ := Aside0.mk (below_step (by repeat (first | (with_reducible first | exact HB.out | apply below_alloc | apply pw_below_drewN | apply below_drew1 | refine below_set ?_ GE236.out) | exact HB.out)) hb); clear BK236; clear HB; have HO261 := n0_; have BK236 := n1_; have HB := n2_; clear n0_ n1_ n2_; (try clear hb); (try clear hb2); (try clear hk); (try clear hi); (try clear ho0)) | ((with_reducible refine gate_builtin (b := .append) (xs := #[.tmp 102, .tmp 106]) rfl ?_); (try (refine gate_guard (by rfl) ?_; dsimp only)); at_builtin; refine Kd.R_append k41 (w0 := w) w.heap.size rfl (.tmp 102) (.tmp 106) 39 41 (.agg #[(.int .i64 0), (.int .i64 0)]) 16 rfl Try.underlying39 info41 rfl (by decide) (by omega) v260 t259 (⟨x12_6, x4_3⟩ : S41) [.int .i64 x12_6, .int .i64 x4_3] (fun _ => True) (fun _ => False) rfl rfl ?aP (fun _ hk => hk.elim) ?aF ?aO ?aB ?aS ?aL ?_; (case aP => exact k41_mkM _ _ _ (⟨x12_6, x4_3⟩ : S41)); (case aB => exact (by repeat (first | (with_reducible first | exact HB.out | apply below_alloc | apply pw_below_drewN | apply below_drew1 | refine below_set ?_ GE236.out) | exact HB.out))); (case aF => exact (fun _ _ => trivial)); (case aO => exact (by (with_reducible repeat (first | apply Kd.R_alloc | apply Kd.R_drewN | apply Kd.R_drew)); exact HO261.out)); (case aS => exact (below_size (by repeat (first | (with_reducible first | exact HB.out | apply below_alloc | apply pw_below_drewN | apply below_drew1 | refine below_set ?_ GE236.out) | exact HB.out)))); (case aL => have := LMc49.out; omega); intro v263 w55 ho hb hg hat; rw [← Ny262.out] at ho; have n0_ := Aside0.mk (blk_grown (g := gb236) (o := .cells #[.slice (some ad239) l0_0.length c0_0, .slice A0_1 l0_1.length c0_1, .slice A0_2 l0_2.length c0_2, .slice A0_3 l0_3.length c0_3] 38 (0, 0)) (by (with_reducible repeat (first | refine blk_drewN ?_ _ | refine blk_drew ?_ | refine blk_alloc ?_ _)); exact BK236.out) hg (Kd.R_ne HO261.out BK236.out (by decide))); have n1_ := Aside0.mk (hb); have n2_ := Aside0.mk (ho); clear BK236; clear HB; clear HO261; have BK236 := n0_; have HB := n1_; have HO264 := n2_; clear n0_ n1_ n2_; clear ho hb hg hat; obtain ⟨Ao56, co56, eo56⟩ := Kd.R_slice HO264.out; subst eo56) | ((with_reducible refine gate_callee (f := 38) rfl ?_); refine goesL_ (some 108) rfl rfl Try.func38 (by kernel_rfl) rfl #[.slice Ao56 y262.length co56, .int .i64 30] rfl (by (try simp only [List.map_toArray, List.map_cons, List.map_nil]); first | done | rfl | (simp only [List.length_drop, List.length_take]; rfl)) ?_; (with_reducible refine (space_Check.calls k6 _ _ y262 30 t265 _ ?side1 ?side2 A50.out).mono ?_); (case side1 => repeat (first | exact (Kd.R_reads' HO264.out).2.2 | (with_reducible refine Kd.C_alloc ?_ _) | (with_reducible refine Kd.C_drewN ?_ _) | (with_reducible refine Kd.C_drew ?_))); (case side2 => exact (Kd.R_reads' HO264.out).2.1); rintro e w57 ⟨rfl, hb⟩; refine ⟨_, rfl, ?_⟩; have n0_ := Aside0.mk (Kd.R_below (by (with_reducible repeat (first | apply Kd.R_alloc | apply Kd.R_drewN | apply Kd.R_drew)); exact HO264.out) hb); have n1_ := Aside0.mk (blk_below (g := gb236) (o := .cells #[.slice (some ad239) l0_0.length c0_0, .slice A0_1 l0_1.length c0_1, .slice A0_2 l0_2.length c0_2, .slice A0_3 l0_3.length c0_3] 38 (0, 0)) (by (with_reducible repeat (first | refine blk_drewN ?_ _ | refine blk_drew ?_ | refine blk_alloc ?_ _)); exact BK236.out) hb); have n2_ := Aside0.mk (below_step (by repeat (first | (with_reducible first | exact HB.out | apply below_alloc | apply pw_below_drewN | apply below_drew1 | refine below_set ?_ GE236.out) | exact HB.out)) hb); clear HO264; clear BK236; clear HB; have HO264 := n0_; have BK236 := n1_; have HB := n2_; clear n0_ n1_ n2_; (try clear hb); (try clear hb2); (try clear hk); (try clear hi)) | ((with_reducible refine gate_callee (f := 31) rfl ?_); refine goesL_ (some 109) rfl rfl Try.func31 (by kernel_rfl) rfl #[.int .i64 t265] rfl (by (try simp only [List.map_toArray, List.map_cons, List.map_nil]); first | done | rfl | (simp only [List.length_drop, List.length_take]; rfl)) ?_; (with_reducible refine (herbariumlaw13_num.calls t265 t266 _ A51.out).mono ?_); rintro e w' ⟨rfl, ⟨nd, rfl⟩⟩; refine ⟨_, rfl, ?_⟩))
                                                        go_ret
                                                        exact ⟨by first | rfl | (simp [errW_none, errW_some] <;> rfl) | (simp [*, errW_none, errW_some] <;> rfl), by repeat (first | (with_reducible first | exact HB.out | apply below_alloc | apply pw_below_drewN | apply below_drew1 | refine below_set ?_ GE236.out) | exact HB.out)⟩
                                                      · rw [if_neg c52] at H
                                                        have c52b0 : (t266 == 0) = false := beq_eq_false_iff_ne.mpr c52
                                                        have c52b1 : (t266 != 0) = true := bne_iff_ne.mpr c52
                                                        have H' := Aside0.mk H
                                                        clear H
                                                        have hcz58_0 : wr.cell? ⟨gb236, 0, none⟩ = some (.slice (some ad239) l0_0.length c0_0) := (blk_cell BK236.out 0).trans rfl
                                                        have hcz58_1 : wr.cell? ⟨gb236, 1, none⟩ = some (.slice A0_1 l0_1.length c0_1) := (blk_cell BK236.out 1).trans rfl
                                                        have hcz58_2 : wr.cell? ⟨gb236, 2, none⟩ = some (.slice A0_2 l0_2.length c0_2) := (blk_cell BK236.out 2).trans rfl
                                                        have hcz58_3 : wr.cell? ⟨gb236, 3, none⟩ = some (.slice A0_3 l0_3.length c0_3) := (blk_cell BK236.out 3).trans rfl
                                                        have hfz58_0 := blk_frozen BK236.out 0
                                                        have hfz58_1 := blk_frozen BK236.out 1
                                                        have hfz58_2 := blk_frozen BK236.out 2
                                                        have hfz58_3 := blk_frozen BK236.out 3
                                                        have p258 : 0 ≤ (x3_1 : Int) := of_decide_eq_true (by first | (with_reducible assumption) | assumption)
                                                        have q258 : x3_1 < (l0_0.length : Int) := of_decide_eq_true (by first | (with_reducible assumption) | assumption)
                                                        obtain ⟨ad258, A258_0, c258_0, e258, hx258_0, hl258_0, hi258_0⟩ := at_L4 HR0_0.out x3_1 p258 q258
                                                        obtain rfl : ad239 = ad258 := (by injection e258)
                                                        replace hx258_0 := (HB.out.cell (World.block_lt_of_cell? w _ hx258_0)).trans hx258_0
                                                        have HR258_0 := Aside0.mk hi258_0
                                                        have HC258_0 := Aside0.mk hl258_0
                                                        clear hi258_0 hl258_0
                                                        replace p258 := eq_true p258
                                                        replace q258 := eq_true q258
                                                        go_wp2_with (first | ((with_reducible refine gate_callee (f := 37) rfl ?_); refine goesL_ (some 102) rfl rfl Try.func37 (by kernel_rfl) rfl #[.slice A258_0 (rd_L4 l0_0 x3_1).length c258_0] rfl (by (try simp only [List.map_toArray, List.map_cons, List.map_nil]); first | done | rfl | (simp only [List.length_drop, List.length_take]; rfl)) ?_; (with_reducible refine (herbariumref0_CopyRuns.calls k6 _ _ (rd_L4 l0_0 x3_1) t259 _ ?side1 ?side2 A48.out).mono ?_); (case side1 => repeat (first | exact (Kd.C_below HR258_0.out HB.out) | (with_reducible refine Kd.C_alloc ?_ _) | (with_reducible refine Kd.C_drewN ?_ _) | (with_reducible refine Kd.C_drew ?_))); (case side2 => exact HC258_0.out); rintro e w59 ⟨v260, rfl, ho0, hb⟩; refine ⟨_, rfl, ?_⟩; have n0_ := Aside0.mk (Kd.R_lower ho0 (below_size (by repeat (first | (with_reducible first | exact HB.out | apply below_alloc | apply pw_below_drewN | apply below_drew1 | refine below_set ?_ GE236.out) | exact HB.out)))); have n1_ := Aside0.mk (blk_below (g := gb236) (o := .cells #[.slice (some ad239) l0_0.length c0_0, .slice A0_1 l0_1.length c0_1, .slice A0_2 l0_2.length c0_2, .slice A0_3 l0_3.length c0_3] 38 (0, 0)) (by (with_reducible repeat (first | refine blk_drewN ?_ _ | refine blk_drew ?_ | refine blk_alloc ?_ _)); exact BK236.out) hb); have n2_ := Aside0.mk (below_step (by repeat (first | (with_reducible first | exact HB.out | apply below_alloc | apply pw_below_drewN | apply below_drew1 | refine below_set ?_ GE236.out) | exact HB.out)) hb); clear BK236; clear HB; have HO261 := n0_; have BK236 := n1_; have HB := n2_; clear n0_ n1_ n2_; (try clear hb); (try clear hb2); (try clear hk); (try clear hi); (try clear ho0)) | ((with_reducible refine gate_builtin (b := .append) (xs := #[.tmp 102, .tmp 106]) rfl ?_); (try (refine gate_guard (by rfl) ?_; dsimp only)); at_builtin; refine Kd.R_append k41 (w0 := w) w.heap.size rfl (.tmp 102) (.tmp 106) 39 41 (.agg #[(.int .i64 0), (.int .i64 0)]) 16 rfl Try.underlying39 info41 rfl (by decide) (by omega) v260 t259 (⟨x12_6, x4_3⟩ : S41) [.int .i64 x12_6, .int .i64 x4_3] (fun _ => True) (fun _ => False) rfl rfl ?aP (fun _ hk => hk.elim) ?aF ?aO ?aB ?aS ?aL ?_; (case aP => exact k41_mkM _ _ _ (⟨x12_6, x4_3⟩ : S41)); (case aB => exact (by repeat (first | (with_reducible first | exact HB.out | apply below_alloc | apply pw_below_drewN | apply below_drew1 | refine below_set ?_ GE236.out) | exact HB.out))); (case aF => exact (fun _ _ => trivial)); (case aO => exact (by (with_reducible repeat (first | apply Kd.R_alloc | apply Kd.R_drewN | apply Kd.R_drew)); exact HO261.out)); (case aS => exact (below_size (by repeat (first | (with_reducible first | exact HB.out | apply below_alloc | apply pw_below_drewN | apply below_drew1 | refine below_set ?_ GE236.out) | exact HB.out)))); (case aL => have := LMc49.out; omega); intro v263 w60 ho hb hg hat; rw [← Ny262.out] at ho; have n0_ := Aside0.mk (blk_grown (g := gb236) (o := .cells #[.slice (some ad239) l0_0.length c0_0, .slice A0_1 l0_1.length c0_1, .slice A0_2 l0_2.length c0_2, .slice A0_3 l0_3.length c0_3] 38 (0, 0)) (by (with_reducible repeat (first | refine blk_drewN ?_ _ | refine blk_drew ?_ | refine blk_alloc ?_ _)); exact BK236.out) hg (Kd.R_ne HO261.out BK236.out (by decide))); have n1_ := Aside0.mk (hb); have n2_ := Aside0.mk (ho); clear BK236; clear HB; clear HO261; have BK236 := n0_; have HB := n1_; have HO264 := n2_; clear n0_ n1_ n2_; clear ho hb hg hat; obtain ⟨Ao61, co61, eo61⟩ := Kd.R_slice HO264.out; subst eo61) | ((with_reducible refine gate_callee (f := 38) rfl ?_); refine goesL_ (some 108) rfl rfl Try.func38 (by kernel_rfl) rfl #[.slice Ao61 y262.length co61, .int .i64 30] rfl (by (try simp only [List.map_toArray, List.map_cons, List.map_nil]); first | done | rfl | (simp only [List.length_drop, List.length_take]; rfl)) ?_; (with_reducible refine (space_Check.calls k6 _ _ y262 30 t265 _ ?side1 ?side2 A50.out).mono ?_); (case side1 => repeat (first | exact (Kd.R_reads' HO264.out).2.2 | (with_reducible refine Kd.C_alloc ?_ _) | (with_reducible refine Kd.C_drewN ?_ _) | (with_reducible refine Kd.C_drew ?_))); (case side2 => exact (Kd.R_reads' HO264.out).2.1); rintro e w62 ⟨rfl, hb⟩; refine ⟨_, rfl, ?_⟩; have n0_ := Aside0.mk (Kd.R_below (by (with_reducible repeat (first | apply Kd.R_alloc | apply Kd.R_drewN | apply Kd.R_drew)); exact HO264.out) hb); have n1_ := Aside0.mk (blk_below (g := gb236) (o := .cells #[.slice (some ad239) l0_0.length c0_0, .slice A0_1 l0_1.length c0_1, .slice A0_2 l0_2.length c0_2, .slice A0_3 l0_3.length c0_3] 38 (0, 0)) (by (with_reducible repeat (first | refine blk_drewN ?_ _ | refine blk_drew ?_ | refine blk_alloc ?_ _)); exact BK236.out) hb); have n2_ := Aside0.mk (below_step (by repeat (first | (with_reducible first | exact HB.out | apply below_alloc | apply pw_below_drewN | apply below_drew1 | refine below_set ?_ GE236.out) | exact HB.out)) hb); clear HO264; clear BK236; clear HB; have HO264 := n0_; have BK236 := n1_; have HB := n2_; clear n0_ n1_ n2_; (try clear hb); (try clear hb2); (try clear hk); (try clear hi)) | ((with_reducible refine gate_callee (f := 31) rfl ?_); refine goesL_ (some 109) rfl rfl Try.func31 (by kernel_rfl) rfl #[.int .i64 t265] rfl (by (try simp only [List.map_toArray, List.map_cons, List.map_nil]); first | done | rfl | (simp only [List.length_drop, List.length_take]; rfl)) ?_; (with_reducible refine (herbariumlaw13_num.calls t265 t266 _ A51.out).mono ?_); rintro e w' ⟨rfl, ⟨nd, rfl⟩⟩; refine ⟨_, rfl, ?_⟩))
                                                        go_roundg k6
                                                        case measure => have := HK1.out; have := HJ9.out; have := HK3.out; have := HJ18.out; have := HJ31.out; have := HK6.out; omega
                                                        case rel => exact ⟨(wrap64 (x12_6 + 1)), (by first | rfl | (simp; done) | (simp [*]; done)), H', ⟨by have := HK1.out; have := HJ9.out; have := HK3.out; have := HJ18.out; have := HJ31.out; have := HK6.out; omega⟩, ⟨by (with_reducible repeat (first | refine blk_drewN ?_ _ | refine blk_drew ?_ | refine blk_alloc ?_ _)); exact BK236.out⟩, ⟨by repeat (first | (with_reducible first | exact HB.out | apply below_alloc | apply pw_below_drewN | apply below_drew1 | refine below_set ?_ GE236.out) | exact HB.out)⟩⟩
                                                    · rw [if_neg c49] at H
                                                      exact absurd H (by simp)
                                                  · rw [if_neg c47] at H
                                                    exact absurd H (by simp)
                                                · rw [if_neg c46] at H
                                                  exact absurd H (by simp)
                                              · rw [if_neg c45] at H
                                                have c45b0 : decide (x12_6 < t240) = false := decide_eq_false c45
                                                clear c45
                                                have H' := Aside0.mk H
                                                clear H
                                                go_wp2
                                                go_roundg k6
                                                case measure => have := HK1.out; have := HJ9.out; have := HK3.out; have := HJ18.out; have := HJ31.out; have := HK6.out; omega
                                                case rel => exact ⟨(wrap64 (x4_3 + 1)), (by first | rfl | (simp; done) | (simp [*]; done)), H', ⟨by have := HK1.out; have := HJ9.out; have := HK3.out; have := HJ18.out; have := HJ31.out; have := HK6.out; omega⟩, ⟨by (with_reducible repeat (first | refine blk_drewN ?_ _ | refine blk_drew ?_ | refine blk_alloc ?_ _)); exact BK236.out⟩, ⟨by repeat (first | (with_reducible first | exact HB.out | apply below_alloc | apply pw_below_drewN | apply below_drew1 | refine below_set ?_ GE236.out) | exact HB.out)⟩⟩
                                  · rw [if_neg c29] at H
                                    exact absurd H (by simp)
                                · rw [if_neg c27] at H
                                  exact absurd H (by simp)
                              · rw [if_neg c26] at H
                                exact absurd H (by simp)
                      · rw [if_neg c17] at H
                        exact absurd H (by simp)
                    · rw [if_neg c16] at H
                      exact absurd H (by simp)
                  · rw [if_neg c15] at H
                    have c15b0 : decide (x4_3 < 9) = false := decide_eq_false c15
                    clear c15
                    have H' := Aside0.mk H
                    clear H
                    go_wp2
                    go_roundg k3
                    case measure => have := HK1.out; have := HJ9.out; have := HK3.out; omega
                    case rel => exact ⟨(wrap64 (x3_1 + 1)), (by first | rfl | (simp; done) | (simp [*]; done)), H', ⟨by have := HK1.out; have := HJ9.out; have := HK3.out; omega⟩, ⟨by (with_reducible repeat (first | refine blk_drewN ?_ _ | refine blk_drew ?_ | refine blk_alloc ?_ _)); exact BK236.out⟩, ⟨by repeat (first | (with_reducible first | exact HB.out | apply below_alloc | apply pw_below_drewN | apply below_drew1 | refine below_set ?_ GE236.out) | exact HB.out)⟩⟩
            · replace c14 := Bool.eq_false_iff.mpr c14
              subst c14
              have H1 : ((herbariumlaw13_wakes.f kj9).bind fun t238 => (some t238)) = some r := by rw [if_neg (show ¬ (false = true) by decide)] at H; exact H
              clear H
              have H := H1
              clear H1
              replace H := Option.bind_eq_some_iff.mp H
              obtain ⟨t238, A630, H⟩ := H
              replace H : (some t238) = some r := H
              have A63 := Aside0.mk A630
              clear A630
              obtain rfl := Option.some.inj H
              go_wp2_with (first | ((with_reducible refine gate_callee (f := 32) rfl ?_); refine goesL_ (some 111) rfl rfl Try.func32 (by kernel_rfl) rfl #[] rfl (by (try simp only [List.map_toArray, List.map_cons, List.map_nil]); first | done | rfl | (simp only [List.length_drop, List.length_take]; rfl)) ?_; (with_reducible refine (herbariumlaw13_wakes.calls kj9  t238 _ A63.out).mono ?_); rintro e w64 ⟨rfl, hb⟩; refine ⟨_, rfl, ?_⟩; have n0_ := Aside0.mk (blk_below (g := gb236) (o := .cells #[.slice A0_0 l0_0.length c0_0, .slice A0_1 l0_1.length c0_1, .slice A0_2 l0_2.length c0_2, .slice A0_3 l0_3.length c0_3] 38 (0, 0)) (by (with_reducible repeat (first | refine blk_drewN ?_ _ | refine blk_drew ?_ | refine blk_alloc ?_ _)); exact BK236.out) hb); have n1_ := Aside0.mk (below_step (by repeat (first | (with_reducible first | exact HB.out | apply below_alloc | apply pw_below_drewN | apply below_drew1 | refine below_set ?_ GE236.out) | exact HB.out)) hb); clear BK236; clear HB; have BK236 := n0_; have HB := n1_; clear n0_ n1_; (try clear hb); (try clear hb2); (try clear hk); (try clear hi)))
              go_ret
              exact ⟨by first | rfl | (simp [errW_none, errW_some] <;> rfl) | (simp [*, errW_none, errW_some] <;> rfl), by repeat (first | (with_reducible first | exact HB.out | apply below_alloc | apply pw_below_drewN | apply below_drew1 | refine below_set ?_ GE236.out) | exact HB.out)⟩

end Go.Proofs.Ytnpghcikhpglkaa.Q
