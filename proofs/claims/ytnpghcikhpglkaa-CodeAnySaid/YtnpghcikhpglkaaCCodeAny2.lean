/- What the row of CodeAny rests on, part 3 of 6: functions, contracts, plain laws. -/
import Derived.Test.YtnpghcikhpglkaaCCodeAny1
import Derived.Lib.Hide
import Derived.BigRegion
import Derived.Laws.BitsLemmas
import Derived.Outline
import Derived.Shelf.Small.Bits
import Derived.Shelf.Strconv.Itoa0
import Derived.StillTailTactics
import Derived.Deep.RegionHeld3
namespace Go.Proofs.Ytnpghcikhpglkaa.Q
open Go.RowKit Go.Proofs.YtnpghcikhpglkaaW.PrintWords Go.Proofs.YtnpghcikhpglkaaW.PrintLast Go.Proofs.YtnpghcikhpglkaaW.PrintMore
attribute [local go_sem] max2_int min2_int max_two min_two max_three min_three max_four min_four   -- for this text's walks alone
set_option linter.unusedVariables false
set_option linter.unusedSimpArgs false

/-! ### herbariumref1_List_Read: function 108 -/
mutual
def herbariumref1_List_Read.j0 : Nat → List Int → Int → Int → Int → Bool → Option (Int × Int)
 | 0, _, _, _, _, _ => none
 | k + 1, x0, x1, x2, x8, x110 => if x110 = true then (some ((-1), 0)) else ((herbariumref1_List_Get.f k x0 (wrap64 (x1 + x8)) (wrap64 (x8 + 1))).bind fun t432 => ((herbariumref1_Code.f x2 t432).bind fun t433 => (if t433 = true then (some (t432, wrap64 ((wrap64 (x1 + (wrap64 (2 * x8)))) + 1))) else (some ((-1), 0)))))
def herbariumref1_List_Read.j1 : Nat → List Int → Int → Int → Int → Bool → Option (Int × Int)
 | 0, _, _, _, _, _ => none
 | k + 1, x0, x2, x11, x12, x145 => if x145 = true then (some ((-1), 0)) else (if 0 ≤ (wrap64 (x11 - 1)) then ((herbariumref1_List_Get.f k x0 x12 (wrap64 (x11 - 1))).bind fun t436 => ((herbariumref1_Code.f x2 (wrap64 ((shl .i64 1 (wrap64 (x11 - 1))) + t436))).bind fun t437 => (if t437 = true then (some (wrap64 ((shl .i64 1 (wrap64 (x11 - 1))) + t436), wrap64 ((wrap64 (x12 + x11)) - 1))) else (some ((-1), 0))))) else (none))
def herbariumref1_List_Read.j2 : Nat → List Int → Int → Int → Int → Int → Option (Int × Int)
 | 0, _, _, _, _, _ => none
 | k + 1, x0, x2, x8, x10, x13 => if x8 > 15 then (some ((-1), 0)) else (if 0 ≤ (wrap64 ((wrap64 (x8 + 1)) * x13)) then (if 0 ≤ (wrap64 (x8 * x13)) then ((herbariumref1_log.f k (wrap64 ((wrap64 ((shl .i64 1 (wrap64 ((wrap64 (x8 + 1)) * x13))) - (shl .i64 1 (wrap64 (x8 * x13))))) - 1))).bind fun t438 => (if (wrap64 ((wrap64 (x10 + (wrap64 (t438 + 1)))) - 1)) > (x0.length : Int) then (some ((-1), 0)) else ((herbariumref1_List_Get.f k x0 x10 (wrap64 ((wrap64 (t438 + 1)) - 1))).bind fun t439 => (if 0 ≤ (wrap64 (t438 + 1)) then (if t439 ≥ (wrap64 ((shl .i64 1 (wrap64 (t438 + 1))) - (wrap64 ((shl .i64 1 (wrap64 ((wrap64 (x8 + 1)) * x13))) - (shl .i64 1 (wrap64 (x8 * x13))))))) then (if (wrap64 ((wrap64 ((wrap64 (x10 + (wrap64 (t438 + 1)))) - 1)) + 1)) > (x0.length : Int) then (some ((-1), 0)) else (if 0 ≤ (wrap64 ((wrap64 (x10 + (wrap64 (t438 + 1)))) - 1)) then (if (wrap64 ((wrap64 (x10 + (wrap64 (t438 + 1)))) - 1)) < (x0.length : Int) then ((herbariumref1_Code.f x2 (wrap64 ((shl .i64 1 (wrap64 (x8 * x13))) + (wrap64 ((wrap64 ((wrap64 (2 * t439)) + (wrap64 (rd x0 (wrap64 ((wrap64 (x10 + (wrap64 (t438 + 1)))) - 1)))))) - (wrap64 ((shl .i64 1 (wrap64 (t438 + 1))) - (wrap64 ((shl .i64 1 (wrap64 ((wrap64 (x8 + 1)) * x13))) - (shl .i64 1 (wrap64 (x8 * x13)))))))))))).bind fun t441 => (if t441 = true then (some (wrap64 ((shl .i64 1 (wrap64 (x8 * x13))) + (wrap64 ((wrap64 ((wrap64 (2 * t439)) + (wrap64 (rd x0 (wrap64 ((wrap64 (x10 + (wrap64 (t438 + 1)))) - 1)))))) - (wrap64 ((shl .i64 1 (wrap64 (t438 + 1))) - (wrap64 ((shl .i64 1 (wrap64 ((wrap64 (x8 + 1)) * x13))) - (shl .i64 1 (wrap64 (x8 * x13)))))))))), wrap64 ((wrap64 ((wrap64 (x10 + (wrap64 (t438 + 1)))) - 1)) + 1))) else (some ((-1), 0)))) else (none)) else (none))) else ((herbariumref1_Code.f x2 (wrap64 ((shl .i64 1 (wrap64 (x8 * x13))) + t439))).bind fun t442 => (if t442 = true then (some (wrap64 ((shl .i64 1 (wrap64 (x8 * x13))) + t439), wrap64 ((wrap64 (x10 + (wrap64 (t438 + 1)))) - 1))) else (some ((-1), 0))))) else (none))))) else (none)) else (none))
def herbariumref1_List_Read.f : Nat → List Int → Int → Int → Option (Int × Int)
 | 0, _, _, _ => none
 | k + 1, l0, a1, a2 => (herbariumref1_List_Zeros.f k l0 a1).bind fun t430 => (if t430 < 0 then (some ((-1), 0)) else (if a2 = 1 then ((herbariumref1_Code.f a2 (wrap64 (t430 + 1))).bind fun t431 => (if t431 = true then (some (wrap64 (t430 + 1), wrap64 ((wrap64 (a1 + t430)) + 1))) else (some ((-1), 0)))) else (if a2 = 2 then (if t430 > 30 then (herbariumref1_List_Read.j0 k l0 a1 a2 t430 true) else (herbariumref1_List_Read.j0 k l0 a1 a2 t430 (decide ((wrap64 ((wrap64 (a1 + (wrap64 (2 * t430)))) + 1)) > (l0.length : Int))))) else (if a2 = 3 then ((herbariumref1_List_Read.f k l0 a1 2).bind fun bt434 => (if bt434.1 < 1 then (herbariumref1_List_Read.j1 k l0 a2 bt434.1 bt434.2 true) else (if bt434.1 > 31 then (herbariumref1_List_Read.j1 k l0 a2 bt434.1 bt434.2 true) else (herbariumref1_List_Read.j1 k l0 a2 bt434.1 bt434.2 (decide ((wrap64 ((wrap64 (bt434.2 + bt434.1)) - 1)) > (l0.length : Int))))))) else (if a2 = 5 then (herbariumref1_List_Read.j2 k l0 a2 t430 (wrap64 ((wrap64 (a1 + t430)) + 1)) 3) else (herbariumref1_List_Read.j2 k l0 a2 t430 (wrap64 ((wrap64 (a1 + t430)) + 1)) 2))))))
end
theorem herbariumref1_List_Read.mono_l : ∀ k, (∀ y0 y1 y2, LeO (herbariumref1_List_Read.f k y0 y1 y2) (herbariumref1_List_Read.f (k + 1) y0 y1 y2)) ∧ (∀ y0 y1 y2 y3 y4, LeO (herbariumref1_List_Read.j0 k y0 y1 y2 y3 y4) (herbariumref1_List_Read.j0 (k + 1) y0 y1 y2 y3 y4)) ∧ (∀ y0 y1 y2 y3 y4, LeO (herbariumref1_List_Read.j1 k y0 y1 y2 y3 y4) (herbariumref1_List_Read.j1 (k + 1) y0 y1 y2 y3 y4)) ∧ (∀ y0 y1 y2 y3 y4, LeO (herbariumref1_List_Read.j2 k y0 y1 y2 y3 y4) (herbariumref1_List_Read.j2 (k + 1) y0 y1 y2 y3 y4))
 | 0 => ⟨fun _ _ _ r h => by simp [herbariumref1_List_Read.f] at h, fun _ _ _ _ _ r h => by simp [herbariumref1_List_Read.j0] at h, fun _ _ _ _ _ r h => by simp [herbariumref1_List_Read.j1] at h, fun _ _ _ _ _ r h => by simp [herbariumref1_List_Read.j2] at h⟩
 | k + 1 => by
  obtain ⟨ih0, ih1, ih2, ih3⟩ := herbariumref1_List_Read.mono_l k
  refine ⟨?_, ?_, ?_, ?_⟩
  ·
   intro y0 y1 y2
   unfold herbariumref1_List_Read.f
   repeat' first
   | (with_reducible exact ih0 _ _ _)
   | (with_reducible exact ih1 _ _ _ _ _)
   | (with_reducible exact ih2 _ _ _ _ _)
   | (with_reducible exact ih3 _ _ _ _ _)
   | (with_reducible exact herbariumref1_List_Get.mono _ _ _ _)
   | (with_reducible exact herbariumref1_List_Zeros.mono _ _ _)
   | (with_reducible exact herbariumref1_log.mono _ _)
   | (with_reducible exact LeO.refl _)
   | (with_reducible exact LeO.none _)
   | (with_reducible refine LeO.ite ?_ ?_)
   | (with_reducible refine LeO.bind ?_ (fun _ => ?_))
   | exact ih0 _ _ _
   | exact ih1 _ _ _ _ _
   | exact ih2 _ _ _ _ _
   | exact ih3 _ _ _ _ _
   | exact herbariumref1_List_Get.mono _ _ _ _
   | exact herbariumref1_List_Zeros.mono _ _ _
   | exact herbariumref1_log.mono _ _
   | exact LeO.none _
   | refine LeO.ite ?_ ?_
   | refine LeO.bind ?_ (fun _ => ?_)
  ·
   intro y0 y1 y2 y3 y4
   unfold herbariumref1_List_Read.j0
   repeat' first
   | (with_reducible exact ih0 _ _ _)
   | (with_reducible exact ih1 _ _ _ _ _)
   | (with_reducible exact ih2 _ _ _ _ _)
   | (with_reducible exact ih3 _ _ _ _ _)
   | (with_reducible exact herbariumref1_List_Get.mono _ _ _ _)
   | (with_reducible exact herbariumref1_List_Zeros.mono _ _ _)
   | (with_reducible exact herbariumref1_log.mono _ _)
   | (with_reducible exact LeO.refl _)
   | (with_reducible exact LeO.none _)
   | (with_reducible refine LeO.ite ?_ ?_)
   | (with_reducible refine LeO.bind ?_ (fun _ => ?_))
   | exact ih0 _ _ _
   | exact ih1 _ _ _ _ _
   | exact ih2 _ _ _ _ _
   | exact ih3 _ _ _ _ _
   | exact herbariumref1_List_Get.mono _ _ _ _
   | exact herbariumref1_List_Zeros.mono _ _ _
   | exact herbariumref1_log.mono _ _
   | exact LeO.none _
   | refine LeO.ite ?_ ?_
   | refine LeO.bind ?_ (fun _ => ?_)
  ·
   intro y0 y1 y2 y3 y4
   unfold herbariumref1_List_Read.j1
   repeat' first
   | (with_reducible exact ih0 _ _ _)
   | (with_reducible exact ih1 _ _ _ _ _)
   | (with_reducible exact ih2 _ _ _ _ _)
   | (with_reducible exact ih3 _ _ _ _ _)
   | (with_reducible exact herbariumref1_List_Get.mono _ _ _ _)
   | (with_reducible exact herbariumref1_List_Zeros.mono _ _ _)
   | (with_reducible exact herbariumref1_log.mono _ _)
   | (with_reducible exact LeO.refl _)
   | (with_reducible exact LeO.none _)
   | (with_reducible refine LeO.ite ?_ ?_)
   | (with_reducible refine LeO.bind ?_ (fun _ => ?_))
   | exact ih0 _ _ _
   | exact ih1 _ _ _ _ _
   | exact ih2 _ _ _ _ _
   | exact ih3 _ _ _ _ _
   | exact herbariumref1_List_Get.mono _ _ _ _
   | exact herbariumref1_List_Zeros.mono _ _ _
   | exact herbariumref1_log.mono _ _
   | exact LeO.none _
   | refine LeO.ite ?_ ?_
   | refine LeO.bind ?_ (fun _ => ?_)
  ·
   intro y0 y1 y2 y3 y4
   unfold herbariumref1_List_Read.j2
   repeat' first
   | (with_reducible exact ih0 _ _ _)
   | (with_reducible exact ih1 _ _ _ _ _)
   | (with_reducible exact ih2 _ _ _ _ _)
   | (with_reducible exact ih3 _ _ _ _ _)
   | (with_reducible exact herbariumref1_List_Get.mono _ _ _ _)
   | (with_reducible exact herbariumref1_List_Zeros.mono _ _ _)
   | (with_reducible exact herbariumref1_log.mono _ _)
   | (with_reducible exact LeO.refl _)
   | (with_reducible exact LeO.none _)
   | (with_reducible refine LeO.ite ?_ ?_)
   | (with_reducible refine LeO.bind ?_ (fun _ => ?_))
   | exact ih0 _ _ _
   | exact ih1 _ _ _ _ _
   | exact ih2 _ _ _ _ _
   | exact ih3 _ _ _ _ _
   | exact herbariumref1_List_Get.mono _ _ _ _
   | exact herbariumref1_List_Zeros.mono _ _ _
   | exact herbariumref1_log.mono _ _
   | exact LeO.none _
   | refine LeO.ite ?_ ?_
   | refine LeO.bind ?_ (fun _ => ?_)
theorem herbariumref1_List_Read.mono : ∀ a0 a1 a2 k, LeO (herbariumref1_List_Read.f k a0 a1 a2) (herbariumref1_List_Read.f (k + 1) a0 a1 a2) := by
 intro a0 a1 a2 k
 obtain ⟨ih0, ih1, ih2, ih3⟩ := herbariumref1_List_Read.mono_l k
 exact ih0 a0 a1 a2
set_option maxHeartbeats 8000000 in
set_option maxRecDepth 100000 in
theorem herbariumref1_List_Read.calls (k : Nat) : ∀ (A0 : Option Addr) (c0 : Nat) (l0 : List Int) (a1 : Int) (a2 : Int) (r1 : Int) (r2 : Int) (w : World) (hr0 : Kd.C (Kd.int .u8) w A0 l0.length l0) (hc0 : l0.length ≤ c0) (h : herbariumref1_List_Read.f k l0 a1 a2 = some (r1, r2)),
  Calls Try.prog 108 #[.slice A0 l0.length c0, .int .i64 a1, .int .i64 a2] w fun e w' => e = .returned (.tuple #[.int .i64 r1, .int .i64 r2]) ∧ Drawn0 w w' := by
 induction k using Nat.strongRecOn with
 | _ k ih =>
 intro A0 c0 l0 a1 a2 r1 r2 w hr0 hc0 h
 cases k with
 | zero => exact absurd h (by simp [herbariumref1_List_Read.f])
 | succ k =>
 simp only [herbariumref1_List_Read.f] at h
 have HR0 := Aside0.mk hr0
 have HC0 := Aside0.mk hc0
 clear hr0 hc0
 have H : ((herbariumref1_List_Zeros.f k l0 a1).bind fun t430 => (if t430 < 0 then (some ((-1), 0)) else (if a2 = 1 then ((herbariumref1_Code.f a2 (wrap64 (t430 + 1))).bind fun t431 => (if t431 = true then (some (wrap64 (t430 + 1), wrap64 ((wrap64 (a1 + t430)) + 1))) else (some ((-1), 0)))) else (if a2 = 2 then (if t430 > 30 then (herbariumref1_List_Read.j0 k l0 a1 a2 t430 true) else (herbariumref1_List_Read.j0 k l0 a1 a2 t430 (decide ((wrap64 ((wrap64 (a1 + (wrap64 (2 * t430)))) + 1)) > (l0.length : Int))))) else (if a2 = 3 then ((herbariumref1_List_Read.f k l0 a1 2).bind fun bt434 => (if bt434.1 < 1 then (herbariumref1_List_Read.j1 k l0 a2 bt434.1 bt434.2 true) else (if bt434.1 > 31 then (herbariumref1_List_Read.j1 k l0 a2 bt434.1 bt434.2 true) else (herbariumref1_List_Read.j1 k l0 a2 bt434.1 bt434.2 (decide ((wrap64 ((wrap64 (bt434.2 + bt434.1)) - 1)) > (l0.length : Int))))))) else (if a2 = 5 then (herbariumref1_List_Read.j2 k l0 a2 t430 (wrap64 ((wrap64 (a1 + t430)) + 1)) 3) else (herbariumref1_List_Read.j2 k l0 a2 t430 (wrap64 ((wrap64 (a1 + t430)) + 1)) 2))))))) = some (r1, r2) := h
 clear h
 replace H := Option.bind_eq_some_iff.mp H
 obtain ⟨t430, A40, H⟩ := H
 replace H : (if t430 < 0 then (some ((-1), 0)) else (if a2 = 1 then ((herbariumref1_Code.f a2 (wrap64 (t430 + 1))).bind fun t431 => (if t431 = true then (some (wrap64 (t430 + 1), wrap64 ((wrap64 (a1 + t430)) + 1))) else (some ((-1), 0)))) else (if a2 = 2 then (if t430 > 30 then (herbariumref1_List_Read.j0 k l0 a1 a2 t430 true) else (herbariumref1_List_Read.j0 k l0 a1 a2 t430 (decide ((wrap64 ((wrap64 (a1 + (wrap64 (2 * t430)))) + 1)) > (l0.length : Int))))) else (if a2 = 3 then ((herbariumref1_List_Read.f k l0 a1 2).bind fun bt434 => (if bt434.1 < 1 then (herbariumref1_List_Read.j1 k l0 a2 bt434.1 bt434.2 true) else (if bt434.1 > 31 then (herbariumref1_List_Read.j1 k l0 a2 bt434.1 bt434.2 true) else (herbariumref1_List_Read.j1 k l0 a2 bt434.1 bt434.2 (decide ((wrap64 ((wrap64 (bt434.2 + bt434.1)) - 1)) > (l0.length : Int))))))) else (if a2 = 5 then (herbariumref1_List_Read.j2 k l0 a2 t430 (wrap64 ((wrap64 (a1 + t430)) + 1)) 3) else (herbariumref1_List_Read.j2 k l0 a2 t430 (wrap64 ((wrap64 (a1 + t430)) + 1)) 2)))))) = some (r1, r2) := H
 have A4 := Aside0.mk A40
 clear A40
 by_cases c5 : t430 < 0
 ·
  rw [if_pos c5] at H
  have c5b0 : decide (t430 < 0) = true := decide_eq_true c5
  clear c5
  simp only [Option.some.injEq, Prod.mk.injEq] at H
  obtain ⟨rfl, rfl⟩ := H
  go_enter Try.func108, Try.ntmps108
  go_wp2_with (first | (go_at_call 54; (with_reducible refine (herbariumref1_List_Zeros.calls k _ _ l0 a1 t430 _ ?side1 ?side2 A4.out).mono ?_); (case side1 => repeat (first | exact HR0.out | (with_reducible refine Kd.C_alloc ?_ _) | (with_reducible refine Kd.C_drewN ?_ _) | (with_reducible refine Kd.C_drew ?_))); (case side2 => exact HC0.out); rintro e w' ⟨rfl, ⟨nd, rfl⟩⟩; (try first | exact ⟨rfl, _, World.drewN_drewN _ _ _⟩ | exact ⟨rfl, _, Eq.trans (World.drewN_drewN _ _ _) (congrArg (World.drewN _) (Nat.add_assoc _ _ _))⟩)))
  repeat (go_quiet (first | (go_at_call 54; (with_reducible refine (herbariumref1_List_Zeros.calls k _ _ l0 a1 t430 _ ?side1 ?side2 A4.out).mono ?_); (case side1 => repeat (first | exact HR0.out | (with_reducible refine Kd.C_alloc ?_ _) | (with_reducible refine Kd.C_drewN ?_ _) | (with_reducible refine Kd.C_drew ?_))); (case side2 => exact HC0.out); rintro e w' ⟨rfl, ⟨nd, rfl⟩⟩; (try first | exact ⟨rfl, _, World.drewN_drewN _ _ _⟩ | exact ⟨rfl, _, Eq.trans (World.drewN_drewN _ _ _) (congrArg (World.drewN _) (Nat.add_assoc _ _ _))⟩))); try go_wp2_with (first | (go_at_call 54; (with_reducible refine (herbariumref1_List_Zeros.calls k _ _ l0 a1 t430 _ ?side1 ?side2 A4.out).mono ?_); (case side1 => repeat (first | exact HR0.out | (with_reducible refine Kd.C_alloc ?_ _) | (with_reducible refine Kd.C_drewN ?_ _) | (with_reducible refine Kd.C_drew ?_))); (case side2 => exact HC0.out); rintro e w' ⟨rfl, ⟨nd, rfl⟩⟩; (try first | exact ⟨rfl, _, World.drewN_drewN _ _ _⟩ | exact ⟨rfl, _, Eq.trans (World.drewN_drewN _ _ _) (congrArg (World.drewN _) (Nat.add_assoc _ _ _))⟩))))
  go_ret2
  exact ⟨by first | rfl | (simp; done) | (simp [*]; done), by repeat (first | exact Drawn0.refl _ | apply Drawn0.step)⟩
 ·
  rw [if_neg c5] at H
  have c5b0 : decide (t430 < 0) = false := decide_eq_false c5
  clear c5
  by_cases c6 : a2 = 1
  ·
   rw [if_pos c6] at H
   have c6b0 : (a2 == 1) = true := beq_iff_eq.mpr c6
   have c6b1 : (a2 != 1) = false := bne_eq_false_iff_eq.mpr c6
   clear c6
   replace H := Option.bind_eq_some_iff.mp H
   obtain ⟨t431, A70, H⟩ := H
   replace H : (if t431 = true then (some (wrap64 (t430 + 1), wrap64 ((wrap64 (a1 + t430)) + 1))) else (some ((-1), 0))) = some (r1, r2) := H
   have A7 := Aside0.mk A70
   clear A70
   by_cases c8 : t431 = true
   ·
    subst c8
    have H1 : (some (wrap64 (t430 + 1), wrap64 ((wrap64 (a1 + t430)) + 1))) = some (r1, r2) := by rw [if_pos rfl] at H; exact H
    clear H
    have H := H1
    clear H1
    simp only [Option.some.injEq, Prod.mk.injEq] at H
    obtain ⟨rfl, rfl⟩ := H
    go_enter Try.func108, Try.ntmps108
    go_wp2_with (first | (go_at_call 54; (with_reducible refine (herbariumref1_List_Zeros.calls k _ _ l0 a1 t430 _ ?side1 ?side2 A4.out).mono ?_); (case side1 => repeat (first | exact HR0.out | (with_reducible refine Kd.C_alloc ?_ _) | (with_reducible refine Kd.C_drewN ?_ _) | (with_reducible refine Kd.C_drew ?_))); (case side2 => exact HC0.out); rintro e w' ⟨rfl, ⟨nd, rfl⟩⟩; (try first | exact ⟨rfl, _, World.drewN_drewN _ _ _⟩ | exact ⟨rfl, _, Eq.trans (World.drewN_drewN _ _ _) (congrArg (World.drewN _) (Nat.add_assoc _ _ _))⟩)) | (go_at_call 106; (with_reducible refine (herbariumref1_Code.calls a2 (wrap64 (t430 + 1)) true _ A7.out).mono ?_); rintro e w' ⟨rfl, ⟨nd, rfl⟩⟩; (try first | exact ⟨rfl, _, World.drewN_drewN _ _ _⟩ | exact ⟨rfl, _, Eq.trans (World.drewN_drewN _ _ _) (congrArg (World.drewN _) (Nat.add_assoc _ _ _))⟩)))
    repeat (go_quiet (first | (go_at_call 54; (with_reducible refine (herbariumref1_List_Zeros.calls k _ _ l0 a1 t430 _ ?side1 ?side2 A4.out).mono ?_); (case side1 => repeat (first | exact HR0.out | (with_reducible refine Kd.C_alloc ?_ _) | (with_reducible refine Kd.C_drewN ?_ _) | (with_reducible refine Kd.C_drew ?_))); (case side2 => exact HC0.out); rintro e w' ⟨rfl, ⟨nd, rfl⟩⟩; (try first | exact ⟨rfl, _, World.drewN_drewN _ _ _⟩ | exact ⟨rfl, _, Eq.trans (World.drewN_drewN _ _ _) (congrArg (World.drewN _) (Nat.add_assoc _ _ _))⟩)) | (go_at_call 106; (with_reducible refine (herbariumref1_Code.calls a2 (wrap64 (t430 + 1)) true _ A7.out).mono ?_); rintro e w' ⟨rfl, ⟨nd, rfl⟩⟩; (try first | exact ⟨rfl, _, World.drewN_drewN _ _ _⟩ | exact ⟨rfl, _, Eq.trans (World.drewN_drewN _ _ _) (congrArg (World.drewN _) (Nat.add_assoc _ _ _))⟩))); try go_wp2_with (first | (go_at_call 54; (with_reducible refine (herbariumref1_List_Zeros.calls k _ _ l0 a1 t430 _ ?side1 ?side2 A4.out).mono ?_); (case side1 => repeat (first | exact HR0.out | (with_reducible refine Kd.C_alloc ?_ _) | (with_reducible refine Kd.C_drewN ?_ _) | (with_reducible refine Kd.C_drew ?_))); (case side2 => exact HC0.out); rintro e w' ⟨rfl, ⟨nd, rfl⟩⟩; (try first | exact ⟨rfl, _, World.drewN_drewN _ _ _⟩ | exact ⟨rfl, _, Eq.trans (World.drewN_drewN _ _ _) (congrArg (World.drewN _) (Nat.add_assoc _ _ _))⟩)) | (go_at_call 106; (with_reducible refine (herbariumref1_Code.calls a2 (wrap64 (t430 + 1)) true _ A7.out).mono ?_); rintro e w' ⟨rfl, ⟨nd, rfl⟩⟩; (try first | exact ⟨rfl, _, World.drewN_drewN _ _ _⟩ | exact ⟨rfl, _, Eq.trans (World.drewN_drewN _ _ _) (congrArg (World.drewN _) (Nat.add_assoc _ _ _))⟩))))
    go_ret2
    exact ⟨by first | rfl | (simp; done) | (simp [*]; done), by repeat (first | exact Drawn0.refl _ | apply Drawn0.step)⟩
   ·
    replace c8 := Bool.eq_false_iff.mpr c8
    subst c8
    have H1 : (some ((-1), 0)) = some (r1, r2) := by rw [if_neg (show ¬ (false = true) by decide)] at H; exact H
    clear H
    have H := H1
    clear H1
    simp only [Option.some.injEq, Prod.mk.injEq] at H
    obtain ⟨rfl, rfl⟩ := H
    go_enter Try.func108, Try.ntmps108
    go_wp2_with (first | (go_at_call 54; (with_reducible refine (herbariumref1_List_Zeros.calls k _ _ l0 a1 t430 _ ?side1 ?side2 A4.out).mono ?_); (case side1 => repeat (first | exact HR0.out | (with_reducible refine Kd.C_alloc ?_ _) | (with_reducible refine Kd.C_drewN ?_ _) | (with_reducible refine Kd.C_drew ?_))); (case side2 => exact HC0.out); rintro e w' ⟨rfl, ⟨nd, rfl⟩⟩; (try first | exact ⟨rfl, _, World.drewN_drewN _ _ _⟩ | exact ⟨rfl, _, Eq.trans (World.drewN_drewN _ _ _) (congrArg (World.drewN _) (Nat.add_assoc _ _ _))⟩)) | (go_at_call 106; (with_reducible refine (herbariumref1_Code.calls a2 (wrap64 (t430 + 1)) false _ A7.out).mono ?_); rintro e w' ⟨rfl, ⟨nd, rfl⟩⟩; (try first | exact ⟨rfl, _, World.drewN_drewN _ _ _⟩ | exact ⟨rfl, _, Eq.trans (World.drewN_drewN _ _ _) (congrArg (World.drewN _) (Nat.add_assoc _ _ _))⟩)))
    repeat (go_quiet (first | (go_at_call 54; (with_reducible refine (herbariumref1_List_Zeros.calls k _ _ l0 a1 t430 _ ?side1 ?side2 A4.out).mono ?_); (case side1 => repeat (first | exact HR0.out | (with_reducible refine Kd.C_alloc ?_ _) | (with_reducible refine Kd.C_drewN ?_ _) | (with_reducible refine Kd.C_drew ?_))); (case side2 => exact HC0.out); rintro e w' ⟨rfl, ⟨nd, rfl⟩⟩; (try first | exact ⟨rfl, _, World.drewN_drewN _ _ _⟩ | exact ⟨rfl, _, Eq.trans (World.drewN_drewN _ _ _) (congrArg (World.drewN _) (Nat.add_assoc _ _ _))⟩)) | (go_at_call 106; (with_reducible refine (herbariumref1_Code.calls a2 (wrap64 (t430 + 1)) false _ A7.out).mono ?_); rintro e w' ⟨rfl, ⟨nd, rfl⟩⟩; (try first | exact ⟨rfl, _, World.drewN_drewN _ _ _⟩ | exact ⟨rfl, _, Eq.trans (World.drewN_drewN _ _ _) (congrArg (World.drewN _) (Nat.add_assoc _ _ _))⟩))); try go_wp2_with (first | (go_at_call 54; (with_reducible refine (herbariumref1_List_Zeros.calls k _ _ l0 a1 t430 _ ?side1 ?side2 A4.out).mono ?_); (case side1 => repeat (first | exact HR0.out | (with_reducible refine Kd.C_alloc ?_ _) | (with_reducible refine Kd.C_drewN ?_ _) | (with_reducible refine Kd.C_drew ?_))); (case side2 => exact HC0.out); rintro e w' ⟨rfl, ⟨nd, rfl⟩⟩; (try first | exact ⟨rfl, _, World.drewN_drewN _ _ _⟩ | exact ⟨rfl, _, Eq.trans (World.drewN_drewN _ _ _) (congrArg (World.drewN _) (Nat.add_assoc _ _ _))⟩)) | (go_at_call 106; (with_reducible refine (herbariumref1_Code.calls a2 (wrap64 (t430 + 1)) false _ A7.out).mono ?_); rintro e w' ⟨rfl, ⟨nd, rfl⟩⟩; (try first | exact ⟨rfl, _, World.drewN_drewN _ _ _⟩ | exact ⟨rfl, _, Eq.trans (World.drewN_drewN _ _ _) (congrArg (World.drewN _) (Nat.add_assoc _ _ _))⟩))))
    go_ret2
    exact ⟨by first | rfl | (simp; done) | (simp [*]; done), by repeat (first | exact Drawn0.refl _ | apply Drawn0.step)⟩
  ·
   rw [if_neg c6] at H
   have c6b0 : (a2 == 1) = false := beq_eq_false_iff_ne.mpr c6
   have c6b1 : (a2 != 1) = true := bne_iff_ne.mpr c6
   by_cases c9 : a2 = 2
   ·
    rw [if_pos c9] at H
    have c9b0 : (a2 == 2) = true := beq_iff_eq.mpr c9
    have c9b1 : (a2 != 2) = false := bne_eq_false_iff_eq.mpr c9
    clear c9
    have HC10 := Aside0.mk H
    clear H
    go_enter Try.func108, Try.ntmps108
    go_upto_region 26 with (first | (go_at_call 54; (with_reducible refine (herbariumref1_List_Zeros.calls k _ _ l0 a1 t430 _ ?side1 ?side2 A4.out).mono ?_); (case side1 => repeat (first | exact HR0.out | (with_reducible refine Kd.C_alloc ?_ _) | (with_reducible refine Kd.C_drewN ?_ _) | (with_reducible refine Kd.C_drew ?_))); (case side2 => exact HC0.out); rintro e w' ⟨rfl, ⟨nd, rfl⟩⟩; (try first | exact ⟨rfl, _, World.drewN_drewN _ _ _⟩ | exact ⟨rfl, _, Eq.trans (World.drewN_drewN _ _ _) (congrArg (World.drewN _) (Nat.add_assoc _ _ _))⟩)))
    repeat (go_quiet (first | (go_at_call 54; (with_reducible refine (herbariumref1_List_Zeros.calls k _ _ l0 a1 t430 _ ?side1 ?side2 A4.out).mono ?_); (case side1 => repeat (first | exact HR0.out | (with_reducible refine Kd.C_alloc ?_ _) | (with_reducible refine Kd.C_drewN ?_ _) | (with_reducible refine Kd.C_drew ?_))); (case side2 => exact HC0.out); rintro e w' ⟨rfl, ⟨nd, rfl⟩⟩; (try first | exact ⟨rfl, _, World.drewN_drewN _ _ _⟩ | exact ⟨rfl, _, Eq.trans (World.drewN_drewN _ _ _) (congrArg (World.drewN _) (Nat.add_assoc _ _ _))⟩))); go_upto_region 26 with (first | (go_at_call 54; (with_reducible refine (herbariumref1_List_Zeros.calls k _ _ l0 a1 t430 _ ?side1 ?side2 A4.out).mono ?_); (case side1 => repeat (first | exact HR0.out | (with_reducible refine Kd.C_alloc ?_ _) | (with_reducible refine Kd.C_drewN ?_ _) | (with_reducible refine Kd.C_drew ?_))); (case side2 => exact HC0.out); rintro e w' ⟨rfl, ⟨nd, rfl⟩⟩; (try first | exact ⟨rfl, _, World.drewN_drewN _ _ _⟩ | exact ⟨rfl, _, Eq.trans (World.drewN_drewN _ _ _) (congrArg (World.drewN _) (Nat.add_assoc _ _ _))⟩))))
    (try simp only [Act.put, List.setIfInBounds_toArray, List.set_cons_zero, List.set_cons_succ])
    go_cut [110] (fun v110 wc => ∃ (kq : Nat) (x110_9 : Bool), v110 = .bool x110_9 ∧ Aside0 (herbariumref1_List_Read.j0 kq l0 a1 a2 t430 x110_9 = some (r1, r2)) ∧ Aside0 (kq ≤ k) ∧ Drawn0 w wc)
    case first =>
     have H := HC10.out
     clear HC10
     by_cases c11 : t430 > 30
     ·
      rw [if_pos c11] at H
      have c11b0 : decide (30 < t430) = true := decide_eq_true c11
      clear c11
      (first | rw [c11b0] | (simp only [i64_w, i32_w]; rw [c11b0]) | skip)
      have H' := Aside0.mk H
      clear H
      go_wp2
      repeat (go_quiet (fail); try go_wp2)
      go_meet
      case rel => exact ⟨_, (true), (by first | rfl | (simp; done) | (simp [*]; done)), H', ⟨by first | omega | exact Nat.le_refl _⟩, by repeat (first | exact Drawn0.refl _ | apply Drawn0.step)⟩
     ·
      rw [if_neg c11] at H
      have c11b0 : decide (30 < t430) = false := decide_eq_false c11
      clear c11
      (first | rw [c11b0] | (simp only [i64_w, i32_w]; rw [c11b0]) | skip)
      have H' := Aside0.mk H
      clear H
      go_wp2
      repeat (go_quiet (fail); try go_wp2)
      go_meet
      case rel => exact ⟨_, (decide ((wrap64 ((wrap64 (a1 + (wrap64 (2 * t430)))) + 1)) > (l0.length : Int))), (by first | rfl | (simp; done) | (simp [*]; done)), H', ⟨by first | omega | exact Nat.le_refl _⟩, by repeat (first | exact Drawn0.refl _ | apply Drawn0.step)⟩
    case rest =>
     clear HC10
     (try clear c1); (try clear p2); (try clear c5); (try clear c5b0); (try clear c6); (try clear c6b0); (try clear c6b1); (try clear p6); (try clear c8); (try clear c9); (try clear c9b0); (try clear c9b1); (try clear c10); (try clear c11); (try clear c11b0)
     obtain ⟨kq, x110_9, rfl, HA, HJ9, ⟨mc9, rfl⟩⟩ := hcut
     cases kq with
     | zero => exact absurd HA.out (by simp [herbariumref1_List_Read.j0])
     | succ kj9 =>
      have H := HA.out
      clear HA
      simp only [herbariumref1_List_Read.j0] at H
      by_cases c12 : x110_9 = true
      ·
       subst c12
       have H1 : (some ((-1), 0)) = some (r1, r2) := by rw [if_pos rfl] at H; exact H
       clear H
       have H := H1
       clear H1
       simp only [Option.some.injEq, Prod.mk.injEq] at H
       obtain ⟨rfl, rfl⟩ := H
       go_wp2
       repeat (go_quiet (fail); try go_wp2)
       go_ret2
       exact ⟨by first | rfl | (simp; done) | (simp [*]; done), by repeat (first | exact Drawn0.refl _ | apply Drawn0.step)⟩
      ·
       replace c12 := Bool.eq_false_iff.mpr c12
       subst c12
       have H1 : ((herbariumref1_List_Get.f kj9 l0 (wrap64 (a1 + t430)) (wrap64 (t430 + 1))).bind fun t432 => ((herbariumref1_Code.f a2 t432).bind fun t433 => (if t433 = true then (some (t432, wrap64 ((wrap64 (a1 + (wrap64 (2 * t430)))) + 1))) else (some ((-1), 0))))) = some (r1, r2) := by rw [if_neg (show ¬ (false = true) by decide)] at H; exact H
       clear H
       have H := H1
       clear H1
       replace H := Option.bind_eq_some_iff.mp H
       obtain ⟨t432, A130, H⟩ := H
       replace H : ((herbariumref1_Code.f a2 t432).bind fun t433 => (if t433 = true then (some (t432, wrap64 ((wrap64 (a1 + (wrap64 (2 * t430)))) + 1))) else (some ((-1), 0)))) = some (r1, r2) := H
       have A13 := Aside0.mk A130
       clear A130
       replace H := Option.bind_eq_some_iff.mp H
       obtain ⟨t433, A140, H⟩ := H
       replace H : (if t433 = true then (some (t432, wrap64 ((wrap64 (a1 + (wrap64 (2 * t430)))) + 1))) else (some ((-1), 0))) = some (r1, r2) := H
       have A14 := Aside0.mk A140
       clear A140
       by_cases c15 : t433 = true
       ·
        subst c15
        have H1 : (some (t432, wrap64 ((wrap64 (a1 + (wrap64 (2 * t430)))) + 1))) = some (r1, r2) := by rw [if_pos rfl] at H; exact H
        clear H
        have H := H1
        clear H1
        simp only [Option.some.injEq, Prod.mk.injEq] at H
        obtain ⟨rfl, rfl⟩ := H
        go_wp2_with (first | (go_at_call 57; (with_reducible refine (herbariumref1_List_Get.calls kj9 _ _ l0 (wrap64 (a1 + t430)) (wrap64 (t430 + 1)) t432 _ ?side1 ?side2 A13.out).mono ?_); (case side1 => repeat (first | exact HR0.out | (with_reducible refine Kd.C_alloc ?_ _) | (with_reducible refine Kd.C_drewN ?_ _) | (with_reducible refine Kd.C_drew ?_))); (case side2 => exact HC0.out); rintro e w' ⟨rfl, ⟨nd, rfl⟩⟩; (try first | exact ⟨rfl, _, World.drewN_drewN _ _ _⟩ | exact ⟨rfl, _, Eq.trans (World.drewN_drewN _ _ _) (congrArg (World.drewN _) (Nat.add_assoc _ _ _))⟩)) | (go_at_call 106; (with_reducible refine (herbariumref1_Code.calls a2 t432 true _ A14.out).mono ?_); rintro e w' ⟨rfl, ⟨nd, rfl⟩⟩; (try first | exact ⟨rfl, _, World.drewN_drewN _ _ _⟩ | exact ⟨rfl, _, Eq.trans (World.drewN_drewN _ _ _) (congrArg (World.drewN _) (Nat.add_assoc _ _ _))⟩)))
        repeat (go_quiet (first | (go_at_call 57; (with_reducible refine (herbariumref1_List_Get.calls kj9 _ _ l0 (wrap64 (a1 + t430)) (wrap64 (t430 + 1)) t432 _ ?side1 ?side2 A13.out).mono ?_); (case side1 => repeat (first | exact HR0.out | (with_reducible refine Kd.C_alloc ?_ _) | (with_reducible refine Kd.C_drewN ?_ _) | (with_reducible refine Kd.C_drew ?_))); (case side2 => exact HC0.out); rintro e w' ⟨rfl, ⟨nd, rfl⟩⟩; (try first | exact ⟨rfl, _, World.drewN_drewN _ _ _⟩ | exact ⟨rfl, _, Eq.trans (World.drewN_drewN _ _ _) (congrArg (World.drewN _) (Nat.add_assoc _ _ _))⟩)) | (go_at_call 106; (with_reducible refine (herbariumref1_Code.calls a2 t432 true _ A14.out).mono ?_); rintro e w' ⟨rfl, ⟨nd, rfl⟩⟩; (try first | exact ⟨rfl, _, World.drewN_drewN _ _ _⟩ | exact ⟨rfl, _, Eq.trans (World.drewN_drewN _ _ _) (congrArg (World.drewN _) (Nat.add_assoc _ _ _))⟩))); try go_wp2_with (first | (go_at_call 57; (with_reducible refine (herbariumref1_List_Get.calls kj9 _ _ l0 (wrap64 (a1 + t430)) (wrap64 (t430 + 1)) t432 _ ?side1 ?side2 A13.out).mono ?_); (case side1 => repeat (first | exact HR0.out | (with_reducible refine Kd.C_alloc ?_ _) | (with_reducible refine Kd.C_drewN ?_ _) | (with_reducible refine Kd.C_drew ?_))); (case side2 => exact HC0.out); rintro e w' ⟨rfl, ⟨nd, rfl⟩⟩; (try first | exact ⟨rfl, _, World.drewN_drewN _ _ _⟩ | exact ⟨rfl, _, Eq.trans (World.drewN_drewN _ _ _) (congrArg (World.drewN _) (Nat.add_assoc _ _ _))⟩)) | (go_at_call 106; (with_reducible refine (herbariumref1_Code.calls a2 t432 true _ A14.out).mono ?_); rintro e w' ⟨rfl, ⟨nd, rfl⟩⟩; (try first | exact ⟨rfl, _, World.drewN_drewN _ _ _⟩ | exact ⟨rfl, _, Eq.trans (World.drewN_drewN _ _ _) (congrArg (World.drewN _) (Nat.add_assoc _ _ _))⟩))))
        go_ret2
        exact ⟨by first | rfl | (simp; done) | (simp [*]; done), by repeat (first | exact Drawn0.refl _ | apply Drawn0.step)⟩
       ·
        replace c15 := Bool.eq_false_iff.mpr c15
        subst c15
        have H1 : (some ((-1), 0)) = some (r1, r2) := by rw [if_neg (show ¬ (false = true) by decide)] at H; exact H
        clear H
        have H := H1
        clear H1
        simp only [Option.some.injEq, Prod.mk.injEq] at H
        obtain ⟨rfl, rfl⟩ := H
        go_wp2_with (first | (go_at_call 57; (with_reducible refine (herbariumref1_List_Get.calls kj9 _ _ l0 (wrap64 (a1 + t430)) (wrap64 (t430 + 1)) t432 _ ?side1 ?side2 A13.out).mono ?_); (case side1 => repeat (first | exact HR0.out | (with_reducible refine Kd.C_alloc ?_ _) | (with_reducible refine Kd.C_drewN ?_ _) | (with_reducible refine Kd.C_drew ?_))); (case side2 => exact HC0.out); rintro e w' ⟨rfl, ⟨nd, rfl⟩⟩; (try first | exact ⟨rfl, _, World.drewN_drewN _ _ _⟩ | exact ⟨rfl, _, Eq.trans (World.drewN_drewN _ _ _) (congrArg (World.drewN _) (Nat.add_assoc _ _ _))⟩)) | (go_at_call 106; (with_reducible refine (herbariumref1_Code.calls a2 t432 false _ A14.out).mono ?_); rintro e w' ⟨rfl, ⟨nd, rfl⟩⟩; (try first | exact ⟨rfl, _, World.drewN_drewN _ _ _⟩ | exact ⟨rfl, _, Eq.trans (World.drewN_drewN _ _ _) (congrArg (World.drewN _) (Nat.add_assoc _ _ _))⟩)))
        repeat (go_quiet (first | (go_at_call 57; (with_reducible refine (herbariumref1_List_Get.calls kj9 _ _ l0 (wrap64 (a1 + t430)) (wrap64 (t430 + 1)) t432 _ ?side1 ?side2 A13.out).mono ?_); (case side1 => repeat (first | exact HR0.out | (with_reducible refine Kd.C_alloc ?_ _) | (with_reducible refine Kd.C_drewN ?_ _) | (with_reducible refine Kd.C_drew ?_))); (case side2 => exact HC0.out); rintro e w' ⟨rfl, ⟨nd, rfl⟩⟩; (try first | exact ⟨rfl, _, World.drewN_drewN _ _ _⟩ | exact ⟨rfl, _, Eq.trans (World.drewN_drewN _ _ _) (congrArg (World.drewN _) (Nat.add_assoc _ _ _))⟩)) | (go_at_call 106; (with_reducible refine (herbariumref1_Code.calls a2 t432 false _ A14.out).mono ?_); rintro e w' ⟨rfl, ⟨nd, rfl⟩⟩; (try first | exact ⟨rfl, _, World.drewN_drewN _ _ _⟩ | exact ⟨rfl, _, Eq.trans (World.drewN_drewN _ _ _) (congrArg (World.drewN _) (Nat.add_assoc _ _ _))⟩))); try go_wp2_with (first | (go_at_call 57; (with_reducible refine (herbariumref1_List_Get.calls kj9 _ _ l0 (wrap64 (a1 + t430)) (wrap64 (t430 + 1)) t432 _ ?side1 ?side2 A13.out).mono ?_); (case side1 => repeat (first | exact HR0.out | (with_reducible refine Kd.C_alloc ?_ _) | (with_reducible refine Kd.C_drewN ?_ _) | (with_reducible refine Kd.C_drew ?_))); (case side2 => exact HC0.out); rintro e w' ⟨rfl, ⟨nd, rfl⟩⟩; (try first | exact ⟨rfl, _, World.drewN_drewN _ _ _⟩ | exact ⟨rfl, _, Eq.trans (World.drewN_drewN _ _ _) (congrArg (World.drewN _) (Nat.add_assoc _ _ _))⟩)) | (go_at_call 106; (with_reducible refine (herbariumref1_Code.calls a2 t432 false _ A14.out).mono ?_); rintro e w' ⟨rfl, ⟨nd, rfl⟩⟩; (try first | exact ⟨rfl, _, World.drewN_drewN _ _ _⟩ | exact ⟨rfl, _, Eq.trans (World.drewN_drewN _ _ _) (congrArg (World.drewN _) (Nat.add_assoc _ _ _))⟩))))
        go_ret2
        exact ⟨by first | rfl | (simp; done) | (simp [*]; done), by repeat (first | exact Drawn0.refl _ | apply Drawn0.step)⟩
   ·
    rw [if_neg c9] at H
    have c9b0 : (a2 == 2) = false := beq_eq_false_iff_ne.mpr c9
    have c9b1 : (a2 != 2) = true := bne_iff_ne.mpr c9
    by_cases c16 : a2 = 3
    ·
     rw [if_pos c16] at H
     have c16b0 : (a2 == 3) = true := beq_iff_eq.mpr c16
     have c16b1 : (a2 != 3) = false := bne_eq_false_iff_eq.mpr c16
     clear c16
     replace H := Option.bind_eq_some_iff.mp H
     obtain ⟨⟨t434, t435⟩, A170, H⟩ := H
     replace H : (if t434 < 1 then (herbariumref1_List_Read.j1 k l0 a2 t434 t435 true) else (if t434 > 31 then (herbariumref1_List_Read.j1 k l0 a2 t434 t435 true) else (herbariumref1_List_Read.j1 k l0 a2 t434 t435 (decide ((wrap64 ((wrap64 (t435 + t434)) - 1)) > (l0.length : Int)))))) = some (r1, r2) := H
     have A17 := Aside0.mk A170
     clear A170
     have HC18 := Aside0.mk H
     clear H
     go_enter Try.func108, Try.ntmps108
     go_upto_region 31 with (first | (go_at_call 54; (with_reducible refine (herbariumref1_List_Zeros.calls k _ _ l0 a1 t430 _ ?side1 ?side2 A4.out).mono ?_); (case side1 => repeat (first | exact HR0.out | (with_reducible refine Kd.C_alloc ?_ _) | (with_reducible refine Kd.C_drewN ?_ _) | (with_reducible refine Kd.C_drew ?_))); (case side2 => exact HC0.out); rintro e w' ⟨rfl, ⟨nd, rfl⟩⟩; (try first | exact ⟨rfl, _, World.drewN_drewN _ _ _⟩ | exact ⟨rfl, _, Eq.trans (World.drewN_drewN _ _ _) (congrArg (World.drewN _) (Nat.add_assoc _ _ _))⟩)) | (go_at_call 108; (with_reducible refine (ih k (by omega) _ _ l0 a1 2 t434 t435 _ ?side1 ?side2 A17.out).mono ?_); (case side1 => repeat (first | exact HR0.out | (with_reducible refine Kd.C_alloc ?_ _) | (with_reducible refine Kd.C_drewN ?_ _) | (with_reducible refine Kd.C_drew ?_))); (case side2 => exact HC0.out); rintro e w' ⟨rfl, ⟨nd, rfl⟩⟩; (try first | exact ⟨rfl, _, World.drewN_drewN _ _ _⟩ | exact ⟨rfl, _, Eq.trans (World.drewN_drewN _ _ _) (congrArg (World.drewN _) (Nat.add_assoc _ _ _))⟩)))
     repeat (go_quiet (first | (go_at_call 54; (with_reducible refine (herbariumref1_List_Zeros.calls k _ _ l0 a1 t430 _ ?side1 ?side2 A4.out).mono ?_); (case side1 => repeat (first | exact HR0.out | (with_reducible refine Kd.C_alloc ?_ _) | (with_reducible refine Kd.C_drewN ?_ _) | (with_reducible refine Kd.C_drew ?_))); (case side2 => exact HC0.out); rintro e w' ⟨rfl, ⟨nd, rfl⟩⟩; (try first | exact ⟨rfl, _, World.drewN_drewN _ _ _⟩ | exact ⟨rfl, _, Eq.trans (World.drewN_drewN _ _ _) (congrArg (World.drewN _) (Nat.add_assoc _ _ _))⟩)) | (go_at_call 108; (with_reducible refine (ih k (by omega) _ _ l0 a1 2 t434 t435 _ ?side1 ?side2 A17.out).mono ?_); (case side1 => repeat (first | exact HR0.out | (with_reducible refine Kd.C_alloc ?_ _) | (with_reducible refine Kd.C_drewN ?_ _) | (with_reducible refine Kd.C_drew ?_))); (case side2 => exact HC0.out); rintro e w' ⟨rfl, ⟨nd, rfl⟩⟩; (try first | exact ⟨rfl, _, World.drewN_drewN _ _ _⟩ | exact ⟨rfl, _, Eq.trans (World.drewN_drewN _ _ _) (congrArg (World.drewN _) (Nat.add_assoc _ _ _))⟩))); go_upto_region 31 with (first | (go_at_call 54; (with_reducible refine (herbariumref1_List_Zeros.calls k _ _ l0 a1 t430 _ ?side1 ?side2 A4.out).mono ?_); (case side1 => repeat (first | exact HR0.out | (with_reducible refine Kd.C_alloc ?_ _) | (with_reducible refine Kd.C_drewN ?_ _) | (with_reducible refine Kd.C_drew ?_))); (case side2 => exact HC0.out); rintro e w' ⟨rfl, ⟨nd, rfl⟩⟩; (try first | exact ⟨rfl, _, World.drewN_drewN _ _ _⟩ | exact ⟨rfl, _, Eq.trans (World.drewN_drewN _ _ _) (congrArg (World.drewN _) (Nat.add_assoc _ _ _))⟩)) | (go_at_call 108; (with_reducible refine (ih k (by omega) _ _ l0 a1 2 t434 t435 _ ?side1 ?side2 A17.out).mono ?_); (case side1 => repeat (first | exact HR0.out | (with_reducible refine Kd.C_alloc ?_ _) | (with_reducible refine Kd.C_drewN ?_ _) | (with_reducible refine Kd.C_drew ?_))); (case side2 => exact HC0.out); rintro e w' ⟨rfl, ⟨nd, rfl⟩⟩; (try first | exact ⟨rfl, _, World.drewN_drewN _ _ _⟩ | exact ⟨rfl, _, Eq.trans (World.drewN_drewN _ _ _) (congrArg (World.drewN _) (Nat.add_assoc _ _ _))⟩))))
     (try simp only [Act.put, List.setIfInBounds_toArray, List.set_cons_zero, List.set_cons_succ])
     go_cut [145] (fun v145 wc => ∃ (kq : Nat) (x145_17 : Bool), v145 = .bool x145_17 ∧ Aside0 (herbariumref1_List_Read.j1 kq l0 a2 t434 t435 x145_17 = some (r1, r2)) ∧ Aside0 (kq ≤ k) ∧ Drawn0 w wc)
     case first =>
      have H := HC18.out
      clear HC18
      by_cases c19 : t434 < 1
      ·
       rw [if_pos c19] at H
       have c19b0 : decide (t434 < 1) = true := decide_eq_true c19
       clear c19
       (first | rw [c19b0] | (simp only [i64_w, i32_w]; rw [c19b0]) | skip)
       have H' := Aside0.mk H
       clear H
       go_wp2
       repeat (go_quiet (fail); try go_wp2)
       go_meet
       case rel => exact ⟨_, (true), (by first | rfl | (simp; done) | (simp [*]; done)), H', ⟨by first | omega | exact Nat.le_refl _⟩, by repeat (first | exact Drawn0.refl _ | apply Drawn0.step)⟩
      ·
       rw [if_neg c19] at H
       have c19b0 : decide (t434 < 1) = false := decide_eq_false c19
       clear c19
       (first | rw [c19b0] | (simp only [i64_w, i32_w]; rw [c19b0]) | skip)
       by_cases c20 : t434 > 31
       ·
        rw [if_pos c20] at H
        have c20b0 : decide (31 < t434) = true := decide_eq_true c20
        clear c20
        have H' := Aside0.mk H
        clear H
        go_wp2
        repeat (go_quiet (fail); try go_wp2)
        go_meet
        case rel => exact ⟨_, (true), (by first | rfl | (simp; done) | (simp [*]; done)), H', ⟨by first | omega | exact Nat.le_refl _⟩, by repeat (first | exact Drawn0.refl _ | apply Drawn0.step)⟩
       ·
        rw [if_neg c20] at H
        have c20b0 : decide (31 < t434) = false := decide_eq_false c20
        clear c20
        have H' := Aside0.mk H
        clear H
        go_wp2
        repeat (go_quiet (fail); try go_wp2)
        go_meet
        case rel => exact ⟨_, (decide ((wrap64 ((wrap64 (t435 + t434)) - 1)) > (l0.length : Int))), (by first | rfl | (simp; done) | (simp [*]; done)), H', ⟨by first | omega | exact Nat.le_refl _⟩, by repeat (first | exact Drawn0.refl _ | apply Drawn0.step)⟩
     case rest =>
      clear HC18
      (try clear c1); (try clear c2); (try clear p2); (try clear c5); (try clear c5b0); (try clear c6); (try clear c6b0); (try clear c6b1); (try clear p6); (try clear c8); (try clear c9); (try clear c9b0); (try clear c9b1); (try clear c10); (try clear c11); (try clear c11b0); (try clear c12); (try clear c15); (try clear c16); (try clear c16b0); (try clear c16b1); (try clear c19); (try clear c19b0); (try clear c20); (try clear c20b0); (try clear p2); (try clear p6)
      obtain ⟨kq, x145_17, rfl, HA, HJ17, ⟨mc17, rfl⟩⟩ := hcut
      cases kq with
      | zero => exact absurd HA.out (by simp [herbariumref1_List_Read.j1])
      | succ kj17 =>
       have H := HA.out
       clear HA
       simp only [herbariumref1_List_Read.j1] at H
       by_cases c21 : x145_17 = true
       ·
        subst c21
        have H1 : (some ((-1), 0)) = some (r1, r2) := by rw [if_pos rfl] at H; exact H
        clear H
        have H := H1
        clear H1
        simp only [Option.some.injEq, Prod.mk.injEq] at H
        obtain ⟨rfl, rfl⟩ := H
        go_wp2
        repeat (go_quiet (fail); try go_wp2)
        go_ret2
        exact ⟨by first | rfl | (simp; done) | (simp [*]; done), by repeat (first | exact Drawn0.refl _ | apply Drawn0.step)⟩
       ·
        replace c21 := Bool.eq_false_iff.mpr c21
        subst c21
        have H1 : (if 0 ≤ (wrap64 (t434 - 1)) then ((herbariumref1_List_Get.f kj17 l0 t435 (wrap64 (t434 - 1))).bind fun t436 => ((herbariumref1_Code.f a2 (wrap64 ((shl .i64 1 (wrap64 (t434 - 1))) + t436))).bind fun t437 => (if t437 = true then (some (wrap64 ((shl .i64 1 (wrap64 (t434 - 1))) + t436), wrap64 ((wrap64 (t435 + t434)) - 1))) else (some ((-1), 0))))) else (none)) = some (r1, r2) := by rw [if_neg (show ¬ (false = true) by decide)] at H; exact H
        clear H
        have H := H1
        clear H1
        obtain ⟨ji22, hji22⟩ : ∃ j_ : Int, (wrap64 (t434 - 1)) = j_ := ⟨_, rfl⟩
        replace H : (if 0 ≤ (ji22) then ((herbariumref1_List_Get.f kj17 l0 t435 (ji22)).bind fun t436 => ((herbariumref1_Code.f a2 (wrap64 ((shl .i64 1 (ji22)) + t436))).bind fun t437 => (if t437 = true then (some (wrap64 ((shl .i64 1 (ji22)) + t436), wrap64 ((wrap64 (t435 + t434)) - 1))) else (some ((-1), 0))))) else (none)) = some (r1, r2) := by first | (rw [hji22] at H; exact H) | (simp only [hji22] at H ⊢; exact H)
        have hji22w : (IntKind.i64.wrap (t434 - 1)) = ji22 := (i64_w _).trans hji22
        (try rw [hji22] at c5b0)
        (try rw [hji22] at c6b0)
        (try rw [hji22] at c6b1)
        (try rw [hji22] at c9b0)
        (try rw [hji22] at c9b1)
        (try rw [hji22] at c16b0)
        (try rw [hji22] at c16b1)
        by_cases c23 : 0 ≤ (ji22)
        ·
         rw [if_pos c23] at H
         have c23b0 := eq_true c23
         have c23b1 : decide (0 ≤ (ji22)) = true := decide_eq_true c23
         clear c23
         obtain ⟨ji24, hji24⟩ : ∃ j_ : Int, (shl .i64 1 (ji22)) = j_ := ⟨_, rfl⟩
         replace H : ((herbariumref1_List_Get.f kj17 l0 t435 (ji22)).bind fun t436 => ((herbariumref1_Code.f a2 (wrap64 ((ji24) + t436))).bind fun t437 => (if t437 = true then (some (wrap64 ((ji24) + t436), wrap64 ((wrap64 (t435 + t434)) - 1))) else (some ((-1), 0))))) = some (r1, r2) := by first | (rw [hji24] at H; exact H) | (simp only [hji24] at H ⊢; exact H)
         have hji24_ : (IntKind.i64.wrap (1 * 2 ^ min (ji22).toNat 64)) = ji24 := hji24
         (try rw [hji24] at c5b0)
         (try rw [hji24] at c6b0)
         (try rw [hji24] at c6b1)
         (try rw [hji24] at c9b0)
         (try rw [hji24] at c9b1)
         (try rw [hji24] at c16b0)
         (try rw [hji24] at c16b1)
         (try rw [hji24] at c23b0)
         (try rw [hji24] at c23b1)
         have hji24z : (ji22) ≤ 64 → (IntKind.i64.wrap (1 * 2 ^ (ji22).toNat)) = ji24 := shl_small hji24
         have hji24u : (IntKind.i64.wrap (2 ^ min (ji22).toNat 64)) = ji24 := by have h_ := hji24_; rw [Int.one_mul] at h_; exact h_
         have hji24v : (ji22) ≤ 64 → (IntKind.i64.wrap (2 ^ (ji22).toNat)) = ji24 := fun hle_ => by have h_ := hji24z hle_; rw [Int.one_mul] at h_; exact h_
         have hji24y : (wrap64 (1 * 2 ^ min (ji22).toNat 64)) = ji24 := (i64_w _).symm.trans hji24_
         have hji24x : (ji22) ≤ 64 → (wrap64 (1 * 2 ^ (ji22).toNat)) = ji24 := fun h_ => (i64_w _).symm.trans (hji24z h_)
         replace H := Option.bind_eq_some_iff.mp H
         obtain ⟨t436, A250, H⟩ := H
         replace H : ((herbariumref1_Code.f a2 (wrap64 ((ji24) + t436))).bind fun t437 => (if t437 = true then (some (wrap64 ((ji24) + t436), wrap64 ((wrap64 (t435 + t434)) - 1))) else (some ((-1), 0)))) = some (r1, r2) := H
         have A25 := Aside0.mk A250
         clear A250
         replace H := Option.bind_eq_some_iff.mp H
         obtain ⟨t437, A260, H⟩ := H
         replace H : (if t437 = true then (some (wrap64 ((ji24) + t436), wrap64 ((wrap64 (t435 + t434)) - 1))) else (some ((-1), 0))) = some (r1, r2) := H
         have A26 := Aside0.mk A260
         clear A260
         by_cases c27 : t437 = true
         ·
          subst c27
          have H1 : (some (wrap64 ((ji24) + t436), wrap64 ((wrap64 (t435 + t434)) - 1))) = some (r1, r2) := by rw [if_pos rfl] at H; exact H
          clear H
          have H := H1
          clear H1
          simp only [Option.some.injEq, Prod.mk.injEq] at H
          obtain ⟨rfl, rfl⟩ := H
          go_wp2_with (first | (go_at_call 57; (with_reducible refine (herbariumref1_List_Get.calls kj17 _ _ l0 t435 ji22 t436 _ ?side1 ?side2 A25.out).mono ?_); (case side1 => repeat (first | exact HR0.out | (with_reducible refine Kd.C_alloc ?_ _) | (with_reducible refine Kd.C_drewN ?_ _) | (with_reducible refine Kd.C_drew ?_))); (case side2 => exact HC0.out); rintro e w' ⟨rfl, ⟨nd, rfl⟩⟩; (try first | exact ⟨rfl, _, World.drewN_drewN _ _ _⟩ | exact ⟨rfl, _, Eq.trans (World.drewN_drewN _ _ _) (congrArg (World.drewN _) (Nat.add_assoc _ _ _))⟩)) | (go_at_call 106; (with_reducible refine (herbariumref1_Code.calls a2 (wrap64 ((ji24) + t436)) true _ A26.out).mono ?_); rintro e w' ⟨rfl, ⟨nd, rfl⟩⟩; (try first | exact ⟨rfl, _, World.drewN_drewN _ _ _⟩ | exact ⟨rfl, _, Eq.trans (World.drewN_drewN _ _ _) (congrArg (World.drewN _) (Nat.add_assoc _ _ _))⟩)))
          repeat (go_quiet (first | (go_at_call 57; (with_reducible refine (herbariumref1_List_Get.calls kj17 _ _ l0 t435 ji22 t436 _ ?side1 ?side2 A25.out).mono ?_); (case side1 => repeat (first | exact HR0.out | (with_reducible refine Kd.C_alloc ?_ _) | (with_reducible refine Kd.C_drewN ?_ _) | (with_reducible refine Kd.C_drew ?_))); (case side2 => exact HC0.out); rintro e w' ⟨rfl, ⟨nd, rfl⟩⟩; (try first | exact ⟨rfl, _, World.drewN_drewN _ _ _⟩ | exact ⟨rfl, _, Eq.trans (World.drewN_drewN _ _ _) (congrArg (World.drewN _) (Nat.add_assoc _ _ _))⟩)) | (go_at_call 106; (with_reducible refine (herbariumref1_Code.calls a2 (wrap64 ((ji24) + t436)) true _ A26.out).mono ?_); rintro e w' ⟨rfl, ⟨nd, rfl⟩⟩; (try first | exact ⟨rfl, _, World.drewN_drewN _ _ _⟩ | exact ⟨rfl, _, Eq.trans (World.drewN_drewN _ _ _) (congrArg (World.drewN _) (Nat.add_assoc _ _ _))⟩))); try go_wp2_with (first | (go_at_call 57; (with_reducible refine (herbariumref1_List_Get.calls kj17 _ _ l0 t435 ji22 t436 _ ?side1 ?side2 A25.out).mono ?_); (case side1 => repeat (first | exact HR0.out | (with_reducible refine Kd.C_alloc ?_ _) | (with_reducible refine Kd.C_drewN ?_ _) | (with_reducible refine Kd.C_drew ?_))); (case side2 => exact HC0.out); rintro e w' ⟨rfl, ⟨nd, rfl⟩⟩; (try first | exact ⟨rfl, _, World.drewN_drewN _ _ _⟩ | exact ⟨rfl, _, Eq.trans (World.drewN_drewN _ _ _) (congrArg (World.drewN _) (Nat.add_assoc _ _ _))⟩)) | (go_at_call 106; (with_reducible refine (herbariumref1_Code.calls a2 (wrap64 ((ji24) + t436)) true _ A26.out).mono ?_); rintro e w' ⟨rfl, ⟨nd, rfl⟩⟩; (try first | exact ⟨rfl, _, World.drewN_drewN _ _ _⟩ | exact ⟨rfl, _, Eq.trans (World.drewN_drewN _ _ _) (congrArg (World.drewN _) (Nat.add_assoc _ _ _))⟩))))
          go_ret2
          exact ⟨by first | rfl | (simp; done) | (simp only [← hji22, ← hji24] <;> (first | rfl | simp)) | (simp [*]; done), by repeat (first | exact Drawn0.refl _ | apply Drawn0.step)⟩
         ·
          replace c27 := Bool.eq_false_iff.mpr c27
          subst c27
          have H1 : (some ((-1), 0)) = some (r1, r2) := by rw [if_neg (show ¬ (false = true) by decide)] at H; exact H
          clear H
          have H := H1
          clear H1
          simp only [Option.some.injEq, Prod.mk.injEq] at H
          obtain ⟨rfl, rfl⟩ := H
          go_wp2_with (first | (go_at_call 57; (with_reducible refine (herbariumref1_List_Get.calls kj17 _ _ l0 t435 ji22 t436 _ ?side1 ?side2 A25.out).mono ?_); (case side1 => repeat (first | exact HR0.out | (with_reducible refine Kd.C_alloc ?_ _) | (with_reducible refine Kd.C_drewN ?_ _) | (with_reducible refine Kd.C_drew ?_))); (case side2 => exact HC0.out); rintro e w' ⟨rfl, ⟨nd, rfl⟩⟩; (try first | exact ⟨rfl, _, World.drewN_drewN _ _ _⟩ | exact ⟨rfl, _, Eq.trans (World.drewN_drewN _ _ _) (congrArg (World.drewN _) (Nat.add_assoc _ _ _))⟩)) | (go_at_call 106; (with_reducible refine (herbariumref1_Code.calls a2 (wrap64 ((ji24) + t436)) false _ A26.out).mono ?_); rintro e w' ⟨rfl, ⟨nd, rfl⟩⟩; (try first | exact ⟨rfl, _, World.drewN_drewN _ _ _⟩ | exact ⟨rfl, _, Eq.trans (World.drewN_drewN _ _ _) (congrArg (World.drewN _) (Nat.add_assoc _ _ _))⟩)))
          repeat (go_quiet (first | (go_at_call 57; (with_reducible refine (herbariumref1_List_Get.calls kj17 _ _ l0 t435 ji22 t436 _ ?side1 ?side2 A25.out).mono ?_); (case side1 => repeat (first | exact HR0.out | (with_reducible refine Kd.C_alloc ?_ _) | (with_reducible refine Kd.C_drewN ?_ _) | (with_reducible refine Kd.C_drew ?_))); (case side2 => exact HC0.out); rintro e w' ⟨rfl, ⟨nd, rfl⟩⟩; (try first | exact ⟨rfl, _, World.drewN_drewN _ _ _⟩ | exact ⟨rfl, _, Eq.trans (World.drewN_drewN _ _ _) (congrArg (World.drewN _) (Nat.add_assoc _ _ _))⟩)) | (go_at_call 106; (with_reducible refine (herbariumref1_Code.calls a2 (wrap64 ((ji24) + t436)) false _ A26.out).mono ?_); rintro e w' ⟨rfl, ⟨nd, rfl⟩⟩; (try first | exact ⟨rfl, _, World.drewN_drewN _ _ _⟩ | exact ⟨rfl, _, Eq.trans (World.drewN_drewN _ _ _) (congrArg (World.drewN _) (Nat.add_assoc _ _ _))⟩))); try go_wp2_with (first | (go_at_call 57; (with_reducible refine (herbariumref1_List_Get.calls kj17 _ _ l0 t435 ji22 t436 _ ?side1 ?side2 A25.out).mono ?_); (case side1 => repeat (first | exact HR0.out | (with_reducible refine Kd.C_alloc ?_ _) | (with_reducible refine Kd.C_drewN ?_ _) | (with_reducible refine Kd.C_drew ?_))); (case side2 => exact HC0.out); rintro e w' ⟨rfl, ⟨nd, rfl⟩⟩; (try first | exact ⟨rfl, _, World.drewN_drewN _ _ _⟩ | exact ⟨rfl, _, Eq.trans (World.drewN_drewN _ _ _) (congrArg (World.drewN _) (Nat.add_assoc _ _ _))⟩)) | (go_at_call 106; (with_reducible refine (herbariumref1_Code.calls a2 (wrap64 ((ji24) + t436)) false _ A26.out).mono ?_); rintro e w' ⟨rfl, ⟨nd, rfl⟩⟩; (try first | exact ⟨rfl, _, World.drewN_drewN _ _ _⟩ | exact ⟨rfl, _, Eq.trans (World.drewN_drewN _ _ _) (congrArg (World.drewN _) (Nat.add_assoc _ _ _))⟩))))
          go_ret2
          exact ⟨by first | rfl | (simp; done) | (simp only [← hji22, ← hji24] <;> (first | rfl | simp)) | (simp [*]; done), by repeat (first | exact Drawn0.refl _ | apply Drawn0.step)⟩
        ·
         rw [if_neg c23] at H
         exact absurd H (by simp)
    ·
     rw [if_neg c16] at H
     have c16b0 : (a2 == 3) = false := beq_eq_false_iff_ne.mpr c16
     have c16b1 : (a2 != 3) = true := bne_iff_ne.mpr c16
     have HC28 := Aside0.mk H
     clear H
     go_enter Try.func108, Try.ntmps108
     go_upto_if 28 with (first | (go_at_call 54; (with_reducible refine (herbariumref1_List_Zeros.calls k _ _ l0 a1 t430 _ ?side1 ?side2 A4.out).mono ?_); (case side1 => repeat (first | exact HR0.out | (with_reducible refine Kd.C_alloc ?_ _) | (with_reducible refine Kd.C_drewN ?_ _) | (with_reducible refine Kd.C_drew ?_))); (case side2 => exact HC0.out); rintro e w' ⟨rfl, ⟨nd, rfl⟩⟩; (try first | exact ⟨rfl, _, World.drewN_drewN _ _ _⟩ | exact ⟨rfl, _, Eq.trans (World.drewN_drewN _ _ _) (congrArg (World.drewN _) (Nat.add_assoc _ _ _))⟩)))
     repeat (go_quiet (first | (go_at_call 54; (with_reducible refine (herbariumref1_List_Zeros.calls k _ _ l0 a1 t430 _ ?side1 ?side2 A4.out).mono ?_); (case side1 => repeat (first | exact HR0.out | (with_reducible refine Kd.C_alloc ?_ _) | (with_reducible refine Kd.C_drewN ?_ _) | (with_reducible refine Kd.C_drew ?_))); (case side2 => exact HC0.out); rintro e w' ⟨rfl, ⟨nd, rfl⟩⟩; (try first | exact ⟨rfl, _, World.drewN_drewN _ _ _⟩ | exact ⟨rfl, _, Eq.trans (World.drewN_drewN _ _ _) (congrArg (World.drewN _) (Nat.add_assoc _ _ _))⟩))); go_upto_if 28 with (first | (go_at_call 54; (with_reducible refine (herbariumref1_List_Zeros.calls k _ _ l0 a1 t430 _ ?side1 ?side2 A4.out).mono ?_); (case side1 => repeat (first | exact HR0.out | (with_reducible refine Kd.C_alloc ?_ _) | (with_reducible refine Kd.C_drewN ?_ _) | (with_reducible refine Kd.C_drew ?_))); (case side2 => exact HC0.out); rintro e w' ⟨rfl, ⟨nd, rfl⟩⟩; (try first | exact ⟨rfl, _, World.drewN_drewN _ _ _⟩ | exact ⟨rfl, _, Eq.trans (World.drewN_drewN _ _ _) (congrArg (World.drewN _) (Nat.add_assoc _ _ _))⟩))))
     (try simp only [Act.put, List.setIfInBounds_toArray, List.set_cons_zero, List.set_cons_succ])
     go_cut [13] (fun v13 wc => ∃ (kq : Nat) (x13_27 : Int), v13 = .int .i64 x13_27 ∧ Aside0 (herbariumref1_List_Read.j2 kq l0 a2 t430 (wrap64 ((wrap64 (a1 + t430)) + 1)) x13_27 = some (r1, r2)) ∧ Aside0 (kq ≤ k) ∧ Drawn0 w wc)
     case first =>
      have H := HC28.out
      clear HC28
      by_cases c29 : a2 = 5
      ·
       rw [if_pos c29] at H
       have c29b0 : (a2 == 5) = true := beq_iff_eq.mpr c29
       have c29b1 : (a2 != 5) = false := bne_eq_false_iff_eq.mpr c29
       clear c29
       (first | rw [c29b0] | (simp only [i64_w, i32_w]; rw [c29b0]) | skip)
       have H' := Aside0.mk H
       clear H
       go_wp2
       repeat (go_quiet (fail); try go_wp2)
       go_meet
       case rel => exact ⟨_, (3), (by first | rfl | (simp; done) | (simp [*]; done)), H', ⟨by first | omega | exact Nat.le_refl _⟩, by repeat (first | exact Drawn0.refl _ | apply Drawn0.step)⟩
      ·
       rw [if_neg c29] at H
       have c29b0 : (a2 == 5) = false := beq_eq_false_iff_ne.mpr c29
       have c29b1 : (a2 != 5) = true := bne_iff_ne.mpr c29
       (first | rw [c29b0] | (simp only [i64_w, i32_w]; rw [c29b0]) | skip)
       have H' := Aside0.mk H
       clear H
       go_wp2
       repeat (go_quiet (fail); try go_wp2)
       go_meet
       case rel => exact ⟨_, (2), (by first | rfl | (simp; done) | (simp [*]; done)), H', ⟨by first | omega | exact Nat.le_refl _⟩, by repeat (first | exact Drawn0.refl _ | apply Drawn0.step)⟩
     case rest =>
      clear HC28
      (try clear c1); (try clear c2); (try clear p2); (try clear c5); (try clear c5b0); (try clear c6); (try clear c6b0); (try clear c6b1); (try clear p6); (try clear c8); (try clear c9); (try clear c9b0); (try clear c9b1); (try clear c10); (try clear c11); (try clear c11b0); (try clear c12); (try clear c15); (try clear c16); (try clear c16b0); (try clear c16b1); (try clear c17); (try clear c19); (try clear c19b0); (try clear c20); (try clear c20b0); (try clear c21); (try clear c23); (try clear c23b0); (try clear c23b1); (try clear c27); (try clear c29); (try clear c29b0); (try clear c29b1); (try clear p2)
      (try clear p6)
      obtain ⟨kq, x13_27, rfl, HA, HJ27, ⟨mc27, rfl⟩⟩ := hcut
      cases kq with
      | zero => exact absurd HA.out (by simp [herbariumref1_List_Read.j2])
      | succ kj27 =>
       have H := HA.out
       clear HA
       simp only [herbariumref1_List_Read.j2] at H
       by_cases c30 : t430 > 15
       ·
        rw [if_pos c30] at H
        have c30b0 : decide (15 < t430) = true := decide_eq_true c30
        clear c30
        simp only [Option.some.injEq, Prod.mk.injEq] at H
        obtain ⟨rfl, rfl⟩ := H
        go_wp2
        repeat (go_quiet (fail); try go_wp2)
        go_ret2
        exact ⟨by first | rfl | (simp; done) | (simp [*]; done), by repeat (first | exact Drawn0.refl _ | apply Drawn0.step)⟩
       ·
        rw [if_neg c30] at H
        have c30b0 : decide (15 < t430) = false := decide_eq_false c30
        clear c30
        obtain ⟨ji31, hji31⟩ : ∃ j_ : Int, (wrap64 ((wrap64 (t430 + 1)) * x13_27)) = j_ := ⟨_, rfl⟩
        replace H : (if 0 ≤ (ji31) then (if 0 ≤ (wrap64 (t430 * x13_27)) then ((herbariumref1_log.f kj27 (wrap64 ((wrap64 ((shl .i64 1 (ji31)) - (shl .i64 1 (wrap64 (t430 * x13_27))))) - 1))).bind fun t438 => (if (wrap64 ((wrap64 ((wrap64 ((wrap64 (a1 + t430)) + 1)) + (wrap64 (t438 + 1)))) - 1)) > (l0.length : Int) then (some ((-1), 0)) else ((herbariumref1_List_Get.f kj27 l0 (wrap64 ((wrap64 (a1 + t430)) + 1)) (wrap64 ((wrap64 (t438 + 1)) - 1))).bind fun t439 => (if 0 ≤ (wrap64 (t438 + 1)) then (if t439 ≥ (wrap64 ((shl .i64 1 (wrap64 (t438 + 1))) - (wrap64 ((shl .i64 1 (ji31)) - (shl .i64 1 (wrap64 (t430 * x13_27))))))) then (if (wrap64 ((wrap64 ((wrap64 ((wrap64 ((wrap64 (a1 + t430)) + 1)) + (wrap64 (t438 + 1)))) - 1)) + 1)) > (l0.length : Int) then (some ((-1), 0)) else (if 0 ≤ (wrap64 ((wrap64 ((wrap64 ((wrap64 (a1 + t430)) + 1)) + (wrap64 (t438 + 1)))) - 1)) then (if (wrap64 ((wrap64 ((wrap64 ((wrap64 (a1 + t430)) + 1)) + (wrap64 (t438 + 1)))) - 1)) < (l0.length : Int) then ((herbariumref1_Code.f a2 (wrap64 ((shl .i64 1 (wrap64 (t430 * x13_27))) + (wrap64 ((wrap64 ((wrap64 (2 * t439)) + (wrap64 (rd l0 (wrap64 ((wrap64 ((wrap64 ((wrap64 (a1 + t430)) + 1)) + (wrap64 (t438 + 1)))) - 1)))))) - (wrap64 ((shl .i64 1 (wrap64 (t438 + 1))) - (wrap64 ((shl .i64 1 (ji31)) - (shl .i64 1 (wrap64 (t430 * x13_27)))))))))))).bind fun t441 => (if t441 = true then (some (wrap64 ((shl .i64 1 (wrap64 (t430 * x13_27))) + (wrap64 ((wrap64 ((wrap64 (2 * t439)) + (wrap64 (rd l0 (wrap64 ((wrap64 ((wrap64 ((wrap64 (a1 + t430)) + 1)) + (wrap64 (t438 + 1)))) - 1)))))) - (wrap64 ((shl .i64 1 (wrap64 (t438 + 1))) - (wrap64 ((shl .i64 1 (ji31)) - (shl .i64 1 (wrap64 (t430 * x13_27)))))))))), wrap64 ((wrap64 ((wrap64 ((wrap64 ((wrap64 (a1 + t430)) + 1)) + (wrap64 (t438 + 1)))) - 1)) + 1))) else (some ((-1), 0)))) else (none)) else (none))) else ((herbariumref1_Code.f a2 (wrap64 ((shl .i64 1 (wrap64 (t430 * x13_27))) + t439))).bind fun t442 => (if t442 = true then (some (wrap64 ((shl .i64 1 (wrap64 (t430 * x13_27))) + t439), wrap64 ((wrap64 ((wrap64 ((wrap64 (a1 + t430)) + 1)) + (wrap64 (t438 + 1)))) - 1))) else (some ((-1), 0))))) else (none))))) else (none)) else (none)) = some (r1, r2) := by first | (rw [hji31] at H; exact H) | (simp only [hji31] at H ⊢; exact H)
        have hji31w : (IntKind.i64.wrap ((wrap64 (t430 + 1)) * x13_27)) = ji31 := (i64_w _).trans hji31
        (try rw [hji31] at c5b0)
        (try rw [hji31] at c6b0)
        (try rw [hji31] at c6b1)
        (try rw [hji31] at c9b0)
        (try rw [hji31] at c9b1)
        (try rw [hji31] at c16b0)
        (try rw [hji31] at c16b1)
        (try rw [hji31] at c30b0)
        by_cases c32 : 0 ≤ (ji31)
        ·
         rw [if_pos c32] at H
         have c32b0 := eq_true c32
         have c32b1 : decide (0 ≤ (ji31)) = true := decide_eq_true c32
         clear c32
         obtain ⟨ji33, hji33⟩ : ∃ j_ : Int, (shl .i64 1 (ji31)) = j_ := ⟨_, rfl⟩
         replace H : (if 0 ≤ (wrap64 (t430 * x13_27)) then ((herbariumref1_log.f kj27 (wrap64 ((wrap64 ((ji33) - (shl .i64 1 (wrap64 (t430 * x13_27))))) - 1))).bind fun t438 => (if (wrap64 ((wrap64 ((wrap64 ((wrap64 (a1 + t430)) + 1)) + (wrap64 (t438 + 1)))) - 1)) > (l0.length : Int) then (some ((-1), 0)) else ((herbariumref1_List_Get.f kj27 l0 (wrap64 ((wrap64 (a1 + t430)) + 1)) (wrap64 ((wrap64 (t438 + 1)) - 1))).bind fun t439 => (if 0 ≤ (wrap64 (t438 + 1)) then (if t439 ≥ (wrap64 ((shl .i64 1 (wrap64 (t438 + 1))) - (wrap64 ((ji33) - (shl .i64 1 (wrap64 (t430 * x13_27))))))) then (if (wrap64 ((wrap64 ((wrap64 ((wrap64 ((wrap64 (a1 + t430)) + 1)) + (wrap64 (t438 + 1)))) - 1)) + 1)) > (l0.length : Int) then (some ((-1), 0)) else (if 0 ≤ (wrap64 ((wrap64 ((wrap64 ((wrap64 (a1 + t430)) + 1)) + (wrap64 (t438 + 1)))) - 1)) then (if (wrap64 ((wrap64 ((wrap64 ((wrap64 (a1 + t430)) + 1)) + (wrap64 (t438 + 1)))) - 1)) < (l0.length : Int) then ((herbariumref1_Code.f a2 (wrap64 ((shl .i64 1 (wrap64 (t430 * x13_27))) + (wrap64 ((wrap64 ((wrap64 (2 * t439)) + (wrap64 (rd l0 (wrap64 ((wrap64 ((wrap64 ((wrap64 (a1 + t430)) + 1)) + (wrap64 (t438 + 1)))) - 1)))))) - (wrap64 ((shl .i64 1 (wrap64 (t438 + 1))) - (wrap64 ((ji33) - (shl .i64 1 (wrap64 (t430 * x13_27)))))))))))).bind fun t441 => (if t441 = true then (some (wrap64 ((shl .i64 1 (wrap64 (t430 * x13_27))) + (wrap64 ((wrap64 ((wrap64 (2 * t439)) + (wrap64 (rd l0 (wrap64 ((wrap64 ((wrap64 ((wrap64 (a1 + t430)) + 1)) + (wrap64 (t438 + 1)))) - 1)))))) - (wrap64 ((shl .i64 1 (wrap64 (t438 + 1))) - (wrap64 ((ji33) - (shl .i64 1 (wrap64 (t430 * x13_27)))))))))), wrap64 ((wrap64 ((wrap64 ((wrap64 ((wrap64 (a1 + t430)) + 1)) + (wrap64 (t438 + 1)))) - 1)) + 1))) else (some ((-1), 0)))) else (none)) else (none))) else ((herbariumref1_Code.f a2 (wrap64 ((shl .i64 1 (wrap64 (t430 * x13_27))) + t439))).bind fun t442 => (if t442 = true then (some (wrap64 ((shl .i64 1 (wrap64 (t430 * x13_27))) + t439), wrap64 ((wrap64 ((wrap64 ((wrap64 (a1 + t430)) + 1)) + (wrap64 (t438 + 1)))) - 1))) else (some ((-1), 0))))) else (none))))) else (none)) = some (r1, r2) := by first | (rw [hji33] at H; exact H) | (simp only [hji33] at H ⊢; exact H)
         have hji33_ : (IntKind.i64.wrap (1 * 2 ^ min (ji31).toNat 64)) = ji33 := hji33
         (try rw [hji33] at c5b0)
         (try rw [hji33] at c6b0)
         (try rw [hji33] at c6b1)
         (try rw [hji33] at c9b0)
         (try rw [hji33] at c9b1)
         (try rw [hji33] at c16b0)
         (try rw [hji33] at c16b1)
         (try rw [hji33] at c30b0)
         (try rw [hji33] at c32b0)
         (try rw [hji33] at c32b1)
         have hji33z : (ji31) ≤ 64 → (IntKind.i64.wrap (1 * 2 ^ (ji31).toNat)) = ji33 := shl_small hji33
         have hji33u : (IntKind.i64.wrap (2 ^ min (ji31).toNat 64)) = ji33 := by have h_ := hji33_; rw [Int.one_mul] at h_; exact h_
         have hji33v : (ji31) ≤ 64 → (IntKind.i64.wrap (2 ^ (ji31).toNat)) = ji33 := fun hle_ => by have h_ := hji33z hle_; rw [Int.one_mul] at h_; exact h_
         have hji33y : (wrap64 (1 * 2 ^ min (ji31).toNat 64)) = ji33 := (i64_w _).symm.trans hji33_
         have hji33x : (ji31) ≤ 64 → (wrap64 (1 * 2 ^ (ji31).toNat)) = ji33 := fun h_ => (i64_w _).symm.trans (hji33z h_)
         obtain ⟨ji34, hji34⟩ : ∃ j_ : Int, (wrap64 (t430 * x13_27)) = j_ := ⟨_, rfl⟩
         replace H : (if 0 ≤ (ji34) then ((herbariumref1_log.f kj27 (wrap64 ((wrap64 ((ji33) - (shl .i64 1 (ji34)))) - 1))).bind fun t438 => (if (wrap64 ((wrap64 ((wrap64 ((wrap64 (a1 + t430)) + 1)) + (wrap64 (t438 + 1)))) - 1)) > (l0.length : Int) then (some ((-1), 0)) else ((herbariumref1_List_Get.f kj27 l0 (wrap64 ((wrap64 (a1 + t430)) + 1)) (wrap64 ((wrap64 (t438 + 1)) - 1))).bind fun t439 => (if 0 ≤ (wrap64 (t438 + 1)) then (if t439 ≥ (wrap64 ((shl .i64 1 (wrap64 (t438 + 1))) - (wrap64 ((ji33) - (shl .i64 1 (ji34)))))) then (if (wrap64 ((wrap64 ((wrap64 ((wrap64 ((wrap64 (a1 + t430)) + 1)) + (wrap64 (t438 + 1)))) - 1)) + 1)) > (l0.length : Int) then (some ((-1), 0)) else (if 0 ≤ (wrap64 ((wrap64 ((wrap64 ((wrap64 (a1 + t430)) + 1)) + (wrap64 (t438 + 1)))) - 1)) then (if (wrap64 ((wrap64 ((wrap64 ((wrap64 (a1 + t430)) + 1)) + (wrap64 (t438 + 1)))) - 1)) < (l0.length : Int) then ((herbariumref1_Code.f a2 (wrap64 ((shl .i64 1 (ji34)) + (wrap64 ((wrap64 ((wrap64 (2 * t439)) + (wrap64 (rd l0 (wrap64 ((wrap64 ((wrap64 ((wrap64 (a1 + t430)) + 1)) + (wrap64 (t438 + 1)))) - 1)))))) - (wrap64 ((shl .i64 1 (wrap64 (t438 + 1))) - (wrap64 ((ji33) - (shl .i64 1 (ji34))))))))))).bind fun t441 => (if t441 = true then (some (wrap64 ((shl .i64 1 (ji34)) + (wrap64 ((wrap64 ((wrap64 (2 * t439)) + (wrap64 (rd l0 (wrap64 ((wrap64 ((wrap64 ((wrap64 (a1 + t430)) + 1)) + (wrap64 (t438 + 1)))) - 1)))))) - (wrap64 ((shl .i64 1 (wrap64 (t438 + 1))) - (wrap64 ((ji33) - (shl .i64 1 (ji34))))))))), wrap64 ((wrap64 ((wrap64 ((wrap64 ((wrap64 (a1 + t430)) + 1)) + (wrap64 (t438 + 1)))) - 1)) + 1))) else (some ((-1), 0)))) else (none)) else (none))) else ((herbariumref1_Code.f a2 (wrap64 ((shl .i64 1 (ji34)) + t439))).bind fun t442 => (if t442 = true then (some (wrap64 ((shl .i64 1 (ji34)) + t439), wrap64 ((wrap64 ((wrap64 ((wrap64 (a1 + t430)) + 1)) + (wrap64 (t438 + 1)))) - 1))) else (some ((-1), 0))))) else (none))))) else (none)) = some (r1, r2) := by first | (rw [hji34] at H; exact H) | (simp only [hji34] at H ⊢; exact H)
         have hji34w : (IntKind.i64.wrap (t430 * x13_27)) = ji34 := (i64_w _).trans hji34
         (try rw [hji34] at c5b0)
         (try rw [hji34] at c6b0)
         (try rw [hji34] at c6b1)
         (try rw [hji34] at c9b0)
         (try rw [hji34] at c9b1)
         (try rw [hji34] at c16b0)
         (try rw [hji34] at c16b1)
         (try rw [hji34] at c30b0)
         (try rw [hji34] at c32b0)
         (try rw [hji34] at c32b1)
         by_cases c35 : 0 ≤ (ji34)
         ·
          rw [if_pos c35] at H
          have c35b0 := eq_true c35
          have c35b1 : decide (0 ≤ (ji34)) = true := decide_eq_true c35
          clear c35
          obtain ⟨ji36, hji36⟩ : ∃ j_ : Int, (shl .i64 1 (ji34)) = j_ := ⟨_, rfl⟩
          replace H : ((herbariumref1_log.f kj27 (wrap64 ((wrap64 ((ji33) - (ji36))) - 1))).bind fun t438 => (if (wrap64 ((wrap64 ((wrap64 ((wrap64 (a1 + t430)) + 1)) + (wrap64 (t438 + 1)))) - 1)) > (l0.length : Int) then (some ((-1), 0)) else ((herbariumref1_List_Get.f kj27 l0 (wrap64 ((wrap64 (a1 + t430)) + 1)) (wrap64 ((wrap64 (t438 + 1)) - 1))).bind fun t439 => (if 0 ≤ (wrap64 (t438 + 1)) then (if t439 ≥ (wrap64 ((shl .i64 1 (wrap64 (t438 + 1))) - (wrap64 ((ji33) - (ji36))))) then (if (wrap64 ((wrap64 ((wrap64 ((wrap64 ((wrap64 (a1 + t430)) + 1)) + (wrap64 (t438 + 1)))) - 1)) + 1)) > (l0.length : Int) then (some ((-1), 0)) else (if 0 ≤ (wrap64 ((wrap64 ((wrap64 ((wrap64 (a1 + t430)) + 1)) + (wrap64 (t438 + 1)))) - 1)) then (if (wrap64 ((wrap64 ((wrap64 ((wrap64 (a1 + t430)) + 1)) + (wrap64 (t438 + 1)))) - 1)) < (l0.length : Int) then ((herbariumref1_Code.f a2 (wrap64 ((ji36) + (wrap64 ((wrap64 ((wrap64 (2 * t439)) + (wrap64 (rd l0 (wrap64 ((wrap64 ((wrap64 ((wrap64 (a1 + t430)) + 1)) + (wrap64 (t438 + 1)))) - 1)))))) - (wrap64 ((shl .i64 1 (wrap64 (t438 + 1))) - (wrap64 ((ji33) - (ji36)))))))))).bind fun t441 => (if t441 = true then (some (wrap64 ((ji36) + (wrap64 ((wrap64 ((wrap64 (2 * t439)) + (wrap64 (rd l0 (wrap64 ((wrap64 ((wrap64 ((wrap64 (a1 + t430)) + 1)) + (wrap64 (t438 + 1)))) - 1)))))) - (wrap64 ((shl .i64 1 (wrap64 (t438 + 1))) - (wrap64 ((ji33) - (ji36)))))))), wrap64 ((wrap64 ((wrap64 ((wrap64 ((wrap64 (a1 + t430)) + 1)) + (wrap64 (t438 + 1)))) - 1)) + 1))) else (some ((-1), 0)))) else (none)) else (none))) else ((herbariumref1_Code.f a2 (wrap64 ((ji36) + t439))).bind fun t442 => (if t442 = true then (some (wrap64 ((ji36) + t439), wrap64 ((wrap64 ((wrap64 ((wrap64 (a1 + t430)) + 1)) + (wrap64 (t438 + 1)))) - 1))) else (some ((-1), 0))))) else (none))))) = some (r1, r2) := by first | (rw [hji36] at H; exact H) | (simp only [hji36] at H ⊢; exact H)
          have hji36_ : (IntKind.i64.wrap (1 * 2 ^ min (ji34).toNat 64)) = ji36 := hji36
          (try rw [hji36] at c5b0)
          (try rw [hji36] at c6b0)
          (try rw [hji36] at c6b1)
          (try rw [hji36] at c9b0)
          (try rw [hji36] at c9b1)
          (try rw [hji36] at c16b0)
          (try rw [hji36] at c16b1)
          (try rw [hji36] at c30b0)
          (try rw [hji36] at c32b0)
          (try rw [hji36] at c32b1)
          (try rw [hji36] at c35b0)
          (try rw [hji36] at c35b1)
          have hji36z : (ji34) ≤ 64 → (IntKind.i64.wrap (1 * 2 ^ (ji34).toNat)) = ji36 := shl_small hji36
          have hji36u : (IntKind.i64.wrap (2 ^ min (ji34).toNat 64)) = ji36 := by have h_ := hji36_; rw [Int.one_mul] at h_; exact h_
          have hji36v : (ji34) ≤ 64 → (IntKind.i64.wrap (2 ^ (ji34).toNat)) = ji36 := fun hle_ => by have h_ := hji36z hle_; rw [Int.one_mul] at h_; exact h_
          have hji36y : (wrap64 (1 * 2 ^ min (ji34).toNat 64)) = ji36 := (i64_w _).symm.trans hji36_
          have hji36x : (ji34) ≤ 64 → (wrap64 (1 * 2 ^ (ji34).toNat)) = ji36 := fun h_ => (i64_w _).symm.trans (hji36z h_)
          replace H := Option.bind_eq_some_iff.mp H
          obtain ⟨t438, A370, H⟩ := H
          replace H : (if (wrap64 ((wrap64 ((wrap64 ((wrap64 (a1 + t430)) + 1)) + (wrap64 (t438 + 1)))) - 1)) > (l0.length : Int) then (some ((-1), 0)) else ((herbariumref1_List_Get.f kj27 l0 (wrap64 ((wrap64 (a1 + t430)) + 1)) (wrap64 ((wrap64 (t438 + 1)) - 1))).bind fun t439 => (if 0 ≤ (wrap64 (t438 + 1)) then (if t439 ≥ (wrap64 ((shl .i64 1 (wrap64 (t438 + 1))) - (wrap64 ((ji33) - (ji36))))) then (if (wrap64 ((wrap64 ((wrap64 ((wrap64 ((wrap64 (a1 + t430)) + 1)) + (wrap64 (t438 + 1)))) - 1)) + 1)) > (l0.length : Int) then (some ((-1), 0)) else (if 0 ≤ (wrap64 ((wrap64 ((wrap64 ((wrap64 (a1 + t430)) + 1)) + (wrap64 (t438 + 1)))) - 1)) then (if (wrap64 ((wrap64 ((wrap64 ((wrap64 (a1 + t430)) + 1)) + (wrap64 (t438 + 1)))) - 1)) < (l0.length : Int) then ((herbariumref1_Code.f a2 (wrap64 ((ji36) + (wrap64 ((wrap64 ((wrap64 (2 * t439)) + (wrap64 (rd l0 (wrap64 ((wrap64 ((wrap64 ((wrap64 (a1 + t430)) + 1)) + (wrap64 (t438 + 1)))) - 1)))))) - (wrap64 ((shl .i64 1 (wrap64 (t438 + 1))) - (wrap64 ((ji33) - (ji36)))))))))).bind fun t441 => (if t441 = true then (some (wrap64 ((ji36) + (wrap64 ((wrap64 ((wrap64 (2 * t439)) + (wrap64 (rd l0 (wrap64 ((wrap64 ((wrap64 ((wrap64 (a1 + t430)) + 1)) + (wrap64 (t438 + 1)))) - 1)))))) - (wrap64 ((shl .i64 1 (wrap64 (t438 + 1))) - (wrap64 ((ji33) - (ji36)))))))), wrap64 ((wrap64 ((wrap64 ((wrap64 ((wrap64 (a1 + t430)) + 1)) + (wrap64 (t438 + 1)))) - 1)) + 1))) else (some ((-1), 0)))) else (none)) else (none))) else ((herbariumref1_Code.f a2 (wrap64 ((ji36) + t439))).bind fun t442 => (if t442 = true then (some (wrap64 ((ji36) + t439), wrap64 ((wrap64 ((wrap64 ((wrap64 (a1 + t430)) + 1)) + (wrap64 (t438 + 1)))) - 1))) else (some ((-1), 0))))) else (none)))) = some (r1, r2) := H
          have A37 := Aside0.mk A370
          clear A370
          by_cases c38 : (wrap64 ((wrap64 ((wrap64 ((wrap64 (a1 + t430)) + 1)) + (wrap64 (t438 + 1)))) - 1)) > (l0.length : Int)
          ·
           rw [if_pos c38] at H
           have c38b0 : decide ((l0.length : Int) < (wrap64 ((wrap64 ((wrap64 ((wrap64 (a1 + t430)) + 1)) + (wrap64 (t438 + 1)))) - 1))) = true := decide_eq_true c38
           clear c38
           simp only [Option.some.injEq, Prod.mk.injEq] at H
           obtain ⟨rfl, rfl⟩ := H
           go_wp2_with (first | (go_at_call 124; (with_reducible refine (herbariumref1_log.calls kj27 (wrap64 ((wrap64 ((ji33) - (ji36))) - 1)) t438 _ A37.out).mono ?_); rintro e w' ⟨rfl, ⟨nd, rfl⟩⟩; (try first | exact ⟨rfl, _, World.drewN_drewN _ _ _⟩ | exact ⟨rfl, _, Eq.trans (World.drewN_drewN _ _ _) (congrArg (World.drewN _) (Nat.add_assoc _ _ _))⟩)))
           repeat (go_quiet (first | (go_at_call 124; (with_reducible refine (herbariumref1_log.calls kj27 (wrap64 ((wrap64 ((ji33) - (ji36))) - 1)) t438 _ A37.out).mono ?_); rintro e w' ⟨rfl, ⟨nd, rfl⟩⟩; (try first | exact ⟨rfl, _, World.drewN_drewN _ _ _⟩ | exact ⟨rfl, _, Eq.trans (World.drewN_drewN _ _ _) (congrArg (World.drewN _) (Nat.add_assoc _ _ _))⟩))); try go_wp2_with (first | (go_at_call 124; (with_reducible refine (herbariumref1_log.calls kj27 (wrap64 ((wrap64 ((ji33) - (ji36))) - 1)) t438 _ A37.out).mono ?_); rintro e w' ⟨rfl, ⟨nd, rfl⟩⟩; (try first | exact ⟨rfl, _, World.drewN_drewN _ _ _⟩ | exact ⟨rfl, _, Eq.trans (World.drewN_drewN _ _ _) (congrArg (World.drewN _) (Nat.add_assoc _ _ _))⟩))))
           go_ret2
           exact ⟨by first | rfl | (simp; done) | (simp only [← hji31, ← hji33, ← hji34, ← hji36] <;> (first | rfl | simp)) | (simp [*]; done), by repeat (first | exact Drawn0.refl _ | apply Drawn0.step)⟩
          ·
           rw [if_neg c38] at H
           have c38b0 : decide ((l0.length : Int) < (wrap64 ((wrap64 ((wrap64 ((wrap64 (a1 + t430)) + 1)) + (wrap64 (t438 + 1)))) - 1))) = false := decide_eq_false c38
           clear c38
           replace H := Option.bind_eq_some_iff.mp H
           obtain ⟨t439, A390, H⟩ := H
           replace H : (if 0 ≤ (wrap64 (t438 + 1)) then (if t439 ≥ (wrap64 ((shl .i64 1 (wrap64 (t438 + 1))) - (wrap64 ((ji33) - (ji36))))) then (if (wrap64 ((wrap64 ((wrap64 ((wrap64 ((wrap64 (a1 + t430)) + 1)) + (wrap64 (t438 + 1)))) - 1)) + 1)) > (l0.length : Int) then (some ((-1), 0)) else (if 0 ≤ (wrap64 ((wrap64 ((wrap64 ((wrap64 (a1 + t430)) + 1)) + (wrap64 (t438 + 1)))) - 1)) then (if (wrap64 ((wrap64 ((wrap64 ((wrap64 (a1 + t430)) + 1)) + (wrap64 (t438 + 1)))) - 1)) < (l0.length : Int) then ((herbariumref1_Code.f a2 (wrap64 ((ji36) + (wrap64 ((wrap64 ((wrap64 (2 * t439)) + (wrap64 (rd l0 (wrap64 ((wrap64 ((wrap64 ((wrap64 (a1 + t430)) + 1)) + (wrap64 (t438 + 1)))) - 1)))))) - (wrap64 ((shl .i64 1 (wrap64 (t438 + 1))) - (wrap64 ((ji33) - (ji36)))))))))).bind fun t441 => (if t441 = true then (some (wrap64 ((ji36) + (wrap64 ((wrap64 ((wrap64 (2 * t439)) + (wrap64 (rd l0 (wrap64 ((wrap64 ((wrap64 ((wrap64 (a1 + t430)) + 1)) + (wrap64 (t438 + 1)))) - 1)))))) - (wrap64 ((shl .i64 1 (wrap64 (t438 + 1))) - (wrap64 ((ji33) - (ji36)))))))), wrap64 ((wrap64 ((wrap64 ((wrap64 ((wrap64 (a1 + t430)) + 1)) + (wrap64 (t438 + 1)))) - 1)) + 1))) else (some ((-1), 0)))) else (none)) else (none))) else ((herbariumref1_Code.f a2 (wrap64 ((ji36) + t439))).bind fun t442 => (if t442 = true then (some (wrap64 ((ji36) + t439), wrap64 ((wrap64 ((wrap64 ((wrap64 (a1 + t430)) + 1)) + (wrap64 (t438 + 1)))) - 1))) else (some ((-1), 0))))) else (none)) = some (r1, r2) := H
           have A39 := Aside0.mk A390
           clear A390
           obtain ⟨ji40, hji40⟩ : ∃ j_ : Int, (wrap64 (t438 + 1)) = j_ := ⟨_, rfl⟩
           replace H : (if 0 ≤ (ji40) then (if t439 ≥ (wrap64 ((shl .i64 1 (ji40)) - (wrap64 ((ji33) - (ji36))))) then (if (wrap64 ((wrap64 ((wrap64 ((wrap64 ((wrap64 (a1 + t430)) + 1)) + (ji40))) - 1)) + 1)) > (l0.length : Int) then (some ((-1), 0)) else (if 0 ≤ (wrap64 ((wrap64 ((wrap64 ((wrap64 (a1 + t430)) + 1)) + (ji40))) - 1)) then (if (wrap64 ((wrap64 ((wrap64 ((wrap64 (a1 + t430)) + 1)) + (ji40))) - 1)) < (l0.length : Int) then ((herbariumref1_Code.f a2 (wrap64 ((ji36) + (wrap64 ((wrap64 ((wrap64 (2 * t439)) + (wrap64 (rd l0 (wrap64 ((wrap64 ((wrap64 ((wrap64 (a1 + t430)) + 1)) + (ji40))) - 1)))))) - (wrap64 ((shl .i64 1 (ji40)) - (wrap64 ((ji33) - (ji36)))))))))).bind fun t441 => (if t441 = true then (some (wrap64 ((ji36) + (wrap64 ((wrap64 ((wrap64 (2 * t439)) + (wrap64 (rd l0 (wrap64 ((wrap64 ((wrap64 ((wrap64 (a1 + t430)) + 1)) + (ji40))) - 1)))))) - (wrap64 ((shl .i64 1 (ji40)) - (wrap64 ((ji33) - (ji36)))))))), wrap64 ((wrap64 ((wrap64 ((wrap64 ((wrap64 (a1 + t430)) + 1)) + (ji40))) - 1)) + 1))) else (some ((-1), 0)))) else (none)) else (none))) else ((herbariumref1_Code.f a2 (wrap64 ((ji36) + t439))).bind fun t442 => (if t442 = true then (some (wrap64 ((ji36) + t439), wrap64 ((wrap64 ((wrap64 ((wrap64 (a1 + t430)) + 1)) + (ji40))) - 1))) else (some ((-1), 0))))) else (none)) = some (r1, r2) := by first | (rw [hji40] at H; exact H) | (simp only [hji40] at H ⊢; exact H)
           (try rw [hji40] at c38b0)
           (try rw [hji40] at A37)
           (try rw [hji40] at A39)
           have hji40w : (IntKind.i64.wrap (t438 + 1)) = ji40 := (i64_w _).trans hji40
           (try rw [hji40] at c5b0)
           (try rw [hji40] at c6b0)
           (try rw [hji40] at c6b1)
           (try rw [hji40] at c9b0)
           (try rw [hji40] at c9b1)
           (try rw [hji40] at c16b0)
           (try rw [hji40] at c16b1)
           (try rw [hji40] at c30b0)
           (try rw [hji40] at c32b0)
           (try rw [hji40] at c32b1)
           (try rw [hji40] at c35b0)
           (try rw [hji40] at c35b1)
           (try rw [hji40] at c38b0)
           by_cases c41 : 0 ≤ (ji40)
           ·
            rw [if_pos c41] at H
            have c41b0 := eq_true c41
            have c41b1 : decide (0 ≤ (ji40)) = true := decide_eq_true c41
            clear c41
            obtain ⟨ji42, hji42⟩ : ∃ j_ : Int, (shl .i64 1 (ji40)) = j_ := ⟨_, rfl⟩
            replace H : (if t439 ≥ (wrap64 ((ji42) - (wrap64 ((ji33) - (ji36))))) then (if (wrap64 ((wrap64 ((wrap64 ((wrap64 ((wrap64 (a1 + t430)) + 1)) + (ji40))) - 1)) + 1)) > (l0.length : Int) then (some ((-1), 0)) else (if 0 ≤ (wrap64 ((wrap64 ((wrap64 ((wrap64 (a1 + t430)) + 1)) + (ji40))) - 1)) then (if (wrap64 ((wrap64 ((wrap64 ((wrap64 (a1 + t430)) + 1)) + (ji40))) - 1)) < (l0.length : Int) then ((herbariumref1_Code.f a2 (wrap64 ((ji36) + (wrap64 ((wrap64 ((wrap64 (2 * t439)) + (wrap64 (rd l0 (wrap64 ((wrap64 ((wrap64 ((wrap64 (a1 + t430)) + 1)) + (ji40))) - 1)))))) - (wrap64 ((ji42) - (wrap64 ((ji33) - (ji36)))))))))).bind fun t441 => (if t441 = true then (some (wrap64 ((ji36) + (wrap64 ((wrap64 ((wrap64 (2 * t439)) + (wrap64 (rd l0 (wrap64 ((wrap64 ((wrap64 ((wrap64 (a1 + t430)) + 1)) + (ji40))) - 1)))))) - (wrap64 ((ji42) - (wrap64 ((ji33) - (ji36)))))))), wrap64 ((wrap64 ((wrap64 ((wrap64 ((wrap64 (a1 + t430)) + 1)) + (ji40))) - 1)) + 1))) else (some ((-1), 0)))) else (none)) else (none))) else ((herbariumref1_Code.f a2 (wrap64 ((ji36) + t439))).bind fun t442 => (if t442 = true then (some (wrap64 ((ji36) + t439), wrap64 ((wrap64 ((wrap64 ((wrap64 (a1 + t430)) + 1)) + (ji40))) - 1))) else (some ((-1), 0))))) = some (r1, r2) := by first | (rw [hji42] at H; exact H) | (simp only [hji42] at H ⊢; exact H)
            (try rw [hji42] at A37)
            (try rw [hji42] at A39)
            have hji42_ : (IntKind.i64.wrap (1 * 2 ^ min (ji40).toNat 64)) = ji42 := hji42
            (try rw [hji42] at c5b0)
            (try rw [hji42] at c6b0)
            (try rw [hji42] at c6b1)
            (try rw [hji42] at c9b0)
            (try rw [hji42] at c9b1)
            (try rw [hji42] at c16b0)
            (try rw [hji42] at c16b1)
            (try rw [hji42] at c30b0)
            (try rw [hji42] at c32b0)
            (try rw [hji42] at c32b1)
            (try rw [hji42] at c35b0)
            (try rw [hji42] at c35b1)
            (try rw [hji42] at c38b0)
            (try rw [hji42] at c41b0)
            (try rw [hji42] at c41b1)
            have hji42z : (ji40) ≤ 64 → (IntKind.i64.wrap (1 * 2 ^ (ji40).toNat)) = ji42 := shl_small hji42
            have hji42u : (IntKind.i64.wrap (2 ^ min (ji40).toNat 64)) = ji42 := by have h_ := hji42_; rw [Int.one_mul] at h_; exact h_
            have hji42v : (ji40) ≤ 64 → (IntKind.i64.wrap (2 ^ (ji40).toNat)) = ji42 := fun hle_ => by have h_ := hji42z hle_; rw [Int.one_mul] at h_; exact h_
            have hji42y : (wrap64 (1 * 2 ^ min (ji40).toNat 64)) = ji42 := (i64_w _).symm.trans hji42_
            have hji42x : (ji40) ≤ 64 → (wrap64 (1 * 2 ^ (ji40).toNat)) = ji42 := fun h_ => (i64_w _).symm.trans (hji42z h_)
            by_cases c43 : t439 ≥ (wrap64 ((ji42) - (wrap64 ((ji33) - (ji36)))))
            ·
             rw [if_pos c43] at H
             have c43b0 : decide ((wrap64 ((ji42) - (wrap64 ((ji33) - (ji36))))) ≤ t439) = true := decide_eq_true c43
             clear c43
             by_cases c44 : (wrap64 ((wrap64 ((wrap64 ((wrap64 ((wrap64 (a1 + t430)) + 1)) + (ji40))) - 1)) + 1)) > (l0.length : Int)
             ·
              rw [if_pos c44] at H
              have c44b0 : decide ((l0.length : Int) < (wrap64 ((wrap64 ((wrap64 ((wrap64 ((wrap64 (a1 + t430)) + 1)) + (ji40))) - 1)) + 1))) = true := decide_eq_true c44
              clear c44
              simp only [Option.some.injEq, Prod.mk.injEq] at H
              obtain ⟨rfl, rfl⟩ := H
              go_wp2_with (first | (go_at_call 124; (with_reducible refine (herbariumref1_log.calls kj27 (wrap64 ((wrap64 ((ji33) - (ji36))) - 1)) t438 _ A37.out).mono ?_); rintro e w' ⟨rfl, ⟨nd, rfl⟩⟩; (try first | exact ⟨rfl, _, World.drewN_drewN _ _ _⟩ | exact ⟨rfl, _, Eq.trans (World.drewN_drewN _ _ _) (congrArg (World.drewN _) (Nat.add_assoc _ _ _))⟩)) | (go_at_call 57; (with_reducible refine (herbariumref1_List_Get.calls kj27 _ _ l0 (wrap64 ((wrap64 (a1 + t430)) + 1)) (wrap64 ((ji40) - 1)) t439 _ ?side1 ?side2 A39.out).mono ?_); (case side1 => repeat (first | exact HR0.out | (with_reducible refine Kd.C_alloc ?_ _) | (with_reducible refine Kd.C_drewN ?_ _) | (with_reducible refine Kd.C_drew ?_))); (case side2 => exact HC0.out); rintro e w' ⟨rfl, ⟨nd, rfl⟩⟩; (try first | exact ⟨rfl, _, World.drewN_drewN _ _ _⟩ | exact ⟨rfl, _, Eq.trans (World.drewN_drewN _ _ _) (congrArg (World.drewN _) (Nat.add_assoc _ _ _))⟩)))
              repeat (go_quiet (first | (go_at_call 124; (with_reducible refine (herbariumref1_log.calls kj27 (wrap64 ((wrap64 ((ji33) - (ji36))) - 1)) t438 _ A37.out).mono ?_); rintro e w' ⟨rfl, ⟨nd, rfl⟩⟩; (try first | exact ⟨rfl, _, World.drewN_drewN _ _ _⟩ | exact ⟨rfl, _, Eq.trans (World.drewN_drewN _ _ _) (congrArg (World.drewN _) (Nat.add_assoc _ _ _))⟩)) | (go_at_call 57; (with_reducible refine (herbariumref1_List_Get.calls kj27 _ _ l0 (wrap64 ((wrap64 (a1 + t430)) + 1)) (wrap64 ((ji40) - 1)) t439 _ ?side1 ?side2 A39.out).mono ?_); (case side1 => repeat (first | exact HR0.out | (with_reducible refine Kd.C_alloc ?_ _) | (with_reducible refine Kd.C_drewN ?_ _) | (with_reducible refine Kd.C_drew ?_))); (case side2 => exact HC0.out); rintro e w' ⟨rfl, ⟨nd, rfl⟩⟩; (try first | exact ⟨rfl, _, World.drewN_drewN _ _ _⟩ | exact ⟨rfl, _, Eq.trans (World.drewN_drewN _ _ _) (congrArg (World.drewN _) (Nat.add_assoc _ _ _))⟩))); try go_wp2_with (first | (go_at_call 124; (with_reducible refine (herbariumref1_log.calls kj27 (wrap64 ((wrap64 ((ji33) - (ji36))) - 1)) t438 _ A37.out).mono ?_); rintro e w' ⟨rfl, ⟨nd, rfl⟩⟩; (try first | exact ⟨rfl, _, World.drewN_drewN _ _ _⟩ | exact ⟨rfl, _, Eq.trans (World.drewN_drewN _ _ _) (congrArg (World.drewN _) (Nat.add_assoc _ _ _))⟩)) | (go_at_call 57; (with_reducible refine (herbariumref1_List_Get.calls kj27 _ _ l0 (wrap64 ((wrap64 (a1 + t430)) + 1)) (wrap64 ((ji40) - 1)) t439 _ ?side1 ?side2 A39.out).mono ?_); (case side1 => repeat (first | exact HR0.out | (with_reducible refine Kd.C_alloc ?_ _) | (with_reducible refine Kd.C_drewN ?_ _) | (with_reducible refine Kd.C_drew ?_))); (case side2 => exact HC0.out); rintro e w' ⟨rfl, ⟨nd, rfl⟩⟩; (try first | exact ⟨rfl, _, World.drewN_drewN _ _ _⟩ | exact ⟨rfl, _, Eq.trans (World.drewN_drewN _ _ _) (congrArg (World.drewN _) (Nat.add_assoc _ _ _))⟩))))
              go_ret2
              exact ⟨by first | rfl | (simp; done) | (simp only [← hji31, ← hji33, ← hji34, ← hji36, ← hji40, ← hji42] <;> (first | rfl | simp)) | (simp [*]; done), by repeat (first | exact Drawn0.refl _ | apply Drawn0.step)⟩
             ·
              rw [if_neg c44] at H
              have c44b0 : decide ((l0.length : Int) < (wrap64 ((wrap64 ((wrap64 ((wrap64 ((wrap64 (a1 + t430)) + 1)) + (ji40))) - 1)) + 1))) = false := decide_eq_false c44
              clear c44
              obtain ⟨ji45, hji45⟩ : ∃ j_ : Int, (wrap64 ((wrap64 ((wrap64 ((wrap64 (a1 + t430)) + 1)) + (ji40))) - 1)) = j_ := ⟨_, rfl⟩
              replace H : (if 0 ≤ (ji45) then (if (ji45) < (l0.length : Int) then ((herbariumref1_Code.f a2 (wrap64 ((ji36) + (wrap64 ((wrap64 ((wrap64 (2 * t439)) + (wrap64 (rd l0 (ji45))))) - (wrap64 ((ji42) - (wrap64 ((ji33) - (ji36)))))))))).bind fun t441 => (if t441 = true then (some (wrap64 ((ji36) + (wrap64 ((wrap64 ((wrap64 (2 * t439)) + (wrap64 (rd l0 (ji45))))) - (wrap64 ((ji42) - (wrap64 ((ji33) - (ji36)))))))), wrap64 ((ji45) + 1))) else (some ((-1), 0)))) else (none)) else (none)) = some (r1, r2) := by first | (rw [hji45] at H; exact H) | (simp only [hji45] at H ⊢; exact H)
              (try rw [hji45] at c44b0)
              (try rw [hji45] at A37)
              (try rw [hji45] at A39)
              have hji45w : (IntKind.i64.wrap ((wrap64 ((wrap64 ((wrap64 (a1 + t430)) + 1)) + (ji40))) - 1)) = ji45 := (i64_w _).trans hji45
              (try rw [hji45] at c5b0)
              (try rw [hji45] at c6b0)
              (try rw [hji45] at c6b1)
              (try rw [hji45] at c9b0)
              (try rw [hji45] at c9b1)
              (try rw [hji45] at c16b0)
              (try rw [hji45] at c16b1)
              (try rw [hji45] at c30b0)
              (try rw [hji45] at c32b0)
              (try rw [hji45] at c32b1)
              (try rw [hji45] at c35b0)
              (try rw [hji45] at c35b1)
              (try rw [hji45] at c38b0)
              (try rw [hji45] at c41b0)
              (try rw [hji45] at c41b1)
              (try rw [hji45] at c43b0)
              (try rw [hji45] at c44b0)
              by_cases c46 : 0 ≤ (ji45)
              ·
               rw [if_pos c46] at H
               have c46b0 : decide (0 ≤ (ji45)) = true := decide_eq_true c46
               clear c46
               by_cases c47 : (ji45) < (l0.length : Int)
               ·
                rw [if_pos c47] at H
                have c47b0 : decide ((ji45) < (l0.length : Int)) = true := decide_eq_true c47
                clear c47
                have c48b0 := eq_true (of_decide_eq_true (by first | (with_reducible assumption) | assumption) : 0 ≤ (ji40))
                have c50b0 := eq_true (of_decide_eq_true (by first | (with_reducible assumption) | assumption) : 0 ≤ (ji34))
                replace H := Option.bind_eq_some_iff.mp H
                obtain ⟨t441, A520, H⟩ := H
                replace H : (if t441 = true then (some (wrap64 ((ji36) + (wrap64 ((wrap64 ((wrap64 (2 * t439)) + (wrap64 (rd l0 (ji45))))) - (wrap64 ((ji42) - (wrap64 ((ji33) - (ji36)))))))), wrap64 ((ji45) + 1))) else (some ((-1), 0))) = some (r1, r2) := H
                have A52 := Aside0.mk A520
                clear A520
                by_cases c53 : t441 = true
                ·
                 subst c53
                 have H1 : (some (wrap64 ((ji36) + (wrap64 ((wrap64 ((wrap64 (2 * t439)) + (wrap64 (rd l0 (ji45))))) - (wrap64 ((ji42) - (wrap64 ((ji33) - (ji36)))))))), wrap64 ((ji45) + 1))) = some (r1, r2) := by rw [if_pos rfl] at H; exact H
                 clear H
                 have H := H1
                 clear H1
                 simp only [Option.some.injEq, Prod.mk.injEq] at H
                 obtain ⟨rfl, rfl⟩ := H
                 go_wp2_with (first | (go_at_call 124; (with_reducible refine (herbariumref1_log.calls kj27 (wrap64 ((wrap64 ((ji33) - (ji36))) - 1)) t438 _ A37.out).mono ?_); rintro e w' ⟨rfl, ⟨nd, rfl⟩⟩; (try first | exact ⟨rfl, _, World.drewN_drewN _ _ _⟩ | exact ⟨rfl, _, Eq.trans (World.drewN_drewN _ _ _) (congrArg (World.drewN _) (Nat.add_assoc _ _ _))⟩)) | (go_at_call 57; (with_reducible refine (herbariumref1_List_Get.calls kj27 _ _ l0 (wrap64 ((wrap64 (a1 + t430)) + 1)) (wrap64 ((ji40) - 1)) t439 _ ?side1 ?side2 A39.out).mono ?_); (case side1 => repeat (first | exact HR0.out | (with_reducible refine Kd.C_alloc ?_ _) | (with_reducible refine Kd.C_drewN ?_ _) | (with_reducible refine Kd.C_drew ?_))); (case side2 => exact HC0.out); rintro e w' ⟨rfl, ⟨nd, rfl⟩⟩; (try first | exact ⟨rfl, _, World.drewN_drewN _ _ _⟩ | exact ⟨rfl, _, Eq.trans (World.drewN_drewN _ _ _) (congrArg (World.drewN _) (Nat.add_assoc _ _ _))⟩); have p440 : 0 ≤ ((ji45) : Int) := of_decide_eq_true (by first | (with_reducible assumption) | assumption); have q440 : (ji45) < (l0.length : Int) := of_decide_eq_true (by first | (with_reducible assumption) | assumption); obtain ⟨ad440, e440, hx440_0⟩ := Kd.at_int HR0.out (ji45) p440 q440; cases e440; replace p440 := eq_true p440; replace q440 := eq_true q440) | (go_at_call 106; (with_reducible refine (herbariumref1_Code.calls a2 (wrap64 ((ji36) + (wrap64 ((wrap64 ((wrap64 (2 * t439)) + (wrap64 (rd l0 (ji45))))) - (wrap64 ((ji42) - (wrap64 ((ji33) - (ji36))))))))) true _ A52.out).mono ?_); rintro e w' ⟨rfl, ⟨nd, rfl⟩⟩; (try first | exact ⟨rfl, _, World.drewN_drewN _ _ _⟩ | exact ⟨rfl, _, Eq.trans (World.drewN_drewN _ _ _) (congrArg (World.drewN _) (Nat.add_assoc _ _ _))⟩)))
                 repeat (go_quiet (first | (go_at_call 124; (with_reducible refine (herbariumref1_log.calls kj27 (wrap64 ((wrap64 ((ji33) - (ji36))) - 1)) t438 _ A37.out).mono ?_); rintro e w' ⟨rfl, ⟨nd, rfl⟩⟩; (try first | exact ⟨rfl, _, World.drewN_drewN _ _ _⟩ | exact ⟨rfl, _, Eq.trans (World.drewN_drewN _ _ _) (congrArg (World.drewN _) (Nat.add_assoc _ _ _))⟩)) | (go_at_call 57; (with_reducible refine (herbariumref1_List_Get.calls kj27 _ _ l0 (wrap64 ((wrap64 (a1 + t430)) + 1)) (wrap64 ((ji40) - 1)) t439 _ ?side1 ?side2 A39.out).mono ?_); (case side1 => repeat (first | exact HR0.out | (with_reducible refine Kd.C_alloc ?_ _) | (with_reducible refine Kd.C_drewN ?_ _) | (with_reducible refine Kd.C_drew ?_))); (case side2 => exact HC0.out); rintro e w' ⟨rfl, ⟨nd, rfl⟩⟩; (try first | exact ⟨rfl, _, World.drewN_drewN _ _ _⟩ | exact ⟨rfl, _, Eq.trans (World.drewN_drewN _ _ _) (congrArg (World.drewN _) (Nat.add_assoc _ _ _))⟩); have p440 : 0 ≤ ((ji45) : Int) := of_decide_eq_true (by first | (with_reducible assumption) | assumption); have q440 : (ji45) < (l0.length : Int) := of_decide_eq_true (by first | (with_reducible assumption) | assumption); obtain ⟨ad440, e440, hx440_0⟩ := Kd.at_int HR0.out (ji45) p440 q440; cases e440; replace p440 := eq_true p440; replace q440 := eq_true q440) | (go_at_call 106; (with_reducible refine (herbariumref1_Code.calls a2 (wrap64 ((ji36) + (wrap64 ((wrap64 ((wrap64 (2 * t439)) + (wrap64 (rd l0 (ji45))))) - (wrap64 ((ji42) - (wrap64 ((ji33) - (ji36))))))))) true _ A52.out).mono ?_); rintro e w' ⟨rfl, ⟨nd, rfl⟩⟩; (try first | exact ⟨rfl, _, World.drewN_drewN _ _ _⟩ | exact ⟨rfl, _, Eq.trans (World.drewN_drewN _ _ _) (congrArg (World.drewN _) (Nat.add_assoc _ _ _))⟩))); try go_wp2_with (first | (go_at_call 124; (with_reducible refine (herbariumref1_log.calls kj27 (wrap64 ((wrap64 ((ji33) - (ji36))) - 1)) t438 _ A37.out).mono ?_); rintro e w' ⟨rfl, ⟨nd, rfl⟩⟩; (try first | exact ⟨rfl, _, World.drewN_drewN _ _ _⟩ | exact ⟨rfl, _, Eq.trans (World.drewN_drewN _ _ _) (congrArg (World.drewN _) (Nat.add_assoc _ _ _))⟩)) | (go_at_call 57; (with_reducible refine (herbariumref1_List_Get.calls kj27 _ _ l0 (wrap64 ((wrap64 (a1 + t430)) + 1)) (wrap64 ((ji40) - 1)) t439 _ ?side1 ?side2 A39.out).mono ?_); (case side1 => repeat (first | exact HR0.out | (with_reducible refine Kd.C_alloc ?_ _) | (with_reducible refine Kd.C_drewN ?_ _) | (with_reducible refine Kd.C_drew ?_))); (case side2 => exact HC0.out); rintro e w' ⟨rfl, ⟨nd, rfl⟩⟩; (try first | exact ⟨rfl, _, World.drewN_drewN _ _ _⟩ | exact ⟨rfl, _, Eq.trans (World.drewN_drewN _ _ _) (congrArg (World.drewN _) (Nat.add_assoc _ _ _))⟩); have p440 : 0 ≤ ((ji45) : Int) := of_decide_eq_true (by first | (with_reducible assumption) | assumption); have q440 : (ji45) < (l0.length : Int) := of_decide_eq_true (by first | (with_reducible assumption) | assumption); obtain ⟨ad440, e440, hx440_0⟩ := Kd.at_int HR0.out (ji45) p440 q440; cases e440; replace p440 := eq_true p440; replace q440 := eq_true q440) | (go_at_call 106; (with_reducible refine (herbariumref1_Code.calls a2 (wrap64 ((ji36) + (wrap64 ((wrap64 ((wrap64 (2 * t439)) + (wrap64 (rd l0 (ji45))))) - (wrap64 ((ji42) - (wrap64 ((ji33) - (ji36))))))))) true _ A52.out).mono ?_); rintro e w' ⟨rfl, ⟨nd, rfl⟩⟩; (try first | exact ⟨rfl, _, World.drewN_drewN _ _ _⟩ | exact ⟨rfl, _, Eq.trans (World.drewN_drewN _ _ _) (congrArg (World.drewN _) (Nat.add_assoc _ _ _))⟩))))
                 go_ret2
                 exact ⟨by first | rfl | (simp; done) | (simp only [← hji31, ← hji33, ← hji34, ← hji36, ← hji40, ← hji42, ← hji45] <;> (first | rfl | simp)) | (simp [*]; done), by repeat (first | exact Drawn0.refl _ | apply Drawn0.step)⟩
                ·
                 replace c53 := Bool.eq_false_iff.mpr c53
                 subst c53
                 have H1 : (some ((-1), 0)) = some (r1, r2) := by rw [if_neg (show ¬ (false = true) by decide)] at H; exact H
                 clear H
                 have H := H1
                 clear H1
                 simp only [Option.some.injEq, Prod.mk.injEq] at H
                 obtain ⟨rfl, rfl⟩ := H
                 go_wp2_with (first | (go_at_call 124; (with_reducible refine (herbariumref1_log.calls kj27 (wrap64 ((wrap64 ((ji33) - (ji36))) - 1)) t438 _ A37.out).mono ?_); rintro e w' ⟨rfl, ⟨nd, rfl⟩⟩; (try first | exact ⟨rfl, _, World.drewN_drewN _ _ _⟩ | exact ⟨rfl, _, Eq.trans (World.drewN_drewN _ _ _) (congrArg (World.drewN _) (Nat.add_assoc _ _ _))⟩)) | (go_at_call 57; (with_reducible refine (herbariumref1_List_Get.calls kj27 _ _ l0 (wrap64 ((wrap64 (a1 + t430)) + 1)) (wrap64 ((ji40) - 1)) t439 _ ?side1 ?side2 A39.out).mono ?_); (case side1 => repeat (first | exact HR0.out | (with_reducible refine Kd.C_alloc ?_ _) | (with_reducible refine Kd.C_drewN ?_ _) | (with_reducible refine Kd.C_drew ?_))); (case side2 => exact HC0.out); rintro e w' ⟨rfl, ⟨nd, rfl⟩⟩; (try first | exact ⟨rfl, _, World.drewN_drewN _ _ _⟩ | exact ⟨rfl, _, Eq.trans (World.drewN_drewN _ _ _) (congrArg (World.drewN _) (Nat.add_assoc _ _ _))⟩); have p440 : 0 ≤ ((ji45) : Int) := of_decide_eq_true (by first | (with_reducible assumption) | assumption); have q440 : (ji45) < (l0.length : Int) := of_decide_eq_true (by first | (with_reducible assumption) | assumption); obtain ⟨ad440, e440, hx440_0⟩ := Kd.at_int HR0.out (ji45) p440 q440; cases e440; replace p440 := eq_true p440; replace q440 := eq_true q440) | (go_at_call 106; (with_reducible refine (herbariumref1_Code.calls a2 (wrap64 ((ji36) + (wrap64 ((wrap64 ((wrap64 (2 * t439)) + (wrap64 (rd l0 (ji45))))) - (wrap64 ((ji42) - (wrap64 ((ji33) - (ji36))))))))) false _ A52.out).mono ?_); rintro e w' ⟨rfl, ⟨nd, rfl⟩⟩; (try first | exact ⟨rfl, _, World.drewN_drewN _ _ _⟩ | exact ⟨rfl, _, Eq.trans (World.drewN_drewN _ _ _) (congrArg (World.drewN _) (Nat.add_assoc _ _ _))⟩)))
                 repeat (go_quiet (first | (go_at_call 124; (with_reducible refine (herbariumref1_log.calls kj27 (wrap64 ((wrap64 ((ji33) - (ji36))) - 1)) t438 _ A37.out).mono ?_); rintro e w' ⟨rfl, ⟨nd, rfl⟩⟩; (try first | exact ⟨rfl, _, World.drewN_drewN _ _ _⟩ | exact ⟨rfl, _, Eq.trans (World.drewN_drewN _ _ _) (congrArg (World.drewN _) (Nat.add_assoc _ _ _))⟩)) | (go_at_call 57; (with_reducible refine (herbariumref1_List_Get.calls kj27 _ _ l0 (wrap64 ((wrap64 (a1 + t430)) + 1)) (wrap64 ((ji40) - 1)) t439 _ ?side1 ?side2 A39.out).mono ?_); (case side1 => repeat (first | exact HR0.out | (with_reducible refine Kd.C_alloc ?_ _) | (with_reducible refine Kd.C_drewN ?_ _) | (with_reducible refine Kd.C_drew ?_))); (case side2 => exact HC0.out); rintro e w' ⟨rfl, ⟨nd, rfl⟩⟩; (try first | exact ⟨rfl, _, World.drewN_drewN _ _ _⟩ | exact ⟨rfl, _, Eq.trans (World.drewN_drewN _ _ _) (congrArg (World.drewN _) (Nat.add_assoc _ _ _))⟩); have p440 : 0 ≤ ((ji45) : Int) := of_decide_eq_true (by first | (with_reducible assumption) | assumption); have q440 : (ji45) < (l0.length : Int) := of_decide_eq_true (by first | (with_reducible assumption) | assumption); obtain ⟨ad440, e440, hx440_0⟩ := Kd.at_int HR0.out (ji45) p440 q440; cases e440; replace p440 := eq_true p440; replace q440 := eq_true q440) | (go_at_call 106; (with_reducible refine (herbariumref1_Code.calls a2 (wrap64 ((ji36) + (wrap64 ((wrap64 ((wrap64 (2 * t439)) + (wrap64 (rd l0 (ji45))))) - (wrap64 ((ji42) - (wrap64 ((ji33) - (ji36))))))))) false _ A52.out).mono ?_); rintro e w' ⟨rfl, ⟨nd, rfl⟩⟩; (try first | exact ⟨rfl, _, World.drewN_drewN _ _ _⟩ | exact ⟨rfl, _, Eq.trans (World.drewN_drewN _ _ _) (congrArg (World.drewN _) (Nat.add_assoc _ _ _))⟩))); try go_wp2_with (first | (go_at_call 124; (with_reducible refine (herbariumref1_log.calls kj27 (wrap64 ((wrap64 ((ji33) - (ji36))) - 1)) t438 _ A37.out).mono ?_); rintro e w' ⟨rfl, ⟨nd, rfl⟩⟩; (try first | exact ⟨rfl, _, World.drewN_drewN _ _ _⟩ | exact ⟨rfl, _, Eq.trans (World.drewN_drewN _ _ _) (congrArg (World.drewN _) (Nat.add_assoc _ _ _))⟩)) | (go_at_call 57; (with_reducible refine (herbariumref1_List_Get.calls kj27 _ _ l0 (wrap64 ((wrap64 (a1 + t430)) + 1)) (wrap64 ((ji40) - 1)) t439 _ ?side1 ?side2 A39.out).mono ?_); (case side1 => repeat (first | exact HR0.out | (with_reducible refine Kd.C_alloc ?_ _) | (with_reducible refine Kd.C_drewN ?_ _) | (with_reducible refine Kd.C_drew ?_))); (case side2 => exact HC0.out); rintro e w' ⟨rfl, ⟨nd, rfl⟩⟩; (try first | exact ⟨rfl, _, World.drewN_drewN _ _ _⟩ | exact ⟨rfl, _, Eq.trans (World.drewN_drewN _ _ _) (congrArg (World.drewN _) (Nat.add_assoc _ _ _))⟩); have p440 : 0 ≤ ((ji45) : Int) := of_decide_eq_true (by first | (with_reducible assumption) | assumption); have q440 : (ji45) < (l0.length : Int) := of_decide_eq_true (by first | (with_reducible assumption) | assumption); obtain ⟨ad440, e440, hx440_0⟩ := Kd.at_int HR0.out (ji45) p440 q440; cases e440; replace p440 := eq_true p440; replace q440 := eq_true q440) | (go_at_call 106; (with_reducible refine (herbariumref1_Code.calls a2 (wrap64 ((ji36) + (wrap64 ((wrap64 ((wrap64 (2 * t439)) + (wrap64 (rd l0 (ji45))))) - (wrap64 ((ji42) - (wrap64 ((ji33) - (ji36))))))))) false _ A52.out).mono ?_); rintro e w' ⟨rfl, ⟨nd, rfl⟩⟩; (try first | exact ⟨rfl, _, World.drewN_drewN _ _ _⟩ | exact ⟨rfl, _, Eq.trans (World.drewN_drewN _ _ _) (congrArg (World.drewN _) (Nat.add_assoc _ _ _))⟩))))
                 go_ret2
                 exact ⟨by first | rfl | (simp; done) | (simp only [← hji31, ← hji33, ← hji34, ← hji36, ← hji40, ← hji42, ← hji45] <;> (first | rfl | simp)) | (simp [*]; done), by repeat (first | exact Drawn0.refl _ | apply Drawn0.step)⟩
               ·
                rw [if_neg c47] at H
                exact absurd H (by simp)
              ·
               rw [if_neg c46] at H
               exact absurd H (by simp)
            ·
             rw [if_neg c43] at H
             have c43b0 : decide ((wrap64 ((ji42) - (wrap64 ((ji33) - (ji36))))) ≤ t439) = false := decide_eq_false c43
             clear c43
             have c54b0 := eq_true (of_decide_eq_true (by first | (with_reducible assumption) | assumption) : 0 ≤ (ji34))
             replace H := Option.bind_eq_some_iff.mp H
             obtain ⟨t442, A560, H⟩ := H
             replace H : (if t442 = true then (some (wrap64 ((ji36) + t439), wrap64 ((wrap64 ((wrap64 ((wrap64 (a1 + t430)) + 1)) + (ji40))) - 1))) else (some ((-1), 0))) = some (r1, r2) := H
             have A56 := Aside0.mk A560
             clear A560
             by_cases c57 : t442 = true
             ·
              subst c57
              have H1 : (some (wrap64 ((ji36) + t439), wrap64 ((wrap64 ((wrap64 ((wrap64 (a1 + t430)) + 1)) + (ji40))) - 1))) = some (r1, r2) := by rw [if_pos rfl] at H; exact H
              clear H
              have H := H1
              clear H1
              simp only [Option.some.injEq, Prod.mk.injEq] at H
              obtain ⟨rfl, rfl⟩ := H
              go_wp2_with (first | (go_at_call 124; (with_reducible refine (herbariumref1_log.calls kj27 (wrap64 ((wrap64 ((ji33) - (ji36))) - 1)) t438 _ A37.out).mono ?_); rintro e w' ⟨rfl, ⟨nd, rfl⟩⟩; (try first | exact ⟨rfl, _, World.drewN_drewN _ _ _⟩ | exact ⟨rfl, _, Eq.trans (World.drewN_drewN _ _ _) (congrArg (World.drewN _) (Nat.add_assoc _ _ _))⟩)) | (go_at_call 57; (with_reducible refine (herbariumref1_List_Get.calls kj27 _ _ l0 (wrap64 ((wrap64 (a1 + t430)) + 1)) (wrap64 ((ji40) - 1)) t439 _ ?side1 ?side2 A39.out).mono ?_); (case side1 => repeat (first | exact HR0.out | (with_reducible refine Kd.C_alloc ?_ _) | (with_reducible refine Kd.C_drewN ?_ _) | (with_reducible refine Kd.C_drew ?_))); (case side2 => exact HC0.out); rintro e w' ⟨rfl, ⟨nd, rfl⟩⟩; (try first | exact ⟨rfl, _, World.drewN_drewN _ _ _⟩ | exact ⟨rfl, _, Eq.trans (World.drewN_drewN _ _ _) (congrArg (World.drewN _) (Nat.add_assoc _ _ _))⟩)) | (go_at_call 106; (with_reducible refine (herbariumref1_Code.calls a2 (wrap64 ((ji36) + t439)) true _ A56.out).mono ?_); rintro e w' ⟨rfl, ⟨nd, rfl⟩⟩; (try first | exact ⟨rfl, _, World.drewN_drewN _ _ _⟩ | exact ⟨rfl, _, Eq.trans (World.drewN_drewN _ _ _) (congrArg (World.drewN _) (Nat.add_assoc _ _ _))⟩)))
              repeat (go_quiet (first | (go_at_call 124; (with_reducible refine (herbariumref1_log.calls kj27 (wrap64 ((wrap64 ((ji33) - (ji36))) - 1)) t438 _ A37.out).mono ?_); rintro e w' ⟨rfl, ⟨nd, rfl⟩⟩; (try first | exact ⟨rfl, _, World.drewN_drewN _ _ _⟩ | exact ⟨rfl, _, Eq.trans (World.drewN_drewN _ _ _) (congrArg (World.drewN _) (Nat.add_assoc _ _ _))⟩)) | (go_at_call 57; (with_reducible refine (herbariumref1_List_Get.calls kj27 _ _ l0 (wrap64 ((wrap64 (a1 + t430)) + 1)) (wrap64 ((ji40) - 1)) t439 _ ?side1 ?side2 A39.out).mono ?_); (case side1 => repeat (first | exact HR0.out | (with_reducible refine Kd.C_alloc ?_ _) | (with_reducible refine Kd.C_drewN ?_ _) | (with_reducible refine Kd.C_drew ?_))); (case side2 => exact HC0.out); rintro e w' ⟨rfl, ⟨nd, rfl⟩⟩; (try first | exact ⟨rfl, _, World.drewN_drewN _ _ _⟩ | exact ⟨rfl, _, Eq.trans (World.drewN_drewN _ _ _) (congrArg (World.drewN _) (Nat.add_assoc _ _ _))⟩)) | (go_at_call 106; (with_reducible refine (herbariumref1_Code.calls a2 (wrap64 ((ji36) + t439)) true _ A56.out).mono ?_); rintro e w' ⟨rfl, ⟨nd, rfl⟩⟩; (try first | exact ⟨rfl, _, World.drewN_drewN _ _ _⟩ | exact ⟨rfl, _, Eq.trans (World.drewN_drewN _ _ _) (congrArg (World.drewN _) (Nat.add_assoc _ _ _))⟩))); try go_wp2_with (first | (go_at_call 124; (with_reducible refine (herbariumref1_log.calls kj27 (wrap64 ((wrap64 ((ji33) - (ji36))) - 1)) t438 _ A37.out).mono ?_); rintro e w' ⟨rfl, ⟨nd, rfl⟩⟩; (try first | exact ⟨rfl, _, World.drewN_drewN _ _ _⟩ | exact ⟨rfl, _, Eq.trans (World.drewN_drewN _ _ _) (congrArg (World.drewN _) (Nat.add_assoc _ _ _))⟩)) | (go_at_call 57; (with_reducible refine (herbariumref1_List_Get.calls kj27 _ _ l0 (wrap64 ((wrap64 (a1 + t430)) + 1)) (wrap64 ((ji40) - 1)) t439 _ ?side1 ?side2 A39.out).mono ?_); (case side1 => repeat (first | exact HR0.out | (with_reducible refine Kd.C_alloc ?_ _) | (with_reducible refine Kd.C_drewN ?_ _) | (with_reducible refine Kd.C_drew ?_))); (case side2 => exact HC0.out); rintro e w' ⟨rfl, ⟨nd, rfl⟩⟩; (try first | exact ⟨rfl, _, World.drewN_drewN _ _ _⟩ | exact ⟨rfl, _, Eq.trans (World.drewN_drewN _ _ _) (congrArg (World.drewN _) (Nat.add_assoc _ _ _))⟩)) | (go_at_call 106; (with_reducible refine (herbariumref1_Code.calls a2 (wrap64 ((ji36) + t439)) true _ A56.out).mono ?_); rintro e w' ⟨rfl, ⟨nd, rfl⟩⟩; (try first | exact ⟨rfl, _, World.drewN_drewN _ _ _⟩ | exact ⟨rfl, _, Eq.trans (World.drewN_drewN _ _ _) (congrArg (World.drewN _) (Nat.add_assoc _ _ _))⟩))))
              go_ret2
              exact ⟨by first | rfl | (simp; done) | (simp only [← hji31, ← hji33, ← hji34, ← hji36, ← hji40, ← hji42] <;> (first | rfl | simp)) | (simp [*]; done), by repeat (first | exact Drawn0.refl _ | apply Drawn0.step)⟩
             ·
              replace c57 := Bool.eq_false_iff.mpr c57
              subst c57
              have H1 : (some ((-1), 0)) = some (r1, r2) := by rw [if_neg (show ¬ (false = true) by decide)] at H; exact H
              clear H
              have H := H1
              clear H1
              simp only [Option.some.injEq, Prod.mk.injEq] at H
              obtain ⟨rfl, rfl⟩ := H
              go_wp2_with (first | (go_at_call 124; (with_reducible refine (herbariumref1_log.calls kj27 (wrap64 ((wrap64 ((ji33) - (ji36))) - 1)) t438 _ A37.out).mono ?_); rintro e w' ⟨rfl, ⟨nd, rfl⟩⟩; (try first | exact ⟨rfl, _, World.drewN_drewN _ _ _⟩ | exact ⟨rfl, _, Eq.trans (World.drewN_drewN _ _ _) (congrArg (World.drewN _) (Nat.add_assoc _ _ _))⟩)) | (go_at_call 57; (with_reducible refine (herbariumref1_List_Get.calls kj27 _ _ l0 (wrap64 ((wrap64 (a1 + t430)) + 1)) (wrap64 ((ji40) - 1)) t439 _ ?side1 ?side2 A39.out).mono ?_); (case side1 => repeat (first | exact HR0.out | (with_reducible refine Kd.C_alloc ?_ _) | (with_reducible refine Kd.C_drewN ?_ _) | (with_reducible refine Kd.C_drew ?_))); (case side2 => exact HC0.out); rintro e w' ⟨rfl, ⟨nd, rfl⟩⟩; (try first | exact ⟨rfl, _, World.drewN_drewN _ _ _⟩ | exact ⟨rfl, _, Eq.trans (World.drewN_drewN _ _ _) (congrArg (World.drewN _) (Nat.add_assoc _ _ _))⟩)) | (go_at_call 106; (with_reducible refine (herbariumref1_Code.calls a2 (wrap64 ((ji36) + t439)) false _ A56.out).mono ?_); rintro e w' ⟨rfl, ⟨nd, rfl⟩⟩; (try first | exact ⟨rfl, _, World.drewN_drewN _ _ _⟩ | exact ⟨rfl, _, Eq.trans (World.drewN_drewN _ _ _) (congrArg (World.drewN _) (Nat.add_assoc _ _ _))⟩)))
              repeat (go_quiet (first | (go_at_call 124; (with_reducible refine (herbariumref1_log.calls kj27 (wrap64 ((wrap64 ((ji33) - (ji36))) - 1)) t438 _ A37.out).mono ?_); rintro e w' ⟨rfl, ⟨nd, rfl⟩⟩; (try first | exact ⟨rfl, _, World.drewN_drewN _ _ _⟩ | exact ⟨rfl, _, Eq.trans (World.drewN_drewN _ _ _) (congrArg (World.drewN _) (Nat.add_assoc _ _ _))⟩)) | (go_at_call 57; (with_reducible refine (herbariumref1_List_Get.calls kj27 _ _ l0 (wrap64 ((wrap64 (a1 + t430)) + 1)) (wrap64 ((ji40) - 1)) t439 _ ?side1 ?side2 A39.out).mono ?_); (case side1 => repeat (first | exact HR0.out | (with_reducible refine Kd.C_alloc ?_ _) | (with_reducible refine Kd.C_drewN ?_ _) | (with_reducible refine Kd.C_drew ?_))); (case side2 => exact HC0.out); rintro e w' ⟨rfl, ⟨nd, rfl⟩⟩; (try first | exact ⟨rfl, _, World.drewN_drewN _ _ _⟩ | exact ⟨rfl, _, Eq.trans (World.drewN_drewN _ _ _) (congrArg (World.drewN _) (Nat.add_assoc _ _ _))⟩)) | (go_at_call 106; (with_reducible refine (herbariumref1_Code.calls a2 (wrap64 ((ji36) + t439)) false _ A56.out).mono ?_); rintro e w' ⟨rfl, ⟨nd, rfl⟩⟩; (try first | exact ⟨rfl, _, World.drewN_drewN _ _ _⟩ | exact ⟨rfl, _, Eq.trans (World.drewN_drewN _ _ _) (congrArg (World.drewN _) (Nat.add_assoc _ _ _))⟩))); try go_wp2_with (first | (go_at_call 124; (with_reducible refine (herbariumref1_log.calls kj27 (wrap64 ((wrap64 ((ji33) - (ji36))) - 1)) t438 _ A37.out).mono ?_); rintro e w' ⟨rfl, ⟨nd, rfl⟩⟩; (try first | exact ⟨rfl, _, World.drewN_drewN _ _ _⟩ | exact ⟨rfl, _, Eq.trans (World.drewN_drewN _ _ _) (congrArg (World.drewN _) (Nat.add_assoc _ _ _))⟩)) | (go_at_call 57; (with_reducible refine (herbariumref1_List_Get.calls kj27 _ _ l0 (wrap64 ((wrap64 (a1 + t430)) + 1)) (wrap64 ((ji40) - 1)) t439 _ ?side1 ?side2 A39.out).mono ?_); (case side1 => repeat (first | exact HR0.out | (with_reducible refine Kd.C_alloc ?_ _) | (with_reducible refine Kd.C_drewN ?_ _) | (with_reducible refine Kd.C_drew ?_))); (case side2 => exact HC0.out); rintro e w' ⟨rfl, ⟨nd, rfl⟩⟩; (try first | exact ⟨rfl, _, World.drewN_drewN _ _ _⟩ | exact ⟨rfl, _, Eq.trans (World.drewN_drewN _ _ _) (congrArg (World.drewN _) (Nat.add_assoc _ _ _))⟩)) | (go_at_call 106; (with_reducible refine (herbariumref1_Code.calls a2 (wrap64 ((ji36) + t439)) false _ A56.out).mono ?_); rintro e w' ⟨rfl, ⟨nd, rfl⟩⟩; (try first | exact ⟨rfl, _, World.drewN_drewN _ _ _⟩ | exact ⟨rfl, _, Eq.trans (World.drewN_drewN _ _ _) (congrArg (World.drewN _) (Nat.add_assoc _ _ _))⟩))))
              go_ret2
              exact ⟨by first | rfl | (simp; done) | (simp only [← hji31, ← hji33, ← hji34, ← hji36, ← hji40, ← hji42] <;> (first | rfl | simp)) | (simp [*]; done), by repeat (first | exact Drawn0.refl _ | apply Drawn0.step)⟩
           ·
            rw [if_neg c41] at H
            exact absurd H (by simp)
         ·
          rw [if_neg c35] at H
          exact absurd H (by simp)
        ·
         rw [if_neg c32] at H
         exact absurd H (by simp)
end Go.Proofs.Ytnpghcikhpglkaa.Q
namespace Go.Proofs.Ytnpghcikhpglkaa.Hand
open Go.RowKit Go.Proofs.YtnpghcikhpglkaaW.PrintWords Go.Proofs.YtnpghcikhpglkaaW.PrintLast Go.Proofs.YtnpghcikhpglkaaW.PrintMore Go.Proofs.Ytnpghcikhpglkaa.Q
set_option linter.unusedVariables false
set_option linter.unusedSimpArgs false
/-- The value v owns the bytes bs (its block's mark covers none of its cells). -/
def OwnB (w : World) (base : Nat) (v : Value) (bs : List Int) : Prop :=
  (v = .slice none 0 0 ∧ bs = []) ∨
  ∃ g cap cur fr, v = .slice (some ⟨g, 0, none⟩) bs.length cap ∧ base ≤ g ∧ w.heap[g]? = some (.cells cur 5 fr) ∧ bs.length ≤ cap ∧ cap ≤ maxLen ∧ cur.size = cap ∧ (fr.2 = 0 ∨ cap ≤ fr.1) ∧ cur.toList.take bs.length = nums .u8 bs
theorem OwnB.nil (w : World) (base : Nat) : OwnB w base (.slice none 0 0) [] := .inl ⟨rfl, rfl⟩
theorem OwnB.of_own {w : World} {base : Nat} {v : Value} {bs : List Int} (h : w.ownsRow base 5 1 v bs.length (nums .u8 bs)) : OwnB w base v bs := by
  rcases h.2 with ⟨rfl, h0⟩ | ⟨g, cap, cur, rfl, hb, hg, hn, hm, hs, ht⟩
  · exact .inl ⟨rfl, List.eq_nil_of_length_eq_zero h0⟩
  · exact .inr ⟨g, cap, cur, _, rfl, hb, hg, hn, hm, by simpa using hs, .inl rfl, by simpa using ht⟩
theorem OwnB.base_le {w : World} {base : Nat} {v : Value} {bs : List Int} (h : OwnB w base v bs) (k : Nat) (hk : v.ownBlock = some k) : base ≤ k ∧ k < w.heap.size := by
  rcases h with ⟨rfl, _⟩ | ⟨g, cap, cur, fr, rfl, hb, hg, _⟩
  · simp [Value.ownBlock] at hk
  · have : g = k := by simpa [Value.ownBlock] using hk
    subst this
    exact ⟨hb, (Array.getElem?_eq_some_iff.1 hg).1⟩
theorem OwnB.form {w : World} {base : Nat} {v : Value} {bs : List Int} (h : OwnB w base v bs) (hp : 0 < bs.length) : ∃ g cap, v = .slice (some ⟨g, 0, none⟩) bs.length cap := by
  rcases h with ⟨_, rfl⟩ | ⟨g, cap, cur, fr, rfl, _⟩
  · simp at hp
  · exact ⟨g, cap, rfl⟩
theorem OwnB.shape {w : World} {base : Nat} {v : Value} {bs : List Int} (h : OwnB w base v bs) : ∃ A c, v = .slice A bs.length c ∧ bs.length ≤ c := by
  rcases h with ⟨rfl, rfl⟩ | ⟨g, cap, cur, fr, rfl, _, _, hn, _⟩
  · exact ⟨none, 0, rfl, Nat.le_refl _⟩
  · exact ⟨_, cap, rfl, hn⟩
/-- What is written is another block. -/
theorem OwnB.kept {w w1 : World} {base : Nat} {v : Value} {bs : List Int} (h : OwnB w base v bs) {row : Option Nat} (hg : w.grownBy w1 row) (hne : v.ownBlock = none ∨ v.ownBlock ≠ row) : OwnB w1 base v bs := by
  rcases h with hn | ⟨g, cap, cur, fr, rfl, hb, hgg, r⟩
  · exact .inl hn
  · refine .inr ⟨g, cap, cur, fr, rfl, hb, ?_, r⟩
    rw [hg.block g (Array.getElem?_eq_some_iff.1 hgg).1 (by simpa [Value.ownBlock] using hne)]
    exact hgg
theorem OwnB.below {w w1 : World} {base : Nat} {v : Value} {bs : List Int} (h : OwnB w base v bs) (hb : Below w.heap.size w w1) : OwnB w1 base v bs :=
  h.kept (grown_of_below hb none) (by cases v.ownBlock <;> simp)
theorem OwnB.alloc {w : World} {base : Nat} {v : Value} {bs : List Int} (h : OwnB w base v bs) (o : Obj) : OwnB (w.alloc o) base v bs :=
  h.kept (World.grownBy_alloc w o none) (by cases v.ownBlock <;> simp)
theorem OwnB.ne {w : World} {base : Nat} {v : Value} {bs : List Int} (h : OwnB w base v bs) {g t : Nat} {cs : Array Value} {fr : Nat × Nat} (hg : w.heap[g]? = some (.cells cs t fr)) (ht : t ≠ 5) : some g ≠ v.ownBlock := by
  intro hk
  rcases h with ⟨rfl, _⟩ | ⟨g', cap, cur, fr', rfl, hb, hgg, r⟩
  · simp [Value.ownBlock] at hk
  · have : g = g' := by simpa [Value.ownBlock] using hk
    subst this
    rw [hg] at hgg
    injection hgg with hgg
    injection hgg with _ h2
    exact ht h2
theorem OwnB.setFar {w : World} {base : Nat} {v : Value} {bs : List Int} (h : OwnB w base v bs) {p : Addr} (hne : some p.block ≠ v.ownBlock) (u : Value) : OwnB (w.setCell p u) base v bs := by
  rcases h with hn | ⟨g, cap, cur, fr, rfl, hb, hgg, r⟩
  · exact .inl hn
  · refine .inr ⟨g, cap, cur, fr, rfl, hb, ?_, r⟩
    rw [Below.heap_setCell w p u g (fun e => hne (by simp [Value.ownBlock, e]))]
    exact hgg
/-- A cell of it. -/
theorem OwnB.at_ {w : World} {base g n cap : Nat} {bs : List Int} (h : OwnB w base (.slice (some ⟨g, 0, none⟩) n cap) bs) (i : Int) (h0 : 0 ≤ i) (h1 : i < (bs.length : Int)) :
    w.cell? ⟨g, i.toNat, none⟩ = some (.int .u8 (rd bs i)) ∧ w.frozen? ⟨g, i.toNat, none⟩ = false := by
  rcases h with ⟨h', _⟩ | ⟨g', cap', cur, fr, h', hb, hg, hn, hm, hs, hf, ht⟩
  · cases h'
  · simp only [Value.slice.injEq, Option.some.injEq, Addr.mk.injEq, and_true, true_and] at h'
    obtain ⟨rfl, rfl, rfl⟩ := h'
    have hi : i.toNat < bs.length := by omega
    constructor
    · rw [cell_of_row w g i.toNat cur 5 fr hg]
      have h3 : (cur.toList.take bs.length)[i.toNat]? = (nums .u8 bs)[i.toNat]? := by rw [ht]
      rw [List.getElem?_take, if_pos hi] at h3
      rw [← Array.getElem?_toList, h3]
      simp [nums, rd, List.getElem?_eq_getElem hi, List.getD_eq_getElem?_getD]
    · simp only [World.frozen?, hg]
      simp only [Bool.and_eq_false_iff, decide_eq_false_iff_not]
      rcases hf with hf | hf <;> omega
theorem OwnB.store {w : World} {base g n cap : Nat} {bs : List Int} (h : OwnB w base (.slice (some ⟨g, 0, none⟩) n cap) bs) (i x : Int) :
    OwnB (w.setCell ⟨g, i.toNat, none⟩ (.int .u8 x)) base (.slice (some ⟨g, 0, none⟩) n cap) (bs.set i.toNat x) := by
  rcases h with ⟨h', _⟩ | ⟨g', cap', cur, fr, h', hb, hg, hn, hm, hs, hf, ht⟩
  · cases h'
  · simp only [Value.slice.injEq, Option.some.injEq, Addr.mk.injEq, and_true, true_and] at h'
    obtain ⟨rfl, rfl, rfl⟩ := h'
    refine .inr ⟨g, cap, cur.setIfInBounds i.toNat (.int .u8 x), fr, by simp, hb, ?_, by simpa using hn, hm, by simpa using hs, hf, ?_⟩
    · simp only [World.setCell, Array.getElem?_modify, hg]
      simp
    · rw [List.length_set, Array.toList_setIfInBounds, List.take_set, ht]
      simp [nums, List.map_set]
/-- The string of it. -/
theorem OwnB.str {w : World} {base : Nat} {v : Value} {bs : List Int} (h : OwnB w base v bs) : (convert 63 9 v).run Try.prog w = .ok (.string (strOfNums bs)) w := by
  rcases h with ⟨rfl, rfl⟩ | ⟨g, cap, cur, fr, rfl, hb, hg, r⟩
  · exact run_convert_bytes_nil w 63 5 Try.underlying63 Try.underlying5 0 0 9 Try.underlying9
  · have hh : OwnB w base (.slice (some ⟨g, 0, none⟩) bs.length cap) bs := .inr ⟨g, cap, cur, fr, rfl, hb, hg, r⟩
    refine run_convert_bytes_arg w 63 5 Try.underlying63 Try.underlying5 g 0 bs.length cap bs rfl (fun i hi => ?_) 9 Try.underlying9
    have := (hh.at_ (i : Int) (by omega) (by omega)).1
    simpa [rd] using this
/-- '[]byte(s)'. -/
def bytesI (s : ByteArray) : List Int := s.data.toList.map fun b => (b.toNat : Int)
theorem bytesI_length (s : ByteArray) : (bytesI s).length = s.size := by simp [bytesI]
theorem own_bytes (w : World) (s : ByteArray) (base : Nat) (hb : base ≤ w.heap.size) (hs : s.size ≤ 1073741824) :
    OwnB (Lib.bytesWorld w 5 s) base (.slice (some ⟨w.heap.size, 0, none⟩) s.size (grownCap w s.size 0 5)) (bytesI s) := by
  have hge := grownCap_ge w s.size 0 5
  have hle : grownCap w s.size 0 5 ≤ maxLen := grownCap_le_maxLen w s.size 0 5 (by unfold maxLen; omega)
  have hcs : (Lib.bytesCells w 5 s).size = grownCap w s.size 0 5 := by
    have hss : s.data.size = s.size := rfl
    simp only [Lib.bytesCells, Array.size_append, Array.size_map, Array.size_replicate, hss]
    omega
  refine .inr ⟨w.heap.size, _, Lib.bytesCells w 5 s, _, by rw [bytesI_length], hb, Lib.bytesWorld_at_new w 5 s, by rw [bytesI_length]; exact hge, hle, hcs, .inr (by rw [hcs]; exact Nat.le_refl _), ?_⟩
  simp [Lib.bytesCells, bytesI, nums, List.map_map, Function.comp_def]
theorem below_bytes {B : Nat} {w0 w : World} (h : Below B w0 w) (hB : B ≤ w.heap.size) (s : ByteArray) : Below B w0 (Lib.bytesWorld w 5 s) := by
  refine h.trans ⟨?_, ?_, ?_, ?_, fun k hk => Lib.bytesWorld_at_old w 5 s k (by omega)⟩
  · simp [Lib.bytesWorld, World.freeze, World.alloc, World.drew, -World.alloc_eq, -World.drew_eq]
  · simp [Lib.bytesWorld, World.freeze, World.alloc, World.drew, -World.alloc_eq, -World.drew_eq]
  · simp [Lib.bytesWorld, World.freeze, World.alloc, World.drew, -World.alloc_eq, -World.drew_eq]
  · rw [Lib.bytesWorld_size]; omega
/-- append of one byte. -/
theorem run_append_b (w : World) (ty : TypeId) (base : Nat) (v : Value) (bs : List Int) (h : OwnB w base v bs) (a : Addr) (x : Int) (c : Nat) (hx : w.cell? a = some (.int .u8 x)) (h63 : bs.length + 1 ≤ 1099511627776) (hbase : base ≤ w.heap.size) :
    ∃ v' w', (Builtin.append_ #[63, 63] ty #[v, .slice (some a) 1 c]).run Try.prog w = .ok v' w' ∧ OwnB w' base v' (bs ++ [x]) ∧ w.grownBy w' v.ownBlock := by
  obtain ⟨i, hi, hzz⟩ := Option.map_eq_some_iff.1 info5
  simp only [Prod.mk.injEq] at hzz
  obtain ⟨hz, hsz, hby⟩ := hzz
  have hnews : ∀ j u, [Value.int .u8 x][j]? = some u → w.cell? (a.add j) = some u := by
    intro j u hu
    match j, hu with
    | 0, hu =>
      obtain rfl : Value.int .u8 x = u := by simpa using hu
      have : a.add 0 = a := by unfold Addr.add; split <;> simp_all
      rw [this]; exact hx
  rcases h with ⟨rfl, rfl⟩ | ⟨g, cap, cur, fr, rfl, hbb, hg, hn, hm, hs, hf, ht⟩
  · obtain ⟨v', w', h1, h2, h3, _⟩ := run_append_own (P := Try.prog) w base 63 ty 5 i (.int .u8 0) 1 1 Try.underlying63 hi hz hsz hby rfl (by decide) (.slice none 0 0) 0 [] (World.ownsRow_nil w base 5 1) a 1 c [.int .u8 x] rfl hnews (by simp [Value.oneCell']) (by unfold maxLen; omega) (by omega) hbase
    exact ⟨v', w', h1, OwnB.of_own (by simpa [nums] using h2), h3⟩
  · by_cases hroom : bs.length + 1 ≤ cap
    · have hcell : w.cell? ⟨g, bs.length, none⟩ = some (cur[bs.length]'(by omega)) := by
        rw [cell_of_row w g bs.length cur 5 fr hg]
        exact Array.getElem?_eq_getElem (by omega)
      have hfro : w.frozen? ⟨g, bs.length, none⟩ = false := by
        simp only [World.frozen?, hg, Bool.and_eq_false_iff, decide_eq_false_iff_not]
        rcases hf with hf | hf <;> omega
      have hst : (store ⟨g, bs.length, none⟩ (.int .u8 x)).run Try.prog w = .ok () (w.setCell ⟨g, bs.length, none⟩ (.int .u8 x)) := by
        rw [run_store Try.prog w _ _ _ (by simp [Value.oneCell']), hcell]
        simp [hfro]
      have hfc := run_firstCells_some (P := Try.prog) w i.size 1 a 1 c [.int .u8 x] (by simp [hsz]) hnews
      rw [hsz] at hfc
      refine ⟨.slice (some ⟨g, 0, none⟩) (bs.length + 1) cap, w.setCell ⟨g, bs.length, none⟩ (.int .u8 x), ?_, ?_, ?_⟩
      · have hsc : (storeCells ⟨g, bs.length, none⟩ [.int .u8 x] 0).run Try.prog w = .ok () (w.setCell ⟨g, bs.length, none⟩ (.int .u8 x)) := by
          have hadd : (⟨g, bs.length, none⟩ : Addr).add 0 = ⟨g, bs.length, none⟩ := by unfold Addr.add; split <;> simp_all
          simp only [storeCells, hadd, Sem.run_bind, hst, Result.andThen_ok]
          rfl
        simp [Builtin.append_, run_underlying Try.underlying63, sizeOf, typeInfo, hi, Builtin.lenOf, hroom, hfc, Addr.add_lit, hsz, hsc]
      · refine .inr ⟨g, cap, cur.setIfInBounds bs.length (.int .u8 x), fr, by simp, hbb, ?_, by simpa using hroom, hm, by simpa using hs, hf, ?_⟩
        · simp only [World.setCell, Array.getElem?_modify, hg]
          simp
        · rw [Array.toList_setIfInBounds, List.length_append, List.length_singleton, List.take_succ_eq_append_getElem (by simp; omega)]
          simp only [List.getElem_set_self]
          rw [List.take_set_of_le (Nat.le_refl _), ht]
          simp [nums]
      · refine ⟨rfl, rfl, rfl, by simp [World.setCell], fun k _ hk => Below.heap_setCell w _ _ k (fun e => hk (by simp [Value.ownBlock, e]))⟩
    · have hh : OwnB w base (.slice (some ⟨g, 0, none⟩) bs.length cap) bs := .inr ⟨g, cap, cur, fr, rfl, hbb, hg, hn, hm, hs, hf, ht⟩
      have holds : ∀ j u, (nums .u8 bs)[j]? = some u → w.cell? ((⟨g, 0, none⟩ : Addr).add j) = some u := by
        intro j u hu
        have hj : j < bs.length := by have := (List.getElem?_eq_some_iff.1 hu).1; simpa [nums] using this
        have := (hh.at_ (j : Int) (by omega) (by omega)).1
        rw [add_plain]
        have h2 : (nums .u8 bs)[j]? = some (.int .u8 (rd bs j)) := by simp [nums, rd, List.getElem?_eq_getElem hj, List.getD_eq_getElem?_getD]
        rw [h2] at hu
        rw [← hu]
        simpa using this
      have hr := run_append_grow (P := Try.prog) w 63 ty 5 i (.int .u8 0) Try.underlying63 hi hz ⟨g, 0, none⟩ bs.length cap (nums .u8 bs) (by simp [nums, hsz]) holds a 1 c [.int .u8 x] (by simp [hsz]) hnews (by omega) (by omega) (growslice_fits (by omega) (by rw [hby]; omega))
      refine ⟨_, _, hr, ?_, ⟨rfl, rfl, rfl, by simp, fun k hk _ => Below.heap_alloc w.drew _ k hk⟩⟩
      have hge := grownCap_ge w (bs.length + 1) cap 5
      have hcm : grownCap w (bs.length + 1) cap 5 ≤ maxLen := grownCap_le_maxLen w (bs.length + 1) cap 5 (by unfold maxLen; omega)
      refine .inr ⟨w.heap.size, _, _, (0, 0), by simp, hbase, heap_alloc_new w.drew _, by simpa using hge, hcm, ?_, .inl rfl, ?_⟩
      · simp only [Array.size_append, List.size_toArray, size_zeroCells, nums, List.length_map, List.length_singleton]
        simp [Value.cells]
        omega
      · simp only [Array.toList_append, List.length_append, List.length_singleton]
        have h1 : (nums .u8 bs ++ [Value.int .u8 x]) = nums .u8 (bs ++ [x]) := by simp [nums]
        rw [show (nums IntKind.u8 bs).toArray.toList ++ [Value.int .u8 x].toArray.toList = nums .u8 (bs ++ [x]) from h1]
        exact List.take_left' (by simp [nums])
theorem wpList_append_b {ops : Array Oper} {rest : List Oper} {o : Oper} {act : Act} {Q : Exit → Act → World → Prop} (w : World) (hgd : o.guard = none) (s x : Operand)
    (ho : o.op = .call { callee := .builtin .append, args := #[s, x], argTypes := #[63, 63] })
    (base : Nat) (v : Value) (bs : List Int) (hs : act.eval s = v) (hown : OwnB w base v bs) (ad : Addr) (c : Nat) (y : Int) (hx : act.eval x = .slice (some ad) 1 c) (hc : w.cell? ad = some (.int .u8 y))
    (h63 : bs.length + 1 ≤ 1099511627776) (hbase : base ≤ w.heap.size)
    (h : ∀ v' w', OwnB w' base v' (bs ++ [y]) → w.grownBy w' v.ownBlock → wpList Try.prog ops Q rest (act.put o.dst v') w') : wpList Try.prog ops Q (o :: rest) act w := by
  refine wpList_plain hgd fun K hK => ?_
  obtain ⟨v', w', hr, h2, h3⟩ := run_append_b w o.type base v bs hown ad y c hc h63 hbase
  unfold Oper.wp execOp
  simp only [ho, resolve, invoke, builtin, Sem.run_bind, Sem.run_pure, Result.andThen_ok, List.map_toArray, List.map_cons, List.map_nil, hs, hx, hr]
  exact hK _ _ (h v' w' h2 h3)
end Go.Proofs.Ytnpghcikhpglkaa.Hand
namespace Go.Proofs.Ytnpghcikhpglkaa.Hand
open Go.RowKit Go.Proofs.YtnpghcikhpglkaaW.PrintWords Go.Proofs.YtnpghcikhpglkaaW.PrintLast Go.Proofs.YtnpghcikhpglkaaW.PrintMore Go.Proofs.Ytnpghcikhpglkaa.Q
set_option linter.unusedVariables false
set_option linter.unusedSimpArgs false
/-- A row behind the pointer p: its bytes, its count. -/
def RowIs (W : World) (base p : Nat) (bs : List Int) (n : Int) : Prop :=
  ∃ sv, W.heap[p]? = some (.cells #[sv, .int .i64 n] 116 (0, 0)) ∧ OwnB W base sv bs ∧ base ≤ p
/-- One bit of a number, at its place in a byte, as the walk has it. -/
def bitAt (v : Int) (k : Nat) (m : Int) : Int := bits BinOp.and IntKind.i64 (v / 2 ^ min k 64) 1 % 256 * 2 ^ m.toNat % 256
def rowByte (x v : Int) (k : Nat) (m : Int) : Int := bits BinOp.or IntKind.u8 x (bitAt v k m)
/-- A bit put behind. -/
def rowBit (s : List Int × Int) (v : Int) (k : Nat) : List Int × Int :=
  let bs := if s.2 % 8 = 0 then s.1 ++ [0] else s.1
  (bs.set (s.2 / 8).toNat (rowByte (rd bs (s.2 / 8)) v k (7 - s.2 % 8)), s.2 + 1)
/-- So many bits put behind, the highest first. -/
def rowPut : Nat → List Int × Int → Int → List Int × Int
  | 0, s, _ => s
  | k + 1, s, v => rowPut k (rowBit s v k) v
theorem rowBit_snd (s : List Int × Int) (v : Int) (k : Nat) : (rowBit s v k).2 = s.2 + 1 := rfl
theorem rowBit_len (s : List Int × Int) (v : Int) (k : Nat) (h0 : 0 ≤ s.2) (hl : (s.1.length : Int) = (s.2 + 7) / 8) : ((rowBit s v k).1.length : Int) = ((rowBit s v k).2 + 7) / 8 := by
  unfold rowBit
  by_cases h : s.2 % 8 = 0
  · simp [h]
    omega
  · simp [h]
    omega
theorem below_drew0 {B : Nat} {w W : World} (h : Below B w W) : Below B w W.drew := ⟨h.os, h.tape, h.output, h.size, h.block⟩
/-- What a round leaves. -/
theorem row_leaves {w0 w : World} {base p g cap : Nat} {bs : List Int} {n x : Int} (hb : Below base w0 w) (hblk : w.heap[p]? = some (.cells #[.slice (some ⟨g, 0, none⟩) bs.length cap, .int .i64 n] 116 (0, 0)))
    (hown : OwnB w base (.slice (some ⟨g, 0, none⟩) bs.length cap) bs) (hp : base ≤ p) (i : Int) :
    RowIs ((w.setCell ⟨g, i.toNat, none⟩ (.int .u8 x)).setCell ⟨p, 1, none⟩ (.int .i64 (n + 1))).drew base p (bs.set i.toNat x) (n + 1) ∧
    Below base w0 ((w.setCell ⟨g, i.toNat, none⟩ (.int .u8 x)).setCell ⟨p, 1, none⟩ (.int .i64 (n + 1))).drew := by
  have hne : some p ≠ (Value.slice (some ⟨g, 0, none⟩) bs.length cap).ownBlock := hown.ne hblk (by decide)
  have hgp : p ≠ g := fun h => hne (by simp [Value.ownBlock, h])
  have hg : base ≤ g := (hown.base_le g (by simp [Value.ownBlock])).1
  have h1 := hown.store i x
  have h3 := h1.setFar (p := ⟨p, 1, none⟩) hne (.int .i64 (n + 1))
  have h4 := blk_set (blk_far hblk (p := ⟨g, i.toNat, none⟩) hgp (.int .u8 x)) 1 (.int .i64 (n + 1))
  refine ⟨⟨.slice (some ⟨g, 0, none⟩) bs.length cap, ?_, ?_, hp⟩, ?_⟩
  · exact h4
  · exact h3
  · exact below_drew0 ((hb.setCell (p := ⟨g, i.toNat, none⟩) hg _).setCell (p := ⟨p, 1, none⟩) hp _)
set_option maxHeartbeats 2000000 in
set_option maxRecDepth 100000 in
theorem row_put (W : World) (base p : Nat) (bs : List Int) (n v : Int) (w : Nat) (hrow : RowIs W base p bs n) (hn : 0 ≤ n) (hlen : (bs.length : Int) = (n + 7) / 8) (hbd : n + w ≤ 1073741824) (hbase : base ≤ W.heap.size) :
    Calls Try.prog 89 #[.pointer (some ⟨p, 0, none⟩), .int .i64 v, .int .i64 w] W fun e w' => e = .returned (.tuple #[]) ∧ RowIs w' base p (rowPut w (bs, n) v).1 (rowPut w (bs, n) v).2 ∧ Below base W w' := by
  have hw : w ≤ 1073741824 := by omega
  have hw0 : (w : Int) ≤ 1073741824 := by omega
  go_enter Try.func89, Try.ntmps89
  go_wp2
  go_loopw [6] (fun i wr => ∃ (k : Nat) (s : List Int × Int), k ≤ w ∧ i = .int .i64 ((k : Int) - 1) ∧ rowPut k s v = rowPut w (bs, n) v ∧ RowIs wr base p s.1 s.2 ∧ 0 ≤ s.2 ∧ s.2 + k ≤ 1073741824 ∧ (s.1.length : Int) = (s.2 + 7) / 8 ∧ Below base W wr)
    (fun i wr => (intOf i + 1).toNat)
  case atStart => exact ⟨w, (bs, n), by omega, by go_num, rfl, hrow, hn, hbd, hlen, Below.refl _ _⟩
  case round =>
    obtain ⟨k, ⟨bs1, n1⟩, hk, rfl, hput, ⟨sv, hblk, hown, hp⟩, hn1, hk1, hlen1, hbel⟩ := hrel
    simp only at hblk hown hn1 hk1 hlen1
    replace hput := Lib.hid hput
    clear hrow
    by_cases h0 : 1 ≤ (k : Int)
    · obtain ⟨k, rfl⟩ : ∃ m, k = m + 1 := ⟨k - 1, by omega⟩
      have hx1 : 0 ≤ n1 / 8 := by omega
      have hx3 : 0 ≤ n1 % 8 := by omega
      have hx4 : n1 % 8 < 8 := by omega
      by_cases hm : n1 % 8 = 0
      · have hmb : (n1 % 8 == 0) = true := by simp [hm]
        have c0 : wr.cell? ⟨p, 0, none⟩ = some sv := blk_cell hblk 0
        have c1 : wr.cell? ⟨p, 1, none⟩ = some (.int .i64 n1) := blk_cell hblk 1
        have f0 := blk_frozen hblk 0
        have f1 := blk_frozen hblk 1
        have hbs : base ≤ wr.heap.size := Nat.le_trans hbase hbel.size
        have HE := Lib.hid (show rowBit (bs1, n1) v k = ((bs1 ++ [0]).set (n1 / 8).toNat (rowByte (rd (bs1 ++ [0]) (n1 / 8)) v k (7 - n1 % 8)), n1 + 1) by simp [rowBit, hm])
        have HOWN := Lib.hid (hown.alloc (.cells #[.int .u8 0] 5))
        have HBLK := Lib.hid (show (wr.alloc (.cells #[.int .u8 0] 5)).heap[p]? = _ from (Below.heap_alloc wr _ p (blk_lt hblk)).trans hblk)
        have HNE := Lib.hid (hown.ne hblk (by decide))
        have HBEL := Lib.hid (hbel.alloc hbs (.cells #[.int .u8 0] 5))
        have HLEN := Lib.hid hlen1
        clear hown hblk hbel hlen1 hm
        go_wp2_with (at_builtin; refine wpList_append_b _ rfl _ _ rfl base sv bs1 rfl HOWN.out ⟨wr.heap.size, 0, none⟩ 1 0 rfl (cell_of_row _ _ 0 _ 5 (0, 0) (heap_alloc_new wr _)) ?c2 ?c1 ?next)
        case c1 => simp; omega
        case c2 => have := HLEN.out; omega
        case next =>
        intro v1 w1 hown1 hgrow
        have hbel1 : Below base W w1 := HBEL.out.grown hgrow (by simp; omega) (fun k hk => (HOWN.out.base_le k hk).1)
        clear c0 c1 f0 f1
        obtain ⟨bs2, HB2⟩ : ∃ b, b = bs1 ++ [0] := ⟨_, rfl⟩
        replace hown1 : OwnB w1 base v1 bs2 := by rw [HB2]; exact hown1
        rw [← HB2] at HE
        have HL1 : (bs2.length : Int) = (n1 + 7) / 8 + 1 := by have := HLEN.out; rw [HB2]; simp; omega
        replace HB2 := Lib.hid HB2
        have hpos : 0 < bs2.length := by omega
        obtain ⟨g, cap, rfl⟩ := hown1.form hpos
        have hblk1 := blk_grown HBLK.out hgrow HNE.out
        have hx2 : n1 / 8 < (bs2.length : Int) := by omega
        have hgp : g ≠ p := fun h => hown1.ne hblk1 (by decide) (by simp [Value.ownBlock, h])
        have hgp2 : p ≠ g := fun h => hgp h.symm
        have hnep : some p ≠ (Value.slice (some ⟨g, 0, none⟩) bs2.length cap).ownBlock := hown1.ne hblk1 (by decide)
        have hown2 := hown1.setFar (p := ⟨p, 0, none⟩) hnep (.slice (some ⟨g, 0, none⟩) bs2.length cap)
        have hblk2 : (w1.setCell ⟨p, 0, none⟩ (.slice (some ⟨g, 0, none⟩) bs2.length cap)).heap[p]? = some (.cells #[.slice (some ⟨g, 0, none⟩) bs2.length cap, .int .i64 n1] 116 (0, 0)) := blk_set hblk1 0 _
        have hbel2 := hbel1.setCell (p := ⟨p, 0, none⟩) hp (.slice (some ⟨g, 0, none⟩) bs2.length cap)
        have HL := Lib.hid (row_leaves (x := rowByte (rd bs2 (n1 / 8)) v k (7 - n1 % 8)) hbel2 hblk2 hown2 hp (n1 / 8))
        obtain ⟨cg, fg⟩ := hown2.at_ (n1 / 8) hx1 hx2
        have c0 : w1.cell? ⟨p, 0, none⟩ = some sv := blk_cell hblk1 0
        have f0 := blk_frozen hblk1 0
        have c1 : w1.cell? ⟨p, 1, none⟩ = some (.int .i64 n1) := blk_cell hblk1 1
        have f1 := blk_frozen hblk1 1
        obtain ⟨cg', fg'⟩ := hown1.at_ (n1 / 8) hx1 hx2
        have c0' : _ = some (Value.slice (some ⟨g, 0, none⟩) bs2.length cap) := blk_cell hblk2 0
        have c1' : _ = some (Value.int .i64 n1) := blk_cell hblk2 1
        have f0' := blk_frozen hblk2 0
        have f1' := blk_frozen hblk2 1
        replace hblk1 := Lib.hid hblk1
        replace hblk2 := Lib.hid hblk2
        replace hown1 := Lib.hid hown1
        replace hown2 := Lib.hid hown2
        clear hbel1 hbel2
        replace HL1 := Lib.hid HL1
        go_wp2
        go_region
        all_goals go_wp2
        all_goals go_roundw
        case rel => exact ⟨k, rowBit (bs1, n1) v k, by omega, by first | rfl | go_num, hput.out, by rw [HE.out]; exact HL.out.1, by simp [rowBit]; omega, by simp [rowBit]; omega, rowBit_len (bs1, n1) v k hn1 HLEN.out, HL.out.2⟩
        case measure => simp [intOf]
      · have hpos : 0 < bs1.length := by omega
        obtain ⟨g, cap, rfl⟩ := hown.form hpos
        have hx2 : n1 / 8 < (bs1.length : Int) := by omega
        obtain ⟨cg, fg⟩ := hown.at_ (n1 / 8) hx1 hx2
        have c0 : wr.cell? ⟨p, 0, none⟩ = some (.slice (some ⟨g, 0, none⟩) bs1.length cap) := blk_cell hblk 0
        have c1 : wr.cell? ⟨p, 1, none⟩ = some (.int .i64 n1) := blk_cell hblk 1
        have f0 := blk_frozen hblk 0
        have f1 := blk_frozen hblk 1
        have hgp : g ≠ p := fun h => hown.ne hblk (by decide) (by simp [Value.ownBlock, h])
        have HE := Lib.hid (show rowBit (bs1, n1) v k = (bs1.set (n1 / 8).toNat (rowByte (rd bs1 (n1 / 8)) v k (7 - n1 % 8)), n1 + 1) by simp [rowBit, hm])
        have HL := Lib.hid (row_leaves (x := rowByte (rd bs1 (n1 / 8)) v k (7 - n1 % 8)) hbel hblk hown hp (n1 / 8))
        replace hblk := Lib.hid hblk
        replace hown := Lib.hid hown
        replace hlen1 := Lib.hid hlen1
        clear hbel
        go_wp2
        go_region
        all_goals go_wp2
        all_goals go_roundw
        case rel => exact ⟨k, rowBit (bs1, n1) v k, by omega, by first | rfl | go_num, hput.out, by rw [HE.out]; exact HL.out.1, by simp [rowBit]; omega, by simp [rowBit]; omega, rowBit_len (bs1, n1) v k hn1 hlen1.out, HL.out.2⟩
        case measure => simp [intOf]
    · go_wp2
      have hk0 : k = 0 := by omega
      subst hk0
      go_end0
      have h1 : (bs1, n1) = rowPut w (bs, n) v := hput.out
      exact ⟨rfl, by rw [← h1]; exact ⟨sv, hblk, hown, hp⟩, hbel⟩
end Go.Proofs.Ytnpghcikhpglkaa.Hand
namespace Go.Proofs.Ytnpghcikhpglkaa.Hand
open Go.RowKit Go.Proofs.YtnpghcikhpglkaaW.PrintWords Go.Proofs.YtnpghcikhpglkaaW.PrintLast Go.Proofs.YtnpghcikhpglkaaW.PrintMore Go.Proofs.Ytnpghcikhpglkaa.Q
set_option linter.unusedVariables false
set_option linter.unusedSimpArgs false
theorem OwnB.drew {w : World} {base : Nat} {v : Value} {bs : List Int} (h : OwnB w base v bs) : OwnB w.drew base v bs := h
theorem RowIs.below {W w' : World} {base p : Nat} {bs : List Int} {n : Int} (h : RowIs W base p bs n) (hb : Below W.heap.size W w') : RowIs w' base p bs n := by
  obtain ⟨sv, h1, h2, h3⟩ := h
  exact ⟨sv, (hb.block p (blk_lt h1)).trans h1, h2.below hb, h3⟩
set_option maxHeartbeats 1000000 in
set_option maxRecDepth 100000 in
theorem from_ (W : World) (s : ByteArray) (n : Int) (hs : s.size ≤ 1073741824) :
    Calls Try.prog 88 #[.agg #[.string s, .int .i64 n]] W fun e w' => ∃ p, e = .returned (.pointer (some ⟨p, 0, none⟩)) ∧ RowIs w' W.heap.size p (bytesI s) n ∧ Below W.heap.size W w' := by
  have hu := Try.underlying27
  have hu2 := Try.underlying116
  have hcv := fun w => Lib.run_convert_string_bytes (P := Try.prog) w 9 63 5 s Try.underlying9 Try.underlying63 Try.underlying5
  have hc1 : (Lib.bytesWorld (W.alloc (.cells #[.string s, .int .i64 n] 27)) 5 s).cell? ⟨W.heap.size, 1, none⟩ = some (.int .i64 n) := by
    rw [Lib.bytesWorld_old _ _ _ _ (by simp)]
    exact cell_of_row _ _ 1 _ 27 (0, 0) (heap_alloc_new W _)
  have hsz := Lib.bytesWorld_size (W.alloc (.cells #[.string s, .int .i64 n] 27)) 5 s
  have HO := Lib.hid (own_bytes (W.alloc (.cells #[.string s, .int .i64 n] 27)) s W.heap.size (by simp) hs)
  have HB := Lib.hid (below_bytes ((Below.refl W.heap.size W).alloc (Nat.le_refl _) (.cells #[.string s, .int .i64 n] 27)) (by simp) s)
  go_enter Try.func88, Try.ntmps88
  go_wp2
  go_ret
  refine ⟨W.heap.size + 2, rfl, ⟨_, ?_, HO.out.alloc _, by omega⟩, ?_⟩
  · have h := heap_alloc_new (Lib.bytesWorld (W.alloc (.cells #[.string s, .int .i64 n] 27)) 5 s) (.cells #[.slice (some ⟨W.heap.size + 1, 0, none⟩) s.size (grownCap (W.alloc (.cells #[.string s, .int .i64 n] 27)) s.size 0 5), .int .i64 n] 116)
    rw [Lib.bytesWorld_size] at h
    simpa using h
  · exact HB.out.alloc (by rw [Lib.bytesWorld_size]; simp; omega) _
set_option maxHeartbeats 1000000 in
set_option maxRecDepth 100000 in
theorem row_bits_yes (W : World) (base p : Nat) (bs : List Int) (n : Int) (hrow : RowIs W base p bs n) (hn : n ≤ 6000) :
    Calls Try.prog 90 #[.pointer (some ⟨p, 0, none⟩)] W fun e w' => e = .returned (.tuple #[.agg #[.string (strOfNums bs), .int .i64 n], .int .i64 0]) ∧ Below W.heap.size W w' := by
  obtain ⟨sv, hblk, hown, hp⟩ := hrow
  have hu := Try.underlying27
  have hu2 := Try.underlying116
  have c0 : W.cell? ⟨p, 0, none⟩ = some sv := blk_cell hblk 0
  have c1 : W.cell? ⟨p, 1, none⟩ = some (.int .i64 n) := blk_cell hblk 1
  have hpl : p < W.heap.size := blk_lt hblk
  have hst := (hown.alloc (.cells #[.string { data := #[] }, .int .i64 0] 27)).drew.str
  replace hblk := Lib.hid hblk
  replace hown := Lib.hid hown
  go_enter Try.func90, Try.ntmps90
  go_wp2
  go_region
  go_wp2
  refine bodyPost_ret (results_list (rs := [.cell 2 27, .tmp 3]) rfl (by simp) (.cell W.heap.size 27 #[.string (strOfNums bs), .int .i64 n] (0, 0) _ rfl ?_ Try.underlying27 rfl (by kernel_rfl) (.tmp .nil))) rfl ⟨rfl, ?_⟩
  · exact heap_alloc_new W _
  · exact below_drew0 ((Below.refl _ W).alloc (Nat.le_refl _) _)
set_option maxHeartbeats 1000000 in
set_option maxRecDepth 100000 in
theorem row_bits_no (W : World) (base p : Nat) (bs : List Int) (n : Int) (hrow : RowIs W base p bs n) (hn : 6000 < n) :
    Calls Try.prog 90 #[.pointer (some ⟨p, 0, none⟩)] W fun e w' => e = .returned (.tuple #[.agg #[.string ⟨#[]⟩, .int .i64 0], .int .i64 2]) ∧ Below W.heap.size W w' := by
  obtain ⟨sv, hblk, hown, hp⟩ := hrow
  have hu := Try.underlying27
  have hu2 := Try.underlying116
  have c1 : W.cell? ⟨p, 1, none⟩ = some (.int .i64 n) := blk_cell hblk 1
  have hpl : p < W.heap.size := blk_lt hblk
  clear hblk hown
  go_enter Try.func90, Try.ntmps90
  go_wp2
  refine bodyPost_ret (results_list (rs := [.cell 2 27, .tmp 3]) rfl (by simp) (.cell W.heap.size 27 #[.string ⟨#[]⟩, .int .i64 0] (0, 0) _ rfl ?_ Try.underlying27 rfl (by kernel_rfl) (.tmp .nil))) rfl ⟨rfl, ?_⟩
  · first | exact heap_alloc_new W _ | exact blk_put (cs := #[.string ⟨#[]⟩, .int .i64 0]) (blk_put (cs := #[.string ⟨#[]⟩, .int .i64 0]) (heap_alloc_new W _) 0 _ rfl) 1 _ rfl
  · first | exact (Below.refl _ W).alloc (Nat.le_refl _) _ | exact (((Below.refl _ W).alloc (Nat.le_refl _) _).setCell (p := ⟨W.heap.size, 0, none⟩) (Nat.le_refl _) _).setCell (p := ⟨W.heap.size, 1, none⟩) (Nat.le_refl _) _
theorem row_size (W : World) (base p : Nat) (bs : List Int) (n : Int) (hrow : RowIs W base p bs n) :
    Calls Try.prog 109 #[.pointer (some ⟨p, 0, none⟩)] W fun e w' => e = .returned (.int .i64 n) ∧ W = w' := by
  obtain ⟨sv, hblk, hown, hp⟩ := hrow
  have hu2 := Try.underlying116
  have c1 : W.cell? ⟨p, 1, none⟩ = some (.int .i64 n) := blk_cell hblk 1
  clear hblk hown
  go_enter Try.func109, Try.ntmps109
  go_wp2
  go_ret
  exact ⟨rfl, rfl⟩
end Go.Proofs.Ytnpghcikhpglkaa.Hand
namespace Go.Proofs.Ytnpghcikhpglkaa.Pu
open Go.RowKit Go.Proofs.YtnpghcikhpglkaaW.PrintWords Go.Proofs.YtnpghcikhpglkaaW.PrintLast Go.Proofs.YtnpghcikhpglkaaW.PrintMore Go.Proofs.Ytnpghcikhpglkaa.Q Go.Proofs.Ytnpghcikhpglkaa.Hand
set_option linter.unusedVariables false
/-! ### the machine's bit operations -/
theorem wraps_i64 (n : Int) (h₀ : 0 ≤ n) (h₁ : n < 2 ^ 63) : IntKind.i64.wrap n = n := by rw [IntKind.wrap_i64]; omega
theorem and_one (x : Int) (h0 : 0 ≤ x) (h1 : x < 2 ^ 63) : bits .and .i64 x 1 = x % 2 :=
  bits_mask .i64 63 (by decide) wraps_i64 1 (by decide) x h0 h1
theorem pow8 (m : Int) (h0 : 0 ≤ m) (h7 : m ≤ 7) : (2 : Int) ^ m.toNat = 1 ∨ (2 : Int) ^ m.toNat = 2 ∨ (2 : Int) ^ m.toNat = 4 ∨ (2 : Int) ^ m.toNat = 8 ∨ (2 : Int) ^ m.toNat = 16 ∨ (2 : Int) ^ m.toNat = 32 ∨ (2 : Int) ^ m.toNat = 64 ∨ (2 : Int) ^ m.toNat = 128 := by
  have : m = 0 ∨ m = 1 ∨ m = 2 ∨ m = 3 ∨ m = 4 ∨ m = 5 ∨ m = 6 ∨ m = 7 := by omega
  rcases this with rfl | rfl | rfl | rfl | rfl | rfl | rfl | rfl <;> simp
theorem div_pow_nonneg (v : Int) (k : Nat) (h : 0 ≤ v) : 0 ≤ v / 2 ^ k := Int.ediv_nonneg h (Int.le_of_lt (Int.pow_pos (by decide)))
theorem div_pow_le (v : Int) (k : Nat) (h : 0 ≤ v) : v / 2 ^ k ≤ v := Int.ediv_le_self _ h
theorem div_min (v : Int) (k : Nat) (hv : 0 ≤ v) (hv2 : v < 2 ^ 62) : v / 2 ^ min k 64 = v / 2 ^ k := by
  rcases Nat.le_total k 64 with hk | hk
  · rw [Nat.min_eq_left hk]
  · rw [Nat.min_eq_right hk]
    have h1 : v < 2 ^ 64 := by omega
    have h2 : (2 : Int) ^ 64 ≤ 2 ^ k := by have := Nat.pow_le_pow_right (n := 2) (by decide) hk; exact_mod_cast this
    rw [Int.ediv_eq_zero_of_lt hv h1, Int.ediv_eq_zero_of_lt hv (Int.lt_of_lt_of_le h1 h2)]
theorem bitAt_eq (v : Int) (k : Nat) (m : Int) (hv : 0 ≤ v) (hv2 : v < 2 ^ 62) (hm0 : 0 ≤ m) (hm7 : m ≤ 7) : bitAt v k m = v / 2 ^ k % 2 * 2 ^ m.toNat := by
  unfold bitAt
  rw [div_min v k hv hv2, and_one _ (div_pow_nonneg v k hv) (by have := div_pow_le v k hv; omega)]
  generalize hb : v / 2 ^ k % 2 = b
  have hb01 : b = 0 ∨ b = 1 := by omega
  have hp := pow8 m hm0 hm7
  rcases hb01 with rfl | rfl
  · simp
  · rcases hp with h | h | h | h | h | h | h | h <;> rw [h] <;> rfl
theorem rowByte_eq (x v : Int) (k : Nat) (m : Int) (hx0 : 0 ≤ x) (hx : x < 256) (hv : 0 ≤ v) (hv2 : v < 2 ^ 62) (hm0 : 0 ≤ m) (hm7 : m ≤ 7) (hd : x % 2 ^ (m.toNat + 1) = 0) :
    rowByte x v k m = x + v / 2 ^ k % 2 * 2 ^ m.toNat := by
  unfold rowByte
  rw [bitAt_eq v k m hv hv2 hm0 hm7]
  generalize hb : v / 2 ^ k % 2 = b
  have hb01 : b = 0 ∨ b = 1 := by omega
  have hpw : (0 : Int) < 2 ^ m.toNat := Int.pow_pos (by decide)
  have hp := pow8 m hm0 hm7
  refine bits_join .u8 8 (by decide) wraps_u8 (m.toNat + 1) x _ hx0 hd (by omega) ?_ ?_ ?_
  · rcases hb01 with rfl | rfl <;> omega
  · rw [Int.pow_succ]; rcases hb01 with rfl | rfl <;> omega
  · rcases hb01 with rfl | rfl
    · simp
    · rcases hp with h | h | h | h | h | h | h | h <;> rw [h] <;> decide
/-! ### lists of bits, packed -/
def IsBits (l : List Int) : Prop := ∀ x ∈ l, x = 0 ∨ x = 1
theorem IsBits.nil : IsBits [] := fun x h => by cases h
theorem IsBits.append {a b : List Int} (ha : IsBits a) (hb : IsBits b) : IsBits (a ++ b) := fun x h => by
  rcases List.mem_append.1 h with h | h
  · exact ha x h
  · exact hb x h
theorem IsBits.getD {l : List Int} (h : IsBits l) (i : Nat) : l.getD i 0 = 0 ∨ l.getD i 0 = 1 := by
  rw [List.getD_eq_getElem?_getD]
  rcases Nat.lt_or_ge i l.length with hi | hi
  · rw [List.getElem?_eq_getElem hi]
    exact h _ (List.getElem_mem hi)
  · rw [List.getElem?_eq_none hi]
    exact .inl rfl
def byteAt (l : List Int) (j : Nat) : Int :=
  l.getD (8 * j) 0 * 128 + l.getD (8 * j + 1) 0 * 64 + l.getD (8 * j + 2) 0 * 32 + l.getD (8 * j + 3) 0 * 16 + l.getD (8 * j + 4) 0 * 8 + l.getD (8 * j + 5) 0 * 4 + l.getD (8 * j + 6) 0 * 2 + l.getD (8 * j + 7) 0
def packL (l : List Int) : List Int := (List.range ((l.length + 7) / 8)).map (byteAt l)
theorem packL_length (l : List Int) : (packL l).length = (l.length + 7) / 8 := by simp [packL]
theorem byteAt_range {l : List Int} (h : IsBits l) (j : Nat) : 0 ≤ byteAt l j ∧ byteAt l j < 256 := by
  unfold byteAt
  have := h.getD (8 * j); have := h.getD (8 * j + 1); have := h.getD (8 * j + 2); have := h.getD (8 * j + 3)
  have := h.getD (8 * j + 4); have := h.getD (8 * j + 5); have := h.getD (8 * j + 6); have := h.getD (8 * j + 7)
  omega
theorem packL_get (l : List Int) (j : Nat) (hj : j < (l.length + 7) / 8) : (packL l)[j]? = some (byteAt l j) := by
  simp [packL, List.getElem?_map, List.getElem?_range hj]
theorem getD_beyond (l : List Int) (i : Nat) (h : l.length ≤ i) : l.getD i 0 = 0 := by
  rw [List.getD_eq_getElem?_getD, List.getElem?_eq_none h]; rfl
theorem getD_snoc_old (l : List Int) (b : Int) (i : Nat) (h : i ≠ l.length) : (l ++ [b]).getD i 0 = l.getD i 0 := by
  rw [List.getD_eq_getElem?_getD, List.getD_eq_getElem?_getD]
  rcases Nat.lt_or_ge i l.length with hi | hi
  · rw [List.getElem?_append_left hi]
  · rw [List.getElem?_eq_none hi, List.getElem?_eq_none (by simp; omega)]
theorem getD_snoc_new (l : List Int) (b : Int) : (l ++ [b]).getD l.length 0 = b := by
  rw [List.getD_eq_getElem?_getD, List.getElem?_append_right (Nat.le_refl _)]; simp
theorem byteAt_snoc_old (l : List Int) (b : Int) (j : Nat) (h : j ≠ l.length / 8) : byteAt (l ++ [b]) j = byteAt l j := by
  unfold byteAt
  rw [getD_snoc_old l b _ (by omega), getD_snoc_old l b _ (by omega), getD_snoc_old l b _ (by omega), getD_snoc_old l b _ (by omega), getD_snoc_old l b _ (by omega), getD_snoc_old l b _ (by omega), getD_snoc_old l b _ (by omega), getD_snoc_old l b _ (by omega)]
/-- The byte in which the next bit comes to stand. -/
theorem byteAt_snoc_new (l : List Int) (b : Int) : byteAt (l ++ [b]) (l.length / 8) = byteAt l (l.length / 8) + b * 2 ^ (7 - l.length % 8) ∧ byteAt l (l.length / 8) % 2 ^ (7 - l.length % 8 + 1) = 0 := by
  obtain ⟨q, r, hr, hl⟩ : ∃ q r, r < 8 ∧ l.length = 8 * q + r := ⟨l.length / 8, l.length % 8, by omega, by omega⟩
  have hq : l.length / 8 = q := by omega
  have hm : l.length % 8 = r := by omega
  rw [hq, hm]
  unfold byteAt
  have hz : ∀ i, r ≤ i → l.getD (8 * q + i) 0 = 0 := fun i hi => getD_beyond l _ (by omega)
  have ho : ∀ i, i ≠ r → (l ++ [b]).getD (8 * q + i) 0 = l.getD (8 * q + i) 0 := fun i hi => getD_snoc_old l b _ (by omega)
  have hn : (l ++ [b]).getD (8 * q + r) 0 = b := by rw [← hl]; exact getD_snoc_new l b
  have h0 := ho 0; have z0 := hz 0
  simp only [Nat.add_zero] at h0 z0
  have hr' : r = 0 ∨ r = 1 ∨ r = 2 ∨ r = 3 ∨ r = 4 ∨ r = 5 ∨ r = 6 ∨ r = 7 := by omega
  rcases hr' with rfl | rfl | rfl | rfl | rfl | rfl | rfl | rfl
  · simp only [Nat.add_zero] at hn
    rw [hn, ho 1 (by omega), ho 2 (by omega), ho 3 (by omega), ho 4 (by omega), ho 5 (by omega), ho 6 (by omega), ho 7 (by omega), z0 (by omega), hz 1 (by omega), hz 2 (by omega), hz 3 (by omega), hz 4 (by omega), hz 5 (by omega), hz 6 (by omega), hz 7 (by omega)]
    constructor <;> simp
  · rw [hn, h0 (by omega), ho 2 (by omega), ho 3 (by omega), ho 4 (by omega), ho 5 (by omega), ho 6 (by omega), ho 7 (by omega), hz 1 (by omega), hz 2 (by omega), hz 3 (by omega), hz 4 (by omega), hz 5 (by omega), hz 6 (by omega), hz 7 (by omega)]
    constructor <;> simp <;> omega
  · rw [hn, h0 (by omega), ho 1 (by omega), ho 3 (by omega), ho 4 (by omega), ho 5 (by omega), ho 6 (by omega), ho 7 (by omega), hz 2 (by omega), hz 3 (by omega), hz 4 (by omega), hz 5 (by omega), hz 6 (by omega), hz 7 (by omega)]
    constructor <;> simp <;> omega
  · rw [hn, h0 (by omega), ho 1 (by omega), ho 2 (by omega), ho 4 (by omega), ho 5 (by omega), ho 6 (by omega), ho 7 (by omega), hz 3 (by omega), hz 4 (by omega), hz 5 (by omega), hz 6 (by omega), hz 7 (by omega)]
    constructor <;> simp <;> omega
  · rw [hn, h0 (by omega), ho 1 (by omega), ho 2 (by omega), ho 3 (by omega), ho 5 (by omega), ho 6 (by omega), ho 7 (by omega), hz 4 (by omega), hz 5 (by omega), hz 6 (by omega), hz 7 (by omega)]
    constructor <;> simp <;> omega
  · rw [hn, h0 (by omega), ho 1 (by omega), ho 2 (by omega), ho 3 (by omega), ho 4 (by omega), ho 6 (by omega), ho 7 (by omega), hz 5 (by omega), hz 6 (by omega), hz 7 (by omega)]
    constructor <;> simp <;> omega
  · rw [hn, h0 (by omega), ho 1 (by omega), ho 2 (by omega), ho 3 (by omega), ho 4 (by omega), ho 5 (by omega), ho 7 (by omega), hz 6 (by omega), hz 7 (by omega)]
    constructor <;> simp <;> omega
  · rw [hn, h0 (by omega), ho 1 (by omega), ho 2 (by omega), ho 3 (by omega), ho 4 (by omega), ho 5 (by omega), ho 6 (by omega), hz 7 (by omega)]
    constructor <;> simp <;> omega
theorem packL_snoc (l : List Int) (b : Int) : packL (l ++ [b]) = (if l.length % 8 = 0 then packL l ++ [0] else packL l).set (l.length / 8) (byteAt (l ++ [b]) (l.length / 8)) := by
  refine List.ext_getElem? fun j => ?_
  have hlen : (if l.length % 8 = 0 then packL l ++ [0] else packL l).length = (l.length + 8) / 8 := by
    split
    · rw [List.length_append, packL_length]; simp; omega
    · rw [packL_length]; omega
  rcases Nat.lt_or_ge j ((l.length + 8) / 8) with hj | hj
  · rw [packL_get _ _ (by simp; omega), List.getElem?_set]
    by_cases h : l.length / 8 = j
    · rw [if_pos h, if_pos (by rw [hlen, h]; exact hj), h]
    · rw [if_neg h, byteAt_snoc_old l b j (fun e => h e.symm)]
      have hj2 : j < (l.length + 7) / 8 := by omega
      split
      · rw [List.getElem?_append_left (by rw [packL_length]; exact hj2), packL_get l j hj2]
      · rw [packL_get l j hj2]
  · rw [List.getElem?_eq_none (by rw [packL_length]; simp; omega), List.getElem?_eq_none (by rw [List.length_set, hlen]; exact hj)]
theorem byteAt_end (l : List Int) (h : l.length % 8 = 0) (j : Nat) (hj : l.length / 8 ≤ j) : byteAt l j = 0 := by
  unfold byteAt
  rw [getD_beyond l _ (by omega), getD_beyond l _ (by omega), getD_beyond l _ (by omega), getD_beyond l _ (by omega), getD_beyond l _ (by omega), getD_beyond l _ (by omega), getD_beyond l _ (by omega), getD_beyond l _ (by omega)]
  rfl
/-- One bit put behind a row is one bit more of the list. -/
theorem rowBit_pack (l : List Int) (hl : IsBits l) (v : Int) (k : Nat) (hv : 0 ≤ v) (hv2 : v < 2 ^ 62) :
    rowBit (packL l, (l.length : Int)) v k = (packL (l ++ [v / 2 ^ k % 2]), ((l ++ [v / 2 ^ k % 2]).length : Int)) := by
  have hdiv : ((l.length : Int) / 8).toNat = l.length / 8 := by omega
  have hm0 : (0 : Int) ≤ 7 - (l.length : Int) % 8 := by omega
  have hm7 : 7 - (l.length : Int) % 8 ≤ 7 := by omega
  have hmn : (7 - (l.length : Int) % 8).toNat = 7 - l.length % 8 := by omega
  have hbs : (if (l.length : Int) % 8 = 0 then packL l ++ [0] else packL l) = (if l.length % 8 = 0 then packL l ++ [0] else packL l) := by
    by_cases h : l.length % 8 = 0
    · rw [if_pos h, if_pos (by omega)]
    · rw [if_neg h, if_neg (by omega)]
  have hrd : rd (if l.length % 8 = 0 then packL l ++ [0] else packL l) ((l.length : Int) / 8) = byteAt l (l.length / 8) := by
    unfold rd
    rw [hdiv, List.getD_eq_getElem?_getD]
    by_cases h : l.length % 8 = 0
    · rw [if_pos h, List.getElem?_append_right (by rw [packL_length]; omega), packL_length, show l.length / 8 - (l.length + 7) / 8 = 0 by omega, byteAt_end l h _ (Nat.le_refl _)]
      rfl
    · rw [if_neg h, packL_get l _ (by omega)]
      rfl
  obtain ⟨h1, h2⟩ := byteAt_snoc_new l (v / 2 ^ k % 2)
  obtain ⟨r0, r1⟩ := byteAt_range hl (l.length / 8)
  unfold rowBit
  simp only [hbs, hrd, hdiv]
  rw [rowByte_eq _ v k _ r0 r1 hv hv2 hm0 hm7 (by rw [hmn]; exact h2), hmn, ← h1, ← packL_snoc]
  simp
/-- A number as so many bits, the highest first. -/
def putL : Nat → Int → List Int
  | 0, _ => []
  | k + 1, v => v / 2 ^ k % 2 :: putL k v
theorem putL_length (w : Nat) (v : Int) : (putL w v).length = w := by
  induction w with
  | zero => rfl
  | succ k ih => simp [putL, ih]
theorem putL_bits (w : Nat) (v : Int) : IsBits (putL w v) := by
  induction w with
  | zero => exact IsBits.nil
  | succ k ih =>
    intro x hx
    rcases List.mem_cons.1 hx with rfl | hx
    · omega
    · exact ih x hx
theorem rowPut_pack (w : Nat) (v : Int) (hv : 0 ≤ v) (hv2 : v < 2 ^ 62) : ∀ (l : List Int), IsBits l → rowPut w (packL l, (l.length : Int)) v = (packL (l ++ putL w v), ((l ++ putL w v).length : Int)) := by
  induction w with
  | zero => intro l hl; simp [rowPut, putL]
  | succ k ih =>
    intro l hl
    rw [rowPut, rowBit_pack l hl v k hv hv2, ih _ (hl.append (fun x hx => by rw [List.mem_singleton.1 hx]; omega))]
    simp [putL]
/-- Zeros, however many. -/
theorem putL_zero (w : Nat) : putL w 0 = List.replicate w 0 := by
  induction w with
  | zero => rfl
  | succ k ih => simp [putL, ih, List.replicate_succ]
/-! ### bits that may be -/
/-- A bit of a text. -/
def bitOf (s : ByteArray) (i : Int) : Int := bt s (i / 8) / 2 ^ (7 - i % 8).toNat % 2
def MayP (s : ByteArray) (n : Int) : Prop := 0 ≤ n ∧ n ≤ 6000 ∧ (s.size : Int) = (n + 7) / 8 ∧ (n % 8 = 0 ∨ bt s ((s.size : Int) - 1) % 2 ^ (8 - n % 8).toNat = 0)
instance (s : ByteArray) (n : Int) : Decidable (MayP s n) := by unfold MayP; infer_instance
def ofS (s : ByteArray) (n : Int) : List Int := (List.range n.toNat).map fun i : Nat => bitOf s (i : Int)
def packS (l : List Int) : ByteArray := strOfNums (packL l)
theorem bitOf_bit (s : ByteArray) (i : Int) : bitOf s i = 0 ∨ bitOf s i = 1 := by unfold bitOf; omega
theorem ofS_bits (s : ByteArray) (n : Int) : IsBits (ofS s n) := by
  intro x hx
  obtain ⟨i, _, rfl⟩ := List.mem_map.1 hx
  exact bitOf_bit s _
theorem ofS_length (s : ByteArray) (n : Int) : (ofS s n).length = n.toNat := by simp [ofS]
theorem ofS_getD (s : ByteArray) (n : Int) (i : Nat) (h : i < n.toNat) : (ofS s n).getD i 0 = bitOf s i := by
  simp [ofS, List.getD_eq_getElem?_getD, List.getElem?_map, List.getElem?_range h]
theorem bytesI_get (s : ByteArray) (j : Nat) (h : j < s.size) : (bytesI s)[j]? = some (bt s j) := by
  have h2 : j < s.data.toList.length := h
  simp only [bytesI, List.getElem?_map, List.getElem?_eq_getElem h2, Option.map_some, Option.some.injEq]
  have := bt_at s (j : Int) h
  rw [← this]
  rfl
theorem split8 (x : Int) (h0 : 0 ≤ x) (h1 : x < 256) : x = x / 128 % 2 * 128 + x / 64 % 2 * 64 + x / 32 % 2 * 32 + x / 16 % 2 * 16 + x / 8 % 2 * 8 + x / 4 % 2 * 4 + x / 2 % 2 * 2 + x % 2 := by omega
theorem bitOf_at (s : ByteArray) (j : Nat) (i : Nat) (hi : i < 8) : bitOf s ((8 * j + i : Nat) : Int) = bt s j / 2 ^ (7 - i) % 2 := by
  unfold bitOf
  rw [show ((8 * j + i : Nat) : Int) / 8 = (j : Int) by omega, show (7 - ((8 * j + i : Nat) : Int) % 8).toNat = 7 - i by omega]
/-- Bits that may be, packed, are their text's bytes. -/
theorem pack_ofS (s : ByteArray) (n : Int) (h : MayP s n) : packL (ofS s n) = bytesI s := by
  obtain ⟨h0, h6, hsz, hend⟩ := h
  refine List.ext_getElem? fun j => ?_
  rcases Nat.lt_or_ge j s.size with hj | hj
  · rw [packL_get _ _ (by rw [ofS_length]; omega), bytesI_get s j hj]
    congr 1
    obtain ⟨b0, b1⟩ := bt_range s j
    have hx := split8 (bt s j) b0 (by omega)
    have hbit : ∀ i, i < 8 → (ofS s n).getD (8 * j + i) 0 = bt s j / 2 ^ (7 - i) % 2 := by
      intro i hi
      rcases Nat.lt_or_ge (8 * j + i) n.toNat with hlt | hge
      · rw [ofS_getD s n _ hlt, bitOf_at s j i hi]
      · rw [getD_beyond _ _ (by rw [ofS_length]; exact hge)]
        have hjl : j + 1 = s.size := by omega
        have hn8 : n % 8 ≠ 0 := by omega
        have hz := hend.resolve_left hn8
        rw [show ((s.size : Int) - 1) = (j : Int) by omega] at hz
        have hr : n % 8 ≤ (i : Int) := by omega
        have hcase : ∃ r : Nat, n % 8 = (r : Int) ∧ 1 ≤ r ∧ r ≤ i := ⟨(n % 8).toNat, by omega, by omega, by omega⟩
        obtain ⟨r, hr1, hr2, hr3⟩ := hcase
        rw [hr1, show (8 - (r : Int)).toNat = 8 - r by omega] at hz
        have : i = 1 ∨ i = 2 ∨ i = 3 ∨ i = 4 ∨ i = 5 ∨ i = 6 ∨ i = 7 := by omega
        have hd : (2 : Int) ^ (8 - i) ∣ 2 ^ (8 - r) := ⟨2 ^ (i - r), by rw [← Int.pow_add, show 8 - i + (i - r) = 8 - r by omega]⟩
        have hz2 : bt s j % 2 ^ (8 - i) = 0 := Int.emod_eq_zero_of_dvd (Int.dvd_trans hd (Int.dvd_of_emod_eq_zero hz))
        rcases this with rfl | rfl | rfl | rfl | rfl | rfl | rfl <;> simp at hz2 ⊢ <;> omega
    unfold byteAt
    have e0 := hbit 0 (by omega)
    rw [Nat.add_zero] at e0
    rw [e0, hbit 1 (by omega), hbit 2 (by omega), hbit 3 (by omega), hbit 4 (by omega), hbit 5 (by omega), hbit 6 (by omega), hbit 7 (by omega)]
    simp
    omega
  · rw [List.getElem?_eq_none (by rw [packL_length, ofS_length]; omega), List.getElem?_eq_none (by rw [bytesI_length]; exact hj)]
theorem strOfNums_bytesI (s : ByteArray) : strOfNums (bytesI s) = s := by
  apply ByteArray.ext
  apply Array.ext'
  rw [strOfNums_data, bytesI, List.map_map]
  have : ∀ l : List UInt8, l.map ((fun n : Int => UInt8.ofNat n.toNat) ∘ fun b : UInt8 => (b.toNat : Int)) = l := by
    intro l
    induction l with
    | nil => rfl
    | cons a r ih => simp [ih]
  exact this _
theorem packS_ofS (s : ByteArray) (n : Int) (h : MayP s n) : packS (ofS s n) = s := by rw [packS, pack_ofS s n h, strOfNums_bytesI]
end Go.Proofs.Ytnpghcikhpglkaa.Pu
namespace Go.Proofs.Ytnpghcikhpglkaa.Q
open Go.RowKit Go.Proofs.YtnpghcikhpglkaaW.PrintWords Go.Proofs.YtnpghcikhpglkaaW.PrintLast Go.Proofs.YtnpghcikhpglkaaW.PrintMore
theorem wrap_in (x : Int) (h0 : -9223372036854775808 ≤ x) (h1 : x < 9223372036854775808) : wrap64 x = x := by unfold wrap64; omega
end Go.Proofs.Ytnpghcikhpglkaa.Q
namespace Go.Proofs.Ytnpghcikhpglkaa.Q
open Go.RowKit Go.Proofs.YtnpghcikhpglkaaW.PrintWords Go.Proofs.YtnpghcikhpglkaaW.PrintLast Go.Proofs.YtnpghcikhpglkaaW.PrintMore Go.Proofs.Ytnpghcikhpglkaa.Hand Go.Proofs.Ytnpghcikhpglkaa.Pu
set_option linter.unusedVariables false
set_option linter.unusedSimpArgs false
theorem tdiv8 (x : Int) (h : 0 ≤ x) : Int.tdiv x 8 = x / 8 := Int.tdiv_eq_ediv_of_nonneg h
theorem tmod8 (x : Int) (h : 0 ≤ x) : Int.tmod x 8 = x % 8 := Int.tmod_eq_emod_of_nonneg h
theorem and255 (x : Int) (r : Int) (h0 : 0 ≤ x) (h1 : x < 256) (hr0 : 1 ≤ r) (hr : r < 8) : (Go.bits .and .u8 x (shr .u8 255 r) == 0) = decide (x % 2 ^ (8 - r).toNat = 0) := by
  have hs : shr .u8 255 r = 2 ^ (8 - r).toNat - 1 := by
    have : r = 1 ∨ r = 2 ∨ r = 3 ∨ r = 4 ∨ r = 5 ∨ r = 6 ∨ r = 7 := by omega
    rcases this with rfl | rfl | rfl | rfl | rfl | rfl | rfl <;> decide
  rw [hs, bits_mask .u8 8 (by decide) wraps_u8 (8 - r).toNat (by omega) x h0 (by omega)]
  by_cases h : x % 2 ^ (8 - r).toNat = 0
  · simp [h]
  · simp [h]
theorem may_eq (s : ByteArray) (n : Int) : bits_May.f s n = some (decide (MayP s n)) := by
  unfold bits_May.f
  by_cases h0 : n < 0
  · rw [if_pos h0, decide_eq_false (p := MayP s n) (fun h => by have := h.1; omega)]
  rw [if_neg h0]
  by_cases h1 : n > 6000
  · rw [if_pos h1, decide_eq_false (p := MayP s n) (fun h => by have := h.2.1; omega)]
  rw [if_neg h1]
  have hw : wrap64 (Int.tdiv (wrap64 ((wrap64 (n + 8)) - 1)) 8) = (n + 7) / 8 := by
    rw [wrap_in (n + 8) (by omega) (by omega), wrap_in (n + 8 - 1) (by omega) (by omega), tdiv8 _ (by omega), wrap_in _ (by omega) (by omega)]
    omega
  rw [hw]
  by_cases h2 : (s.size : Int) = (n + 7) / 8
  · rw [if_pos h2, tmod8 n (by omega)]
    by_cases h3 : n % 8 = 0
    · rw [if_pos h3]
      rw [decide_eq_true (p := MayP s n) ⟨by omega, by omega, h2, .inl h3⟩]
    · rw [if_neg h3, wrap_in _ (by omega) (by omega), if_pos (by omega), if_pos (by omega), if_pos (by omega)]
      obtain ⟨b0, b1⟩ := bt_range s ((s.size : Int) - 1)
      rw [and255 _ _ b0 (by omega) (by omega) (by omega)]
      congr 1
      rw [decide_eq_decide]
      constructor
      · intro h; exact ⟨by omega, by omega, h2, .inr h⟩
      · intro h; exact h.2.2.2.resolve_left h3
  · rw [if_neg h2, decide_eq_false (p := MayP s n) (fun h => h2 h.2.2.1)]
theorem bit_some (s : ByteArray) (n i : Int) (h0 : 0 ≤ i) (h1 : i < 8 * s.size) (h2 : i < 1073741824) : bits_bit.f s n i = some (bitOf s i) := by
  unfold bits_bit.f
  have e1 : wrap64 (Int.tdiv i 8) = i / 8 := by rw [tdiv8 i h0, wrap_in _ (by omega) (by omega)]
  have e2 : wrap64 (7 - Int.tmod i 8) = 7 - i % 8 := by rw [tmod8 i h0, wrap_in _ (by omega) (by omega)]
  rw [e1, e2, if_pos (by omega), if_pos (by omega), if_pos (by omega)]
  congr 1
  obtain ⟨b0, b1⟩ := bt_range s (i / 8)
  have hsh : shr .u8 (bt s (i / 8)) (7 - i % 8) = bt s (i / 8) / 2 ^ (7 - i % 8).toNat := by
    unfold shr
    rw [Nat.min_eq_left (by simp [IntKind.bits]; omega)]
  have hn := div_pow_nonneg (bt s (i / 8)) (7 - i % 8).toNat b0
  have hl := div_pow_le (bt s (i / 8)) (7 - i % 8).toNat b0
  rw [hsh, wrap_in _ (by omega) (by omega), and_one _ hn (by omega)]
  rfl
end Go.Proofs.Ytnpghcikhpglkaa.Q
namespace Go.Proofs.Ytnpghcikhpglkaa.Q
open Go.RowKit Go.Proofs.YtnpghcikhpglkaaW.PrintWords Go.Proofs.YtnpghcikhpglkaaW.PrintLast Go.Proofs.YtnpghcikhpglkaaW.PrintMore Go.Proofs.Ytnpghcikhpglkaa.Hand Go.Proofs.Ytnpghcikhpglkaa.Pu
set_option linter.unusedVariables false
set_option linter.unusedSimpArgs false
/-- bits.Put. -/
def bits_Put.f (s : ByteArray) (n v w : Int) : Option (ByteArray × Int × Int) :=
  if MayP s n ∧ 0 ≤ w ∧ w ≤ 30 ∧ 0 ≤ v ∧ v < 2 ^ w.toNat then
    (if n + w ≤ 6000 then some (packS (ofS s n ++ putL w.toNat v), n + w, 0) else some (⟨#[]⟩, 0, 2))
  else some (⟨#[]⟩, 0, 1)
theorem two_cells {w : World} {g t : Nat} {a b : Value} (h : w.heap[g]? = some (.cells #[a, b] t (0, 0))) :
    w.cell? ⟨g, 0, none⟩ = some a ∧ w.cell? ⟨g, 1, none⟩ = some b ∧ w.frozen? ⟨g, 0, none⟩ = false ∧ w.frozen? ⟨g, 1, none⟩ = false :=
  ⟨blk_cell h 0, blk_cell h 1, blk_frozen h 0, blk_frozen h 1⟩
theorem keep2 {w1 w2 : World} {B g : Nat} {o : Obj} (h : w1.heap[g]? = some o) (hb : Below B w1 w2) (hg : g < B) : w2.heap[g]? = some o := (hb.block g hg).trans h
theorem start2 (w : World) (o1 o2 : Obj) : ((w.alloc o1).alloc o2).heap[w.heap.size]? = some o1 ∧ ((w.alloc o1).alloc o2).heap[w.heap.size + 1]? = some o2 ∧ Below w.heap.size w ((w.alloc o1).alloc o2) ∧ w.heap.size + 1 < ((w.alloc o1).alloc o2).heap.size := by
  refine ⟨(Below.heap_alloc _ _ _ (by simp)).trans (heap_alloc_new w o1), ?_, ((Below.refl _ w).alloc (Nat.le_refl _) o1).alloc (by simp) o2, by simp⟩
  have := heap_alloc_new (w.alloc o1) o2
  simpa using this
/-- The result's variable is written whole. -/
theorem put2 {w : World} {g : Nat} {a b c d : Value} (h : w.heap[g]? = some (.cells #[a, b] 27 (0, 0))) : ((w.setCell ⟨g, 0, none⟩ c).setCell ⟨g, 1, none⟩ d).heap[g]? = some (.cells #[c, d] 27 (0, 0)) :=
  blk_put (cs := #[c, b]) (blk_put (cs := #[a, b]) h 0 _ rfl) 1 _ rfl
theorem below_put2 {B : Nat} {w0 w : World} (hb : Below B w0 w) {g : Nat} (hg : B ≤ g) (c d : Value) : Below B w0 ((w.setCell ⟨g, 0, none⟩ c).setCell ⟨g, 1, none⟩ d) :=
  (hb.setCell (p := ⟨g, 0, none⟩) hg c).setCell (p := ⟨g, 1, none⟩) hg d
set_option maxHeartbeats 4000000 in
set_option maxRecDepth 100000 in
theorem put_no (s : ByteArray) (n v k : Int) (w : World) (hm : ¬ MayP s n) :
    Calls Try.prog 24 #[.agg #[.string s, .int .i64 n], .int .i64 v, .int .i64 k] w fun e w' => e = .returned (.tuple #[.agg #[.string ⟨#[]⟩, .int .i64 0], .int .i64 1]) ∧ Below w.heap.size w w' := by
  have hu := Try.underlying27
  have A := Aside0.mk (show bits_May.f s n = some false by rw [may_eq, decide_eq_false hm])
  have HS := Aside0.mk (start2 w (.cells #[.string s, .int .i64 n] 27) (.cells #[.string ⟨#[]⟩, .int .i64 0] 27))
  clear hm
  go_enter Try.func24, Try.ntmps24
  go_wp2_with (first | ((with_reducible refine gate_callee (f := 86) rfl ?_); refine goesL_ (some 10) rfl rfl Try.func86 (by kernel_rfl) rfl #[.agg #[.string s, .int .i64 n]] rfl (by (try simp only [List.map_toArray, List.map_cons, List.map_nil]); first | done | rfl) ?_; (with_reducible refine (bits_May.calls s n false _ A.out).mono ?_); rintro e w1 ⟨rfl, hb⟩; refine ⟨_, rfl, ?_⟩; have HR := Aside0.mk (keep2 HS.out.2.1 hb HS.out.2.2.2); obtain ⟨c0, c1, f0, f1⟩ := two_cells HR.out; have HB := Aside0.mk (below_then HS.out.2.2.1 HS.out.2.2.1.size hb); clear hb))
  refine bodyPost_ret (results_list (rs := [.cell 6 27, .tmp 7]) rfl (by simp) (.cell (w.heap.size + 1) 27 #[.string ⟨#[]⟩, .int .i64 0] (0, 0) _ rfl (put2 HR.out) Try.underlying27 rfl (by kernel_rfl) (.tmp .nil))) rfl ⟨rfl, below_put2 HB.out (by omega) _ _⟩
theorem pow_le30 (k : Int) (h0 : 0 ≤ k) (h1 : k ≤ 30) : (0 : Int) < 2 ^ k.toNat ∧ (2 : Int) ^ k.toNat ≤ 1073741824 := by
  refine ⟨Int.pow_pos (by decide), ?_⟩
  have := Nat.pow_le_pow_right (n := 2) (by decide) (show k.toNat ≤ 30 by omega)
  have h2 : ((2 ^ k.toNat : Nat) : Int) ≤ ((2 ^ 30 : Nat) : Int) := by exact_mod_cast this
  simpa using h2
theorem wrap_pow (k : Int) (h0 : 0 ≤ k) (h1 : k ≤ 30) : wrap64 (2 ^ k.toNat) = 2 ^ k.toNat := by
  have := pow_le30 k h0 h1
  exact wrap_in _ (by omega) (by omega)
theorem rowPut_snd (k : Nat) : ∀ (s : List Int × Int) (v : Int), (rowPut k s v).2 = s.2 + k := by
  induction k with
  | zero => intro s v; simp [rowPut]
  | succ k ih => intro s v; rw [rowPut, ih, rowBit_snd]; omega
/-- Behind the row's making, filling, telling: what lay ahead lies there still. -/
theorem keep4 {w1 w2 w3 w4 : World} {g nd : Nat} {o : Obj} (h : w1.heap[g]? = some o) (hg : g < w1.heap.size) (h2 : Below (w1.drewN nd).heap.size (w1.drewN nd) w2) (h3 : Below (w1.drewN nd).heap.size w2 w3) (h4 : Below w3.heap.size w3 w4) : w4.heap[g]? = some o := by
  have e : (w1.drewN nd).heap[g]? = some o := h
  have hg' : g < (w1.drewN nd).heap.size := hg
  have e2 := keep2 e h2 hg'
  have e3 := keep2 e2 h3 hg'
  exact keep2 e3 h4 (blk_lt e3)
theorem below4 {w w1 w2 w3 w4 : World} {B nd : Nat} (h1 : Below B w w1) (hB : B ≤ w1.heap.size) (h2 : Below (w1.drewN nd).heap.size (w1.drewN nd) w2) (h3 : Below (w1.drewN nd).heap.size w2 w3) (h4 : Below w3.heap.size w3 w4) : Below B w w4 := by
  have hs : (w1.drewN nd).heap.size = w1.heap.size := rfl
  refine (pw_below_drewN h1 nd).trans ((h2.mono (by omega)).trans ((h3.mono (by omega)).trans (h4.mono ?_)))
  exact Nat.le_trans hB (Nat.le_trans (hs ▸ h2.size) h3.size)
theorem width_eq (k : Int) : bits_width.f k = some (decide (0 ≤ k ∧ k ≤ 30)) := by
  unfold bits_width.f
  by_cases h : k ≥ 0
  · rw [if_pos h]; simp; omega
  · rw [if_neg h]; simp; omega
set_option maxHeartbeats 4000000 in
set_option maxRecDepth 100000 in
theorem put_w (s : ByteArray) (n v k : Int) (w : World) (hm : MayP s n) (hk : ¬ (0 ≤ k ∧ k ≤ 30)) :
    Calls Try.prog 24 #[.agg #[.string s, .int .i64 n], .int .i64 v, .int .i64 k] w fun e w' => e = .returned (.tuple #[.agg #[.string ⟨#[]⟩, .int .i64 0], .int .i64 1]) ∧ Below w.heap.size w w' := by
  have hu := Try.underlying27
  have A := Aside0.mk (show bits_May.f s n = some true by rw [may_eq, decide_eq_true hm])
  have HS := Aside0.mk (start2 w (.cells #[.string s, .int .i64 n] 27) (.cells #[.string ⟨#[]⟩, .int .i64 0] 27))
  have WI := Aside0.mk (show bits_width.f k = some false by rw [width_eq, decide_eq_false hk])
  clear hk
  clear hm
  go_enter Try.func24, Try.ntmps24
  go_wp2_with (first | ((with_reducible refine gate_callee (f := 86) rfl ?_); refine goesL_ (some 10) rfl rfl Try.func86 (by kernel_rfl) rfl #[.agg #[.string s, .int .i64 n]] rfl (by (try simp only [List.map_toArray, List.map_cons, List.map_nil]); first | done | rfl) ?_; (with_reducible refine (bits_May.calls s n true _ A.out).mono ?_); rintro e w1 ⟨rfl, hb⟩; refine ⟨_, rfl, ?_⟩; have HA := Aside0.mk (keep2 HS.out.1 hb (Nat.lt_of_succ_lt HS.out.2.2.2)); have HR := Aside0.mk (keep2 HS.out.2.1 hb HS.out.2.2.2); obtain ⟨a0, a1, g0, g1⟩ := two_cells HA.out; obtain ⟨c0, c1, f0, f1⟩ := two_cells HR.out; have HB := Aside0.mk (below_then HS.out.2.2.1 HS.out.2.2.1.size hb); have HZ := Aside0.mk (Nat.lt_of_lt_of_le HS.out.2.2.2 hb.size); clear hb) | (go_at_call 87; (with_reducible refine (bits_width.calls k false _ WI.out).mono ?_); rintro e w' ⟨rfl, ⟨nd, rfl⟩⟩))
  refine bodyPost_ret (results_list (rs := [.cell 6 27, .tmp 7]) rfl (by simp) (.cell (w.heap.size + 1) 27 #[.string ⟨#[]⟩, .int .i64 0] (0, 0) _ rfl (put2 HR.out) Try.underlying27 rfl (by kernel_rfl) (.tmp .nil))) rfl ⟨rfl, below_put2 (pw_below_drewN HB.out _) (by omega) _ _⟩
set_option maxHeartbeats 4000000 in
set_option maxRecDepth 100000 in
theorem put_neg (s : ByteArray) (n v k : Int) (w : World) (hm : MayP s n) (hk : 0 ≤ k ∧ k ≤ 30) (hv : v < 0) :
    Calls Try.prog 24 #[.agg #[.string s, .int .i64 n], .int .i64 v, .int .i64 k] w fun e w' => e = .returned (.tuple #[.agg #[.string ⟨#[]⟩, .int .i64 0], .int .i64 1]) ∧ Below w.heap.size w w' := by
  have hu := Try.underlying27
  have A := Aside0.mk (show bits_May.f s n = some true by rw [may_eq, decide_eq_true hm])
  have HS := Aside0.mk (start2 w (.cells #[.string s, .int .i64 n] 27) (.cells #[.string ⟨#[]⟩, .int .i64 0] 27))
  have WI := Aside0.mk (show bits_width.f k = some true by rw [width_eq, decide_eq_true hk])
  clear hk
  clear hm
  go_enter Try.func24, Try.ntmps24
  go_wp2_with (first | ((with_reducible refine gate_callee (f := 86) rfl ?_); refine goesL_ (some 10) rfl rfl Try.func86 (by kernel_rfl) rfl #[.agg #[.string s, .int .i64 n]] rfl (by (try simp only [List.map_toArray, List.map_cons, List.map_nil]); first | done | rfl) ?_; (with_reducible refine (bits_May.calls s n true _ A.out).mono ?_); rintro e w1 ⟨rfl, hb⟩; refine ⟨_, rfl, ?_⟩; have HA := Aside0.mk (keep2 HS.out.1 hb (Nat.lt_of_succ_lt HS.out.2.2.2)); have HR := Aside0.mk (keep2 HS.out.2.1 hb HS.out.2.2.2); obtain ⟨a0, a1, g0, g1⟩ := two_cells HA.out; obtain ⟨c0, c1, f0, f1⟩ := two_cells HR.out; have HB := Aside0.mk (below_then HS.out.2.2.1 HS.out.2.2.1.size hb); have HZ := Aside0.mk (Nat.lt_of_lt_of_le HS.out.2.2.2 hb.size); clear hb) | (go_at_call 87; (with_reducible refine (bits_width.calls k true _ WI.out).mono ?_); rintro e w' ⟨rfl, ⟨nd, rfl⟩⟩))
  refine bodyPost_ret (results_list (rs := [.cell 6 27, .tmp 7]) rfl (by simp) (.cell (w.heap.size + 1) 27 #[.string ⟨#[]⟩, .int .i64 0] (0, 0) _ rfl (put2 HR.out) Try.underlying27 rfl (by kernel_rfl) (.tmp .nil))) rfl ⟨rfl, below_put2 (pw_below_drewN HB.out _) (by omega) _ _⟩
set_option maxHeartbeats 4000000 in
set_option maxRecDepth 100000 in
theorem put_big (s : ByteArray) (n v k : Int) (w : World) (hm : MayP s n) (hk : 0 ≤ k ∧ k ≤ 30) (hv : 0 ≤ v) (hv2 : 2 ^ k.toNat ≤ v) :
    Calls Try.prog 24 #[.agg #[.string s, .int .i64 n], .int .i64 v, .int .i64 k] w fun e w' => e = .returned (.tuple #[.agg #[.string ⟨#[]⟩, .int .i64 0], .int .i64 1]) ∧ Below w.heap.size w w' := by
  have hu := Try.underlying27
  have A := Aside0.mk (show bits_May.f s n = some true by rw [may_eq, decide_eq_true hm])
  have HS := Aside0.mk (start2 w (.cells #[.string s, .int .i64 n] 27) (.cells #[.string ⟨#[]⟩, .int .i64 0] 27))
  have WI := Aside0.mk (show bits_width.f k = some true by rw [width_eq, decide_eq_true hk])
  obtain ⟨hk0, hk1⟩ := hk
  have hw : wrap64 (2 ^ k.toNat) ≤ v := by rw [wrap_pow k hk0 hk1]; exact hv2
  clear hv2
  clear hm
  go_enter Try.func24, Try.ntmps24
  go_wp2_with (first | ((with_reducible refine gate_callee (f := 86) rfl ?_); refine goesL_ (some 10) rfl rfl Try.func86 (by kernel_rfl) rfl #[.agg #[.string s, .int .i64 n]] rfl (by (try simp only [List.map_toArray, List.map_cons, List.map_nil]); first | done | rfl) ?_; (with_reducible refine (bits_May.calls s n true _ A.out).mono ?_); rintro e w1 ⟨rfl, hb⟩; refine ⟨_, rfl, ?_⟩; have HA := Aside0.mk (keep2 HS.out.1 hb (Nat.lt_of_succ_lt HS.out.2.2.2)); have HR := Aside0.mk (keep2 HS.out.2.1 hb HS.out.2.2.2); obtain ⟨a0, a1, g0, g1⟩ := two_cells HA.out; obtain ⟨c0, c1, f0, f1⟩ := two_cells HR.out; have HB := Aside0.mk (below_then HS.out.2.2.1 HS.out.2.2.1.size hb); have HZ := Aside0.mk (Nat.lt_of_lt_of_le HS.out.2.2.2 hb.size); clear hb) | (go_at_call 87; (with_reducible refine (bits_width.calls k true _ WI.out).mono ?_); rintro e w' ⟨rfl, ⟨nd, rfl⟩⟩))
  refine bodyPost_ret (results_list (rs := [.cell 6 27, .tmp 7]) rfl (by simp) (.cell (w.heap.size + 1) 27 #[.string ⟨#[]⟩, .int .i64 0] (0, 0) _ rfl (put2 HR.out) Try.underlying27 rfl (by kernel_rfl) (.tmp .nil))) rfl ⟨rfl, below_put2 (pw_below_drewN HB.out _) (by omega) _ _⟩
set_option maxHeartbeats 4000000 in
set_option maxRecDepth 100000 in
theorem put_yes (s : ByteArray) (n v : Int) (k : Nat) (w : World) (hm : MayP s n) (hk : k ≤ 30) (hv : 0 ≤ v) (hv2 : v < 2 ^ k) (hn : n + k ≤ 6000) :
    Calls Try.prog 24 #[.agg #[.string s, .int .i64 n], .int .i64 v, .int .i64 k] w fun e w' => e = .returned (.tuple #[.agg #[.string (strOfNums (rowPut k (bytesI s, n) v).1), .int .i64 (n + k)], .int .i64 0]) ∧ Below w.heap.size w w' := by
  have hu := Try.underlying27
  have A := Aside0.mk (show bits_May.f s n = some true by rw [may_eq, decide_eq_true hm])
  have HS := Aside0.mk (start2 w (.cells #[.string s, .int .i64 n] 27) (.cells #[.string ⟨#[]⟩, .int .i64 0] 27))
  have WI := Aside0.mk (show bits_width.f (k : Int) = some true by rw [width_eq, decide_eq_true (by omega)])
  have hw : v < wrap64 (2 ^ k) := by have := wrap_pow (k : Int) (by omega) (by omega); rw [Int.toNat_natCast] at this; rw [this]; exact hv2
  have hk0 : (k : Int) ≤ 30 := by omega
  have hsz : s.size ≤ 1073741824 := by have := hm.2.2.1; have := hm.2.1; omega
  have hn0 : 0 ≤ n := hm.1
  have hn6 : n ≤ 6000 := hm.2.1
  have HSZ := Aside0.mk hm.2.2.1
  have HLE := Aside0.mk (show (rowPut k (bytesI s, n) v).2 ≤ 6000 by rw [rowPut_snd]; exact hn)
  clear hm hv2
  go_enter Try.func24, Try.ntmps24
  go_wp2_with (first | ((with_reducible refine gate_callee (f := 86) rfl ?_); refine goesL_ (some 10) rfl rfl Try.func86 (by kernel_rfl) rfl #[.agg #[.string s, .int .i64 n]] rfl (by (try simp only [List.map_toArray, List.map_cons, List.map_nil]); first | done | rfl) ?_; (with_reducible refine (bits_May.calls s n true _ A.out).mono ?_); rintro e w1 ⟨rfl, hb⟩; refine ⟨_, rfl, ?_⟩; have HA := Aside0.mk (keep2 HS.out.1 hb (Nat.lt_of_succ_lt HS.out.2.2.2)); have HR := Aside0.mk (keep2 HS.out.2.1 hb HS.out.2.2.2); obtain ⟨a0, a1, g0, g1⟩ := two_cells HA.out; obtain ⟨c0, c1, f0, f1⟩ := two_cells HR.out; have HB := Aside0.mk (below_then HS.out.2.2.1 HS.out.2.2.1.size hb); have HZ := Aside0.mk (Nat.lt_of_lt_of_le HS.out.2.2.2 hb.size); clear hb) | (go_at_call 87; (with_reducible refine (bits_width.calls k true _ WI.out).mono ?_); rintro e w' ⟨rfl, ⟨nd, rfl⟩⟩) | (go_at_call 88; ((with_reducible refine (from_ _ s n hsz).mono ?_); rintro e w2 ⟨p, rfl, hrow, hb2⟩); have HROW := Aside0.mk hrow; have HB2 := Aside0.mk hb2; clear hrow hb2) | (go_at_call 89; ((with_reducible refine (row_put _ _ p (bytesI s) n v k HROW.out hn0 (by rw [bytesI_length]; exact HSZ.out) (by omega) HB2.out.size).mono ?_); rintro e w3 ⟨rfl, hrow3, hb3⟩); have HROW3 := Aside0.mk hrow3; have HB3 := Aside0.mk hb3; clear hrow3 hb3))
  go_wp2_with (first | (go_at_call 90; ((with_reducible refine (row_bits_yes _ _ p _ _ HROW3.out HLE.out).mono ?_); rintro e w4 ⟨rfl, hb4⟩); have HR4 := Aside0.mk (keep4 HR.out HZ.out HB2.out HB3.out hb4); obtain ⟨d0, d1, e0, e1⟩ := two_cells HR4.out; have HB4 := Aside0.mk (below4 HB.out (by have := HZ.out; omega) HB2.out HB3.out hb4); clear hb4))
  refine bodyPost_ret (results_list (rs := [.cell 6 27, .tmp 7]) rfl (by simp) (.cell (w.heap.size + 1) 27 #[.string (strOfNums (rowPut k (bytesI s, n) v).1), .int .i64 (rowPut k (bytesI s, n) v).2] (0, 0) _ rfl (put2 HR4.out) Try.underlying27 rfl (by kernel_rfl) (.tmp .nil))) rfl ⟨by rw [rowPut_snd]; rfl, below_put2 HB4.out (by omega) _ _⟩
set_option maxHeartbeats 4000000 in
set_option maxRecDepth 100000 in
theorem put_full (s : ByteArray) (n v : Int) (k : Nat) (w : World) (hm : MayP s n) (hk : k ≤ 30) (hv : 0 ≤ v) (hv2 : v < 2 ^ k) (hn : 6000 < n + k) :
    Calls Try.prog 24 #[.agg #[.string s, .int .i64 n], .int .i64 v, .int .i64 k] w fun e w' => e = .returned (.tuple #[.agg #[.string ⟨#[]⟩, .int .i64 0], .int .i64 2]) ∧ Below w.heap.size w w' := by
  have hu := Try.underlying27
  have A := Aside0.mk (show bits_May.f s n = some true by rw [may_eq, decide_eq_true hm])
  have HS := Aside0.mk (start2 w (.cells #[.string s, .int .i64 n] 27) (.cells #[.string ⟨#[]⟩, .int .i64 0] 27))
  have WI := Aside0.mk (show bits_width.f (k : Int) = some true by rw [width_eq, decide_eq_true (by omega)])
  have hw : v < wrap64 (2 ^ k) := by have := wrap_pow (k : Int) (by omega) (by omega); rw [Int.toNat_natCast] at this; rw [this]; exact hv2
  have hk0 : (k : Int) ≤ 30 := by omega
  have hsz : s.size ≤ 1073741824 := by have := hm.2.2.1; have := hm.2.1; omega
  have hn0 : 0 ≤ n := hm.1
  have hn6 : n ≤ 6000 := hm.2.1
  have HSZ := Aside0.mk hm.2.2.1
  have HLE := Aside0.mk (show 6000 < (rowPut k (bytesI s, n) v).2 by rw [rowPut_snd]; exact hn)
  clear hm hv2
  go_enter Try.func24, Try.ntmps24
  go_wp2_with (first | ((with_reducible refine gate_callee (f := 86) rfl ?_); refine goesL_ (some 10) rfl rfl Try.func86 (by kernel_rfl) rfl #[.agg #[.string s, .int .i64 n]] rfl (by (try simp only [List.map_toArray, List.map_cons, List.map_nil]); first | done | rfl) ?_; (with_reducible refine (bits_May.calls s n true _ A.out).mono ?_); rintro e w1 ⟨rfl, hb⟩; refine ⟨_, rfl, ?_⟩; have HA := Aside0.mk (keep2 HS.out.1 hb (Nat.lt_of_succ_lt HS.out.2.2.2)); have HR := Aside0.mk (keep2 HS.out.2.1 hb HS.out.2.2.2); obtain ⟨a0, a1, g0, g1⟩ := two_cells HA.out; obtain ⟨c0, c1, f0, f1⟩ := two_cells HR.out; have HB := Aside0.mk (below_then HS.out.2.2.1 HS.out.2.2.1.size hb); have HZ := Aside0.mk (Nat.lt_of_lt_of_le HS.out.2.2.2 hb.size); clear hb) | (go_at_call 87; (with_reducible refine (bits_width.calls k true _ WI.out).mono ?_); rintro e w' ⟨rfl, ⟨nd, rfl⟩⟩) | (go_at_call 88; ((with_reducible refine (from_ _ s n hsz).mono ?_); rintro e w2 ⟨p, rfl, hrow, hb2⟩); have HROW := Aside0.mk hrow; have HB2 := Aside0.mk hb2; clear hrow hb2) | (go_at_call 89; ((with_reducible refine (row_put _ _ p (bytesI s) n v k HROW.out hn0 (by rw [bytesI_length]; exact HSZ.out) (by omega) HB2.out.size).mono ?_); rintro e w3 ⟨rfl, hrow3, hb3⟩); have HROW3 := Aside0.mk hrow3; have HB3 := Aside0.mk hb3; clear hrow3 hb3))
  go_wp2_with (first | (go_at_call 90; ((with_reducible refine (row_bits_no _ _ p _ _ HROW3.out HLE.out).mono ?_); rintro e w4 ⟨rfl, hb4⟩); have HR4 := Aside0.mk (keep4 HR.out HZ.out HB2.out HB3.out hb4); obtain ⟨d0, d1, e0, e1⟩ := two_cells HR4.out; have HB4 := Aside0.mk (below4 HB.out (by have := HZ.out; omega) HB2.out HB3.out hb4); clear hb4))
  refine bodyPost_ret (results_list (rs := [.cell 6 27, .tmp 7]) rfl (by simp) (.cell (w.heap.size + 1) 27 #[.string ⟨#[]⟩, .int .i64 0] (0, 0) _ rfl (put2 HR4.out) Try.underlying27 rfl (by kernel_rfl) (.tmp .nil))) rfl ⟨rfl, below_put2 HB4.out (by omega) _ _⟩
set_option maxRecDepth 100000 in
theorem bits_Put.calls (a0_0 : ByteArray) (a0_1 a1 a2 : Int) (r1 : ByteArray) (r2 r3 : Int) (w : World) (h : bits_Put.f a0_0 a0_1 a1 a2 = some (r1, r2, r3)) :
    Calls Try.prog 24 #[.agg #[.string a0_0, .int .i64 a0_1], .int .i64 a1, .int .i64 a2] w fun e w' => e = .returned (.tuple #[.agg #[.string r1, .int .i64 r2], .int .i64 r3]) ∧ Below w.heap.size w w' := by
  unfold bits_Put.f at h
  by_cases hm : MayP a0_0 a0_1
  · by_cases hk : 0 ≤ a2 ∧ a2 ≤ 30
    · by_cases hv : 0 ≤ a1
      · by_cases hv2 : a1 < 2 ^ a2.toNat
        · rw [if_pos ⟨hm, hk.1, hk.2, hv, hv2⟩] at h
          obtain ⟨k, rfl⟩ := Int.eq_ofNat_of_zero_le hk.1
          rw [Int.toNat_natCast] at hv2 h
          by_cases hn : a0_1 + k ≤ 6000
          · rw [if_pos hn] at h
            simp only [Option.some.injEq, Prod.mk.injEq] at h
            obtain ⟨rfl, rfl, rfl⟩ := h
            have e := put_yes a0_0 a0_1 a1 k w hm (by omega) hv hv2 hn
            have hp := rowPut_pack k a1 hv (by have := pow_le30 (k : Int) (by omega) (by omega); rw [Int.toNat_natCast] at this; omega) (ofS a0_0 a0_1) (ofS_bits _ _)
            rw [pack_ofS _ _ hm, ofS_length, Int.toNat_of_nonneg hm.1] at hp
            rw [hp] at e
            exact e
          · rw [if_neg hn] at h
            simp only [Option.some.injEq, Prod.mk.injEq] at h
            obtain ⟨rfl, rfl, rfl⟩ := h
            exact put_full a0_0 a0_1 a1 k w hm (by omega) hv hv2 (by omega)
        · rw [if_neg (fun h => hv2 h.2.2.2.2)] at h
          simp only [Option.some.injEq, Prod.mk.injEq] at h
          obtain ⟨rfl, rfl, rfl⟩ := h
          exact put_big a0_0 a0_1 a1 a2 w hm hk hv (by omega)
      · rw [if_neg (fun h => hv h.2.2.2.1)] at h
        simp only [Option.some.injEq, Prod.mk.injEq] at h
        obtain ⟨rfl, rfl, rfl⟩ := h
        exact put_neg a0_0 a0_1 a1 a2 w hm hk (by omega)
    · rw [if_neg (fun h => hk ⟨h.2.1, h.2.2.1⟩)] at h
      simp only [Option.some.injEq, Prod.mk.injEq] at h
      obtain ⟨rfl, rfl, rfl⟩ := h
      exact put_w a0_0 a0_1 a1 a2 w hm hk
  · rw [if_neg (fun h => hm h.1)] at h
    simp only [Option.some.injEq, Prod.mk.injEq] at h
    obtain ⟨rfl, rfl, rfl⟩ := h
    exact put_no a0_0 a0_1 a1 a2 w hm
end Go.Proofs.Ytnpghcikhpglkaa.Q
namespace Go.Proofs
open Go.Shelf
def Try.lays128_ren : Go.Shelf.Ren := ⟨fun | 128 => 128 | n => n, fun | 51 => 128 | 3 => 3 | 4 => 4 | 46 => 108 | 5 => 5 | 9 => 9 | n => n, fun | n => n⟩
theorem Try.lays128 : Go.Proofs.Lays.n128 Try.prog Try.lays128_ren := {
  mixed := by kernel_rfl
  f128 := Try.func128.trans (congrArg some (by kernel_rfl))
  t3 := Try.underlying3
  a3 := Try.isAgg3
  z3 := Try.sizeOf3
  v3 := Try.zeroValue3
  t4 := Try.underlying4
  a4 := Try.isAgg4
  z4 := Try.sizeOf4
  v4 := Try.zeroValue4
  t5 := Try.underlying5
  a5 := Try.isAgg5
  z5 := Try.sizeOf5
  v5 := Try.zeroValue5
  t9 := Try.underlying9
  a9 := Try.isAgg9
  z9 := Try.sizeOf9
  v9 := Try.zeroValue9
  t46 := Try.underlying108
  a46 := Try.isAgg108
  z46 := Try.sizeOf108
  v46 := Try.zeroValue108
  t51 := Try.underlying128
  a51 := Try.isAgg128
  z51 := Try.sizeOf128
  v51 := Try.zeroValue128 }
/-- bits.Len32: "Len32 returns the minimum number of bits required to represent x; the result is 0 for x == 0.": IT RETURNS 'Lib.bitLen x'; the world is as it was. ('h0', 'h1': x is a uint32.) (LAID: no walk: one application.) -/
theorem Try.bits_Len32 (x : Int) (w : World) (h0 : 0 ≤ x) (h1 : x ≤ 4294967295) :
    Calls Try.prog 128 #[.int .u32 x] w fun e w' => e = .returned (.int .i64 (Lib.bitLen x.toNat)) ∧ w' = w := Any.bits_Len32 Try.lays128 x w h0 h1
def Try.lays125_ren : Go.Shelf.Ren := ⟨fun | 125 => 125 | 128 => 128 | 129 => 129 | n => n, fun | 46 => 108 | 3 => 3 | 51 => 128 | 53 => 130 | 4 => 4 | 5 => 5 | 9 => 9 | n => n, fun | n => n⟩
theorem Try.lays125 : Go.Proofs.Lays.n125 Try.prog Try.lays125_ren := {
  mixed := by kernel_rfl
  f125 := Try.func125.trans (congrArg some (by kernel_rfl))
  f128 := Try.func128.trans (congrArg some (by kernel_rfl))
  f129 := Try.func129.trans (congrArg some (by kernel_rfl))
  t3 := Try.underlying3
  a3 := Try.isAgg3
  z3 := Try.sizeOf3
  v3 := Try.zeroValue3
  t4 := Try.underlying4
  a4 := Try.isAgg4
  z4 := Try.sizeOf4
  v4 := Try.zeroValue4
  t5 := Try.underlying5
  a5 := Try.isAgg5
  z5 := Try.sizeOf5
  v5 := Try.zeroValue5
  t9 := Try.underlying9
  a9 := Try.isAgg9
  z9 := Try.sizeOf9
  v9 := Try.zeroValue9
  t46 := Try.underlying108
  a46 := Try.isAgg108
  z46 := Try.sizeOf108
  v46 := Try.zeroValue108
  t51 := Try.underlying128
  a51 := Try.isAgg128
  z51 := Try.sizeOf128
  v51 := Try.zeroValue128
  t53 := Try.underlying130
  a53 := Try.isAgg130
  z53 := Try.sizeOf130
  v53 := Try.zeroValue130 }
/-- bits.Len: "Len returns the minimum number of bits required to represent x; the result is 0 for x == 0.": IT RETURNS 'Lib.bitLen x'; the world is as it was. (A uint has 64 bits in the model.) ITS CALLEE bits.Len64 IS MET BY ITS OWN CONTRACT OFF THE SHELF (lay that first). (LAID: no walk: one application.) -/
theorem Try.bits_Len (x : Int) (w : World) (h0 : 0 ≤ x) (h1 : x ≤ 18446744073709551615) :
    Calls Try.prog 125 #[.int .u64 x] w fun e w' => e = .returned (.int .i64 (Lib.bitLen x.toNat)) ∧ w' = w := Any.bits_Len Try.lays125 x w h0 h1
def Try.lays129_ren : Go.Shelf.Ren := ⟨fun | 129 => 129 | n => n, fun | 53 => 130 | 3 => 3 | 4 => 4 | 46 => 108 | 5 => 5 | 9 => 9 | n => n, fun | n => n⟩
theorem Try.lays129 : Go.Proofs.Lays.n129 Try.prog Try.lays129_ren := {
  mixed := by kernel_rfl
  f129 := Try.func129.trans (congrArg some (by kernel_rfl))
  t3 := Try.underlying3
  a3 := Try.isAgg3
  z3 := Try.sizeOf3
  v3 := Try.zeroValue3
  t4 := Try.underlying4
  a4 := Try.isAgg4
  z4 := Try.sizeOf4
  v4 := Try.zeroValue4
  t5 := Try.underlying5
  a5 := Try.isAgg5
  z5 := Try.sizeOf5
  v5 := Try.zeroValue5
  t9 := Try.underlying9
  a9 := Try.isAgg9
  z9 := Try.sizeOf9
  v9 := Try.zeroValue9
  t46 := Try.underlying108
  a46 := Try.isAgg108
  z46 := Try.sizeOf108
  v46 := Try.zeroValue108
  t53 := Try.underlying130
  a53 := Try.isAgg130
  z53 := Try.sizeOf130
  v53 := Try.zeroValue130 }
/-- bits.Len64: "Len64 returns the minimum number of bits required to represent x; the result is 0 for x == 0.": IT RETURNS 'Lib.bitLen x'; the world is as it was. ('h0', 'h1': x is a uint64.) (LAID: no walk: one application.) -/
theorem Try.bits_Len64 (x : Int) (w : World) (h0 : 0 ≤ x) (h1 : x ≤ 18446744073709551615) :
    Calls Try.prog 129 #[.int .u64 x] w fun e w' => e = .returned (.int .i64 (Lib.bitLen x.toNat)) ∧ w' = w := Any.bits_Len64 Try.lays129 x w h0 h1
end Go.Proofs
namespace Go.Proofs.Ytnpghcikhpglkaa.Q
open Go.RowKit Go.Proofs.YtnpghcikhpglkaaW.PrintWords
def bits_Len.f (a0 : Int) : Option (Int) := if 0 ≤ a0 ∧ a0 ≤ 18446744073709551615 then some (Lib.bitLen a0.toNat) else none
theorem bits_Len.calls (a0 : Int) (r : Int) (w : World) (h : bits_Len.f a0 = some r) :
    Calls Try.prog 125 #[.int .u64 a0] w fun e w' => e = .returned (.int .i64 r) ∧ Drawn0 w w' := by
  unfold bits_Len.f at h
  split at h
  · rename_i hc
    obtain rfl := Option.some.inj h
    exact (Try.bits_Len a0 w hc.1 hc.2).mono fun e w' ⟨h1, h2⟩ => ⟨h1, h2 ▸ Drawn0.refl w⟩
  · cases h
end Go.Proofs.Ytnpghcikhpglkaa.Q
namespace Go.Proofs.Ytnpghcikhpglkaa.Q
open Go.RowKit Go.Proofs.YtnpghcikhpglkaaW.PrintWords Go.Proofs.YtnpghcikhpglkaaW.PrintLast Go.Proofs.YtnpghcikhpglkaaW.PrintMore
attribute [local go_sem] max2_int min2_int max_two min_two max_three min_three max_four min_four   -- for this text's walks alone
set_option linter.unusedVariables false
set_option linter.unusedSimpArgs false

/-! ### code_zeta: function 119 -/
def code_zeta.f (a0 : Int) (a1 : Int) : Option (Int × Int × Int × Int) := if 0 ≤ (wrap64 (a1 * a0)) then (if 0 ≤ a0 then ((bits_Len.f (IntKind.u64.wrap (wrap64 ((wrap64 ((shl .i64 (shl .i64 1 (wrap64 (a1 * a0))) a0) - (shl .i64 1 (wrap64 (a1 * a0))))) - 1)))).bind fun t778 => (if 0 ≤ t778 then (some (shl .i64 1 (wrap64 (a1 * a0)), wrap64 ((shl .i64 (shl .i64 1 (wrap64 (a1 * a0))) a0) - (shl .i64 1 (wrap64 (a1 * a0)))), t778, wrap64 ((shl .i64 1 t778) - (wrap64 ((shl .i64 (shl .i64 1 (wrap64 (a1 * a0))) a0) - (shl .i64 1 (wrap64 (a1 * a0)))))))) else (none))) else (none)) else (none)
set_option maxHeartbeats 8000000 in
set_option maxRecDepth 100000 in
theorem code_zeta.calls (a0 : Int) (a1 : Int) (r1 : Int) (r2 : Int) (r3 : Int) (r4 : Int) (w : World) (h : code_zeta.f a0 a1 = some (r1, r2, r3, r4)) :
  Calls Try.prog 119 #[.int .i64 a0, .int .i64 a1] w fun e w' => e = .returned (.tuple #[.int .i64 r1, .int .i64 r2, .int .i64 r3, .int .i64 r4]) ∧ Drawn0 w w' := by
 have H : (if 0 ≤ (wrap64 (a1 * a0)) then (if 0 ≤ a0 then ((bits_Len.f (IntKind.u64.wrap (wrap64 ((wrap64 ((shl .i64 (shl .i64 1 (wrap64 (a1 * a0))) a0) - (shl .i64 1 (wrap64 (a1 * a0))))) - 1)))).bind fun t778 => (if 0 ≤ t778 then (some (shl .i64 1 (wrap64 (a1 * a0)), wrap64 ((shl .i64 (shl .i64 1 (wrap64 (a1 * a0))) a0) - (shl .i64 1 (wrap64 (a1 * a0)))), t778, wrap64 ((shl .i64 1 t778) - (wrap64 ((shl .i64 (shl .i64 1 (wrap64 (a1 * a0))) a0) - (shl .i64 1 (wrap64 (a1 * a0)))))))) else (none))) else (none)) else (none)) = some (r1, r2, r3, r4) := h
 clear h
 obtain ⟨ji3, hji3⟩ : ∃ j_ : Int, (wrap64 (a1 * a0)) = j_ := ⟨_, rfl⟩
 replace H : (if 0 ≤ (ji3) then (if 0 ≤ a0 then ((bits_Len.f (IntKind.u64.wrap (wrap64 ((wrap64 ((shl .i64 (shl .i64 1 (ji3)) a0) - (shl .i64 1 (ji3)))) - 1)))).bind fun t778 => (if 0 ≤ t778 then (some (shl .i64 1 (ji3), wrap64 ((shl .i64 (shl .i64 1 (ji3)) a0) - (shl .i64 1 (ji3))), t778, wrap64 ((shl .i64 1 t778) - (wrap64 ((shl .i64 (shl .i64 1 (ji3)) a0) - (shl .i64 1 (ji3))))))) else (none))) else (none)) else (none)) = some (r1, r2, r3, r4) := by first | (rw [hji3] at H; exact H) | (simp only [hji3] at H ⊢; exact H)
 have hji3w : (IntKind.i64.wrap (a1 * a0)) = ji3 := (i64_w _).trans hji3
 by_cases c4 : 0 ≤ (ji3)
 ·
  rw [if_pos c4] at H
  have c4b0 := eq_true c4
  have c4b1 : decide (0 ≤ (ji3)) = true := decide_eq_true c4
  clear c4
  obtain ⟨ji5, hji5⟩ : ∃ j_ : Int, (shl .i64 1 (ji3)) = j_ := ⟨_, rfl⟩
  replace H : (if 0 ≤ a0 then ((bits_Len.f (IntKind.u64.wrap (wrap64 ((wrap64 ((shl .i64 (ji5) a0) - (ji5))) - 1)))).bind fun t778 => (if 0 ≤ t778 then (some (ji5, wrap64 ((shl .i64 (ji5) a0) - (ji5)), t778, wrap64 ((shl .i64 1 t778) - (wrap64 ((shl .i64 (ji5) a0) - (ji5)))))) else (none))) else (none)) = some (r1, r2, r3, r4) := by first | (rw [hji5] at H; exact H) | (simp only [hji5] at H ⊢; exact H)
  have hji5_ : (IntKind.i64.wrap (1 * 2 ^ min (ji3).toNat 64)) = ji5 := hji5
  have hji5z : (ji3) ≤ 64 → (IntKind.i64.wrap (1 * 2 ^ (ji3).toNat)) = ji5 := shl_small hji5
  have hji5u : (IntKind.i64.wrap (2 ^ min (ji3).toNat 64)) = ji5 := by have h_ := hji5_; rw [Int.one_mul] at h_; exact h_
  have hji5v : (ji3) ≤ 64 → (IntKind.i64.wrap (2 ^ (ji3).toNat)) = ji5 := fun hle_ => by have h_ := hji5z hle_; rw [Int.one_mul] at h_; exact h_
  have hji5y : (wrap64 (1 * 2 ^ min (ji3).toNat 64)) = ji5 := (i64_w _).symm.trans hji5_
  have hji5x : (ji3) ≤ 64 → (wrap64 (1 * 2 ^ (ji3).toNat)) = ji5 := fun h_ => (i64_w _).symm.trans (hji5z h_)
  by_cases c6 : 0 ≤ a0
  ·
   rw [if_pos c6] at H
   have c6b0 := eq_true c6
   have c6b1 : decide (0 ≤ a0) = true := decide_eq_true c6
   clear c6
   obtain ⟨ji7, hji7⟩ : ∃ j_ : Int, (shl .i64 (ji5) a0) = j_ := ⟨_, rfl⟩
   replace H : ((bits_Len.f (IntKind.u64.wrap (wrap64 ((wrap64 ((ji7) - (ji5))) - 1)))).bind fun t778 => (if 0 ≤ t778 then (some (ji5, wrap64 ((ji7) - (ji5)), t778, wrap64 ((shl .i64 1 t778) - (wrap64 ((ji7) - (ji5)))))) else (none))) = some (r1, r2, r3, r4) := by first | (rw [hji7] at H; exact H) | (simp only [hji7] at H ⊢; exact H)
   have hji7_ : (IntKind.i64.wrap ((ji5) * 2 ^ min a0.toNat 64)) = ji7 := hji7
   have hji7z : a0 ≤ 64 → (IntKind.i64.wrap ((ji5) * 2 ^ a0.toNat)) = ji7 := shl_small hji7
   have hji7y : (wrap64 ((ji5) * 2 ^ min a0.toNat 64)) = ji7 := (i64_w _).symm.trans hji7_
   have hji7x : a0 ≤ 64 → (wrap64 ((ji5) * 2 ^ a0.toNat)) = ji7 := fun h_ => (i64_w _).symm.trans (hji7z h_)
   replace H := Option.bind_eq_some_iff.mp H
   obtain ⟨t778, A80, H⟩ := H
   replace H : (if 0 ≤ t778 then (some (ji5, wrap64 ((ji7) - (ji5)), t778, wrap64 ((shl .i64 1 t778) - (wrap64 ((ji7) - (ji5)))))) else (none)) = some (r1, r2, r3, r4) := H
   have A8 := Aside0.mk A80
   clear A80
   by_cases c9 : 0 ≤ t778
   ·
    rw [if_pos c9] at H
    have c9b0 := eq_true c9
    have c9b1 : decide (0 ≤ t778) = true := decide_eq_true c9
    clear c9
    obtain ⟨ji10, hji10⟩ : ∃ j_ : Int, (shl .i64 1 t778) = j_ := ⟨_, rfl⟩
    replace H : (some (ji5, wrap64 ((ji7) - (ji5)), t778, wrap64 ((ji10) - (wrap64 ((ji7) - (ji5)))))) = some (r1, r2, r3, r4) := by first | (rw [hji10] at H; exact H) | (simp only [hji10] at H ⊢; exact H)
    (try rw [hji10] at A8)
    have hji10_ : (IntKind.i64.wrap (1 * 2 ^ min t778.toNat 64)) = ji10 := hji10
    have hji10z : t778 ≤ 64 → (IntKind.i64.wrap (1 * 2 ^ t778.toNat)) = ji10 := shl_small hji10
    have hji10u : (IntKind.i64.wrap (2 ^ min t778.toNat 64)) = ji10 := by have h_ := hji10_; rw [Int.one_mul] at h_; exact h_
    have hji10v : t778 ≤ 64 → (IntKind.i64.wrap (2 ^ t778.toNat)) = ji10 := fun hle_ => by have h_ := hji10z hle_; rw [Int.one_mul] at h_; exact h_
    have hji10y : (wrap64 (1 * 2 ^ min t778.toNat 64)) = ji10 := (i64_w _).symm.trans hji10_
    have hji10x : t778 ≤ 64 → (wrap64 (1 * 2 ^ t778.toNat)) = ji10 := fun h_ => (i64_w _).symm.trans (hji10z h_)
    simp only [Option.some.injEq, Prod.mk.injEq] at H
    obtain ⟨rfl, rfl, rfl, rfl⟩ := H
    go_enter Try.func119, Try.ntmps119
    go_wp2_with (first | (go_at_call 125; (with_reducible refine (bits_Len.calls (IntKind.u64.wrap (wrap64 ((wrap64 ((ji7) - (ji5))) - 1))) t778 _ A8.out).mono ?_); rintro e w' ⟨rfl, ⟨nd, rfl⟩⟩; (try first | exact ⟨rfl, _, World.drewN_drewN _ _ _⟩ | exact ⟨rfl, _, Eq.trans (World.drewN_drewN _ _ _) (congrArg (World.drewN _) (Nat.add_assoc _ _ _))⟩)))
    repeat (go_quiet (first | (go_at_call 125; (with_reducible refine (bits_Len.calls (IntKind.u64.wrap (wrap64 ((wrap64 ((ji7) - (ji5))) - 1))) t778 _ A8.out).mono ?_); rintro e w' ⟨rfl, ⟨nd, rfl⟩⟩; (try first | exact ⟨rfl, _, World.drewN_drewN _ _ _⟩ | exact ⟨rfl, _, Eq.trans (World.drewN_drewN _ _ _) (congrArg (World.drewN _) (Nat.add_assoc _ _ _))⟩))); try go_wp2_with (first | (go_at_call 125; (with_reducible refine (bits_Len.calls (IntKind.u64.wrap (wrap64 ((wrap64 ((ji7) - (ji5))) - 1))) t778 _ A8.out).mono ?_); rintro e w' ⟨rfl, ⟨nd, rfl⟩⟩; (try first | exact ⟨rfl, _, World.drewN_drewN _ _ _⟩ | exact ⟨rfl, _, Eq.trans (World.drewN_drewN _ _ _) (congrArg (World.drewN _) (Nat.add_assoc _ _ _))⟩))))
    refine bodyPost_ret (results_list (rs := [.tmp 4, .tmp 5, .tmp 6, .tmp 7]) rfl (by simp) (.tmp (.tmp (.tmp (.tmp .nil))))) rfl ?_
    exact ⟨by first | rfl | (simp; done) | (simp only [← hji3, ← hji5, ← hji7, ← hji10] <;> (first | rfl | simp)) | (simp [*]; done), by repeat (first | exact Drawn0.refl _ | apply Drawn0.step)⟩
   ·
    rw [if_neg c9] at H
    exact absurd H (by simp)
  ·
   rw [if_neg c6] at H
   exact absurd H (by simp)
 ·
  rw [if_neg c4] at H
  exact absurd H (by simp)
end Go.Proofs.Ytnpghcikhpglkaa.Q
namespace Go.Proofs.Ytnpghcikhpglkaa.Q
open Go.RowKit Go.Proofs.YtnpghcikhpglkaaW.PrintWords Go.Proofs.YtnpghcikhpglkaaW.PrintLast Go.Proofs.YtnpghcikhpglkaaW.PrintMore Go.Proofs.Ytnpghcikhpglkaa.Hand Go.Proofs.Ytnpghcikhpglkaa.Pu
set_option linter.unusedVariables false
set_option linter.unusedSimpArgs false
/-- A reader's block. -/
def ReadIs (W : World) (p : Nat) (s : ByteArray) (n at_ : Int) (bad : Bool) : Prop := W.heap[p]? = some (.cells #[.string s, .int .i64 n, .int .i64 at_, .bool bad] 125 (0, 0))
theorem four_cells {w : World} {g t : Nat} {a b c d : Value} (h : w.heap[g]? = some (.cells #[a, b, c, d] t (0, 0))) :
    w.cell? ⟨g, 0, none⟩ = some a ∧ w.cell? ⟨g, 1, none⟩ = some b ∧ w.cell? ⟨g, 2, none⟩ = some c ∧ w.cell? ⟨g, 3, none⟩ = some d ∧ w.frozen? ⟨g, 0, none⟩ = false ∧ w.frozen? ⟨g, 1, none⟩ = false ∧ w.frozen? ⟨g, 2, none⟩ = false ∧ w.frozen? ⟨g, 3, none⟩ = false :=
  ⟨blk_cell h 0, blk_cell h 1, blk_cell h 2, blk_cell h 3, blk_frozen h 0, blk_frozen h 1, blk_frozen h 2, blk_frozen h 3⟩
theorem read_bad {w : World} {p : Nat} {s : ByteArray} {n a : Int} {b : Bool} (h : ReadIs w p s n a b) : ReadIs (w.setCell ⟨p, 3, none⟩ (.bool true)) p s n a true :=
  blk_put (cs := #[.string s, .int .i64 n, .int .i64 a, .bool b]) h 3 _ rfl
theorem read_at {w : World} {p : Nat} {s : ByteArray} {n a : Int} {b : Bool} (h : ReadIs w p s n a b) (c : Int) : ReadIs (w.setCell ⟨p, 2, none⟩ (.int .i64 c)) p s n c b :=
  blk_put (cs := #[.string s, .int .i64 n, .int .i64 a, .bool b]) h 2 _ rfl
theorem keepD {W w3 : World} {p : Nat} {s : ByteArray} {n a : Int} {b : Bool} (h : ReadIs W p s n a b) (hb : Below W.drew.heap.size W.drew w3) : ReadIs w3 p s n a b := keep2 (w1 := W.drew) h hb (blk_lt h)
theorem belowD {W w3 : World} {base : Nat} (h : base ≤ W.heap.size) (hb : Below W.drew.heap.size W.drew w3) : Below base W w3 := below_then (below_drew0 (Below.refl _ W)) h hb
set_option maxHeartbeats 4000000 in
set_option maxRecDepth 100000 in
theorem zeros_yes (W : World) (base p k : Nat) (s : ByteArray) (n a most x a' : Int) (hrd : ReadIs W p s n a false) (hbase : base ≤ p) (ha : bits_Ahead.f k s n a = some x) (h0 : 0 ≤ x) (h1 : x ≤ most) (ha' : wrap64 (a + x) = a') :
    Calls Try.prog 126 #[.pointer (some ⟨p, 0, none⟩), .int .i64 most] W fun e w' => e = .returned (.int .i64 x) ∧ ReadIs w' p s n a' false ∧ Below base W w' := by
  have hu := Try.underlying27
  have hu5 := Try.underlying125
  obtain ⟨c0, c1, c2, c3, f0, f1, f2, f3⟩ := four_cells hrd
  have HRD := Aside0.mk hrd
  have HBASE := Aside0.mk hbase
  have HA := Aside0.mk ha
  clear hrd hbase ha
  have HA' := Aside0.mk ha'
  clear ha'
  have HRD2 : Aside0 (ReadIs W.drew p s n a false) := ⟨HRD.out⟩
  have HB2 : Aside0 (Below base W W.drew) := ⟨below_drew0 (Below.refl _ W)⟩
  go_enter Try.func126, Try.ntmps126
  go_wp2
  go_still_tail 8, (by kernel_rfl)
  change wpList _ _ _ _ _ W.drew
  clear c0 c1 c2 c3 f0 f1 f2 f3 HRD
  generalize W.drew = w2 at *
  go_wp2_with (first | (go_at_call 96; ((with_reducible refine (bits_Ahead.calls k s n a x _ HA.out).mono ?_); rintro e w3 ⟨rfl, hb3⟩); have HRD3 := Aside0.mk (keep2 HRD2.out hb3 (blk_lt HRD2.out)); have HB3 := Aside0.mk (below_then HB2.out (Nat.le_of_lt (Nat.lt_of_le_of_lt HBASE.out (blk_lt HRD2.out))) hb3); clear hb3; obtain ⟨c0, c1, c2, c3, f0, f1, f2, f3⟩ := four_cells HRD3.out))
  go_ret
  exact ⟨rfl, by rw [← HA'.out]; exact read_at HRD3.out _, HB3.out.setCell (p := ⟨p, 2, none⟩) HBASE.out _⟩
set_option maxHeartbeats 4000000 in
set_option maxRecDepth 100000 in
theorem zeros_no1 (W : World) (base p k : Nat) (s : ByteArray) (n a most x : Int) (hrd : ReadIs W p s n a true) (hbase : base ≤ p) (ha : bits_Ahead.f k s n a = some x) :
    Calls Try.prog 126 #[.pointer (some ⟨p, 0, none⟩), .int .i64 most] W fun e w' => e = .returned (.int .i64 0) ∧ ReadIs w' p s n a true ∧ Below base W w' := by
  have hu := Try.underlying27
  have hu5 := Try.underlying125
  obtain ⟨c0, c1, c2, c3, f0, f1, f2, f3⟩ := four_cells hrd
  have HRD := Aside0.mk hrd
  have HBASE := Aside0.mk hbase
  have HA := Aside0.mk ha
  clear hrd hbase ha
  have HRD2 : Aside0 (ReadIs W.drew p s n a true) := ⟨HRD.out⟩
  have HB2 : Aside0 (Below base W W.drew) := ⟨below_drew0 (Below.refl _ W)⟩
  go_enter Try.func126, Try.ntmps126
  go_wp2
  go_still_tail 8, (by kernel_rfl)
  change wpList _ _ _ _ _ W.drew
  clear c0 c1 c2 c3 f0 f1 f2 f3 HRD
  generalize W.drew = w2 at *
  go_wp2_with (first | (go_at_call 96; ((with_reducible refine (bits_Ahead.calls k s n a x _ HA.out).mono ?_); rintro e w3 ⟨rfl, hb3⟩); have HRD3 := Aside0.mk (keep2 HRD2.out hb3 (blk_lt HRD2.out)); have HB3 := Aside0.mk (below_then HB2.out (Nat.le_of_lt (Nat.lt_of_le_of_lt HBASE.out (blk_lt HRD2.out))) hb3); clear hb3; obtain ⟨c0, c1, c2, c3, f0, f1, f2, f3⟩ := four_cells HRD3.out))
  go_ret
  exact ⟨rfl, read_bad HRD3.out, HB3.out.setCell (p := ⟨p, 3, none⟩) HBASE.out _⟩
set_option maxHeartbeats 4000000 in
set_option maxRecDepth 100000 in
theorem zeros_no2 (W : World) (base p k : Nat) (s : ByteArray) (n a most x : Int) (hrd : ReadIs W p s n a false) (hbase : base ≤ p) (ha : bits_Ahead.f k s n a = some x) (h0 : x < 0) :
    Calls Try.prog 126 #[.pointer (some ⟨p, 0, none⟩), .int .i64 most] W fun e w' => e = .returned (.int .i64 0) ∧ ReadIs w' p s n a true ∧ Below base W w' := by
  have hu := Try.underlying27
  have hu5 := Try.underlying125
  obtain ⟨c0, c1, c2, c3, f0, f1, f2, f3⟩ := four_cells hrd
  have HRD := Aside0.mk hrd
  have HBASE := Aside0.mk hbase
  have HA := Aside0.mk ha
  clear hrd hbase ha
  have HRD2 : Aside0 (ReadIs W.drew p s n a false) := ⟨HRD.out⟩
  have HB2 : Aside0 (Below base W W.drew) := ⟨below_drew0 (Below.refl _ W)⟩
  go_enter Try.func126, Try.ntmps126
  go_wp2
  go_still_tail 8, (by kernel_rfl)
  change wpList _ _ _ _ _ W.drew
  clear c0 c1 c2 c3 f0 f1 f2 f3 HRD
  generalize W.drew = w2 at *
  go_wp2_with (first | (go_at_call 96; ((with_reducible refine (bits_Ahead.calls k s n a x _ HA.out).mono ?_); rintro e w3 ⟨rfl, hb3⟩); have HRD3 := Aside0.mk (keep2 HRD2.out hb3 (blk_lt HRD2.out)); have HB3 := Aside0.mk (below_then HB2.out (Nat.le_of_lt (Nat.lt_of_le_of_lt HBASE.out (blk_lt HRD2.out))) hb3); clear hb3; obtain ⟨c0, c1, c2, c3, f0, f1, f2, f3⟩ := four_cells HRD3.out))
  go_ret
  exact ⟨rfl, read_bad HRD3.out, HB3.out.setCell (p := ⟨p, 3, none⟩) HBASE.out _⟩
set_option maxHeartbeats 4000000 in
set_option maxRecDepth 100000 in
theorem zeros_no3 (W : World) (base p k : Nat) (s : ByteArray) (n a most x : Int) (hrd : ReadIs W p s n a false) (hbase : base ≤ p) (ha : bits_Ahead.f k s n a = some x) (h0 : 0 ≤ x) (h1 : most < x) :
    Calls Try.prog 126 #[.pointer (some ⟨p, 0, none⟩), .int .i64 most] W fun e w' => e = .returned (.int .i64 0) ∧ ReadIs w' p s n a true ∧ Below base W w' := by
  have hu := Try.underlying27
  have hu5 := Try.underlying125
  obtain ⟨c0, c1, c2, c3, f0, f1, f2, f3⟩ := four_cells hrd
  have HRD := Aside0.mk hrd
  have HBASE := Aside0.mk hbase
  have HA := Aside0.mk ha
  clear hrd hbase ha
  have HRD2 : Aside0 (ReadIs W.drew p s n a false) := ⟨HRD.out⟩
  have HB2 : Aside0 (Below base W W.drew) := ⟨below_drew0 (Below.refl _ W)⟩
  go_enter Try.func126, Try.ntmps126
  go_wp2
  go_still_tail 8, (by kernel_rfl)
  change wpList _ _ _ _ _ W.drew
  clear c0 c1 c2 c3 f0 f1 f2 f3 HRD
  generalize W.drew = w2 at *
  go_wp2_with (first | (go_at_call 96; ((with_reducible refine (bits_Ahead.calls k s n a x _ HA.out).mono ?_); rintro e w3 ⟨rfl, hb3⟩); have HRD3 := Aside0.mk (keep2 HRD2.out hb3 (blk_lt HRD2.out)); have HB3 := Aside0.mk (below_then HB2.out (Nat.le_of_lt (Nat.lt_of_le_of_lt HBASE.out (blk_lt HRD2.out))) hb3); clear hb3; obtain ⟨c0, c1, c2, c3, f0, f1, f2, f3⟩ := four_cells HRD3.out))
  go_ret
  exact ⟨rfl, read_bad HRD3.out, HB3.out.setCell (p := ⟨p, 3, none⟩) HBASE.out _⟩
set_option maxHeartbeats 4000000 in
set_option maxRecDepth 100000 in
theorem look_yes1 (W : World) (base p k : Nat) (s : ByteArray) (n a wd x a' : Int) (hrd : ReadIs W p s n a false) (hbase : base ≤ p) (ha : bits_Look.f k s n a wd = some (x, true)) (ha' : wrap64 (a + wd) = a') :
    Calls Try.prog 127 #[.pointer (some ⟨p, 0, none⟩), .int .i64 wd] W fun e w' => e = .returned (.int .i64 x) ∧ ReadIs w' p s n a' false ∧ Below base W w' := by
  have hu := Try.underlying27
  have hu5 := Try.underlying125
  obtain ⟨c0, c1, c2, c3, f0, f1, f2, f3⟩ := four_cells hrd
  have HRD := Aside0.mk hrd
  have HBASE := Aside0.mk hbase
  have HA := Aside0.mk ha
  clear hrd hbase ha
  have HA' := Aside0.mk ha'
  clear ha'
  go_enter Try.func127, Try.ntmps127
  go_wp2
  go_region_held3 (fun w' => w'.cell? ⟨p, 0, none⟩ = some (.string s) ∧ w'.cell? ⟨p, 1, none⟩ = some (.int .i64 n) ∧ w'.cell? ⟨p, 2, none⟩ = some (.int .i64 a)) (first | exact ⟨d0, d1, d2⟩ | exact ⟨c0, c1, c2⟩ | go_keep) (first | (go_at_call 91; ((with_reducible refine (bits_Look.calls k s n a wd x true _ HA.out).mono ?_); rintro e w3 ⟨rfl, hb3⟩); have HRD3 := Aside0.mk (keepD HRD.out hb3); have HB3 := Aside0.mk (belowD (Nat.le_of_lt (Nat.lt_of_le_of_lt HBASE.out (blk_lt HRD.out))) hb3); clear hb3; obtain ⟨d0, d1, d2, d3, e0, e1, e2, e3⟩ := four_cells HRD3.out))
  all_goals go_wp2
  all_goals go_ret
  all_goals exact ⟨rfl, by rw [← HA'.out]; exact read_at HRD3.out _, HB3.out.setCell (p := ⟨p, 2, none⟩) HBASE.out _⟩
set_option maxHeartbeats 4000000 in
set_option maxRecDepth 100000 in
theorem look_no1 (W : World) (base p k : Nat) (s : ByteArray) (n a wd x a' : Int) (hrd : ReadIs W p s n a true) (hbase : base ≤ p) (ha : bits_Look.f k s n a wd = some (x, true))  :
    Calls Try.prog 127 #[.pointer (some ⟨p, 0, none⟩), .int .i64 wd] W fun e w' => e = .returned (.int .i64 0) ∧ ReadIs w' p s n a true ∧ Below base W w' := by
  have hu := Try.underlying27
  have hu5 := Try.underlying125
  obtain ⟨c0, c1, c2, c3, f0, f1, f2, f3⟩ := four_cells hrd
  have HRD := Aside0.mk hrd
  have HBASE := Aside0.mk hbase
  have HA := Aside0.mk ha
  clear hrd hbase ha
  go_enter Try.func127, Try.ntmps127
  go_wp2
  go_region_held3 (fun w' => w'.cell? ⟨p, 0, none⟩ = some (.string s) ∧ w'.cell? ⟨p, 1, none⟩ = some (.int .i64 n) ∧ w'.cell? ⟨p, 2, none⟩ = some (.int .i64 a)) (first | exact ⟨d0, d1, d2⟩ | exact ⟨c0, c1, c2⟩ | go_keep) (first | (go_at_call 91; ((with_reducible refine (bits_Look.calls k s n a wd x true _ HA.out).mono ?_); rintro e w3 ⟨rfl, hb3⟩); have HRD3 := Aside0.mk (keepD HRD.out hb3); have HB3 := Aside0.mk (belowD (Nat.le_of_lt (Nat.lt_of_le_of_lt HBASE.out (blk_lt HRD.out))) hb3); clear hb3; obtain ⟨d0, d1, d2, d3, e0, e1, e2, e3⟩ := four_cells HRD3.out))
  all_goals go_wp2
  all_goals go_ret
  all_goals exact ⟨rfl, read_bad HRD3.out, HB3.out.setCell (p := ⟨p, 3, none⟩) HBASE.out _⟩
set_option maxHeartbeats 4000000 in
set_option maxRecDepth 100000 in
theorem look_no2 (W : World) (base p k : Nat) (s : ByteArray) (n a wd x a' : Int) (hrd : ReadIs W p s n a true) (hbase : base ≤ p) (ha : bits_Look.f k s n a wd = some (x, false))  :
    Calls Try.prog 127 #[.pointer (some ⟨p, 0, none⟩), .int .i64 wd] W fun e w' => e = .returned (.int .i64 0) ∧ ReadIs w' p s n a true ∧ Below base W w' := by
  have hu := Try.underlying27
  have hu5 := Try.underlying125
  obtain ⟨c0, c1, c2, c3, f0, f1, f2, f3⟩ := four_cells hrd
  have HRD := Aside0.mk hrd
  have HBASE := Aside0.mk hbase
  have HA := Aside0.mk ha
  clear hrd hbase ha
  go_enter Try.func127, Try.ntmps127
  go_wp2
  go_region_held3 (fun w' => w'.cell? ⟨p, 0, none⟩ = some (.string s) ∧ w'.cell? ⟨p, 1, none⟩ = some (.int .i64 n) ∧ w'.cell? ⟨p, 2, none⟩ = some (.int .i64 a)) (first | exact ⟨d0, d1, d2⟩ | exact ⟨c0, c1, c2⟩ | go_keep) (first | (go_at_call 91; ((with_reducible refine (bits_Look.calls k s n a wd x false _ HA.out).mono ?_); rintro e w3 ⟨rfl, hb3⟩); have HRD3 := Aside0.mk (keepD HRD.out hb3); have HB3 := Aside0.mk (belowD (Nat.le_of_lt (Nat.lt_of_le_of_lt HBASE.out (blk_lt HRD.out))) hb3); clear hb3; obtain ⟨d0, d1, d2, d3, e0, e1, e2, e3⟩ := four_cells HRD3.out))
  all_goals go_wp2
  all_goals go_ret
  all_goals exact ⟨rfl, read_bad HRD3.out, HB3.out.setCell (p := ⟨p, 3, none⟩) HBASE.out _⟩
set_option maxHeartbeats 4000000 in
set_option maxRecDepth 100000 in
theorem look_no3 (W : World) (base p k : Nat) (s : ByteArray) (n a wd x a' : Int) (hrd : ReadIs W p s n a false) (hbase : base ≤ p) (ha : bits_Look.f k s n a wd = some (x, false))  :
    Calls Try.prog 127 #[.pointer (some ⟨p, 0, none⟩), .int .i64 wd] W fun e w' => e = .returned (.int .i64 0) ∧ ReadIs w' p s n a true ∧ Below base W w' := by
  have hu := Try.underlying27
  have hu5 := Try.underlying125
  obtain ⟨c0, c1, c2, c3, f0, f1, f2, f3⟩ := four_cells hrd
  have HRD := Aside0.mk hrd
  have HBASE := Aside0.mk hbase
  have HA := Aside0.mk ha
  clear hrd hbase ha
  go_enter Try.func127, Try.ntmps127
  go_wp2
  go_region_held3 (fun w' => w'.cell? ⟨p, 0, none⟩ = some (.string s) ∧ w'.cell? ⟨p, 1, none⟩ = some (.int .i64 n) ∧ w'.cell? ⟨p, 2, none⟩ = some (.int .i64 a)) (first | exact ⟨d0, d1, d2⟩ | exact ⟨c0, c1, c2⟩ | go_keep) (first | (go_at_call 91; ((with_reducible refine (bits_Look.calls k s n a wd x false _ HA.out).mono ?_); rintro e w3 ⟨rfl, hb3⟩); have HRD3 := Aside0.mk (keepD HRD.out hb3); have HB3 := Aside0.mk (belowD (Nat.le_of_lt (Nat.lt_of_le_of_lt HBASE.out (blk_lt HRD.out))) hb3); clear hb3; obtain ⟨d0, d1, d2, d3, e0, e1, e2, e3⟩ := four_cells HRD3.out))
  all_goals go_wp2
  all_goals go_ret
  all_goals exact ⟨rfl, read_bad HRD3.out, HB3.out.setCell (p := ⟨p, 3, none⟩) HBASE.out _⟩
/-- What the reader answers, where it stands behind, whether it is bad. -/
def rd_zeros (k : Nat) (s : ByteArray) (n a : Int) (bad : Bool) (most : Int) : Option (Int × Int × Bool) :=
  (bits_Ahead.f k s n a).bind fun x => if bad = true then some (0, a, true) else if x < 0 then some (0, a, true) else if most < x then some (0, a, true) else some (x, wrap64 (a + x), false)
def rd_look (k : Nat) (s : ByteArray) (n a : Int) (bad : Bool) (wd : Int) : Option (Int × Int × Bool) :=
  (bits_Look.f k s n a wd).bind fun x => if bad = true then some (0, a, true) else if x.2 = true then some (x.1, wrap64 (a + wd), false) else some (0, a, true)
theorem rd_zeros.calls (W : World) (base p k : Nat) (s : ByteArray) (n a : Int) (bad : Bool) (most r a' : Int) (bad' : Bool) (hrd : ReadIs W p s n a bad) (hbase : base ≤ p) (h : rd_zeros k s n a bad most = some (r, a', bad')) :
    Calls Try.prog 126 #[.pointer (some ⟨p, 0, none⟩), .int .i64 most] W fun e w' => e = .returned (.int .i64 r) ∧ ReadIs w' p s n a' bad' ∧ Below base W w' := by
  unfold rd_zeros at h
  obtain ⟨x, h1, h2⟩ := Option.bind_eq_some_iff.1 h
  cases bad with
  | true =>
    rw [if_pos rfl] at h2
    simp only [Option.some.injEq, Prod.mk.injEq] at h2
    obtain ⟨rfl, rfl, rfl⟩ := h2
    exact zeros_no1 W base p k s n a most x hrd hbase h1
  | false =>
    rw [if_neg (by decide)] at h2
    by_cases c1 : x < 0
    · rw [if_pos c1] at h2
      simp only [Option.some.injEq, Prod.mk.injEq] at h2
      obtain ⟨rfl, rfl, rfl⟩ := h2
      exact zeros_no2 W base p k s n a most x hrd hbase h1 c1
    · rw [if_neg c1] at h2
      by_cases c2 : most < x
      · rw [if_pos c2] at h2
        simp only [Option.some.injEq, Prod.mk.injEq] at h2
        obtain ⟨rfl, rfl, rfl⟩ := h2
        exact zeros_no3 W base p k s n a most x hrd hbase h1 (by omega) c2
      · rw [if_neg c2] at h2
        simp only [Option.some.injEq, Prod.mk.injEq] at h2
        obtain ⟨rfl, h3, rfl⟩ := h2
        exact zeros_yes W base p k s n a most x a' hrd hbase h1 (by omega) (by omega) h3
theorem rd_look.calls (W : World) (base p k : Nat) (s : ByteArray) (n a : Int) (bad : Bool) (wd r a' : Int) (bad' : Bool) (hrd : ReadIs W p s n a bad) (hbase : base ≤ p) (h : rd_look k s n a bad wd = some (r, a', bad')) :
    Calls Try.prog 127 #[.pointer (some ⟨p, 0, none⟩), .int .i64 wd] W fun e w' => e = .returned (.int .i64 r) ∧ ReadIs w' p s n a' bad' ∧ Below base W w' := by
  unfold rd_look at h
  obtain ⟨⟨x, ok⟩, h1, h2⟩ := Option.bind_eq_some_iff.1 h
  cases bad with
  | true =>
    rw [if_pos rfl] at h2
    simp only [Option.some.injEq, Prod.mk.injEq] at h2
    obtain ⟨rfl, rfl, rfl⟩ := h2
    cases ok with
    | true => exact look_no1 W base p k s n a wd x 0 hrd hbase h1
    | false => exact look_no2 W base p k s n a wd x 0 hrd hbase h1
  | false =>
    rw [if_neg (by decide)] at h2
    cases ok with
    | true =>
      rw [if_pos rfl] at h2
      simp only [Option.some.injEq, Prod.mk.injEq] at h2
      obtain ⟨rfl, h3, rfl⟩ := h2
      exact look_yes1 W base p k s n a wd x a' hrd hbase h1 h3
    | false =>
      rw [if_neg (by simp)] at h2
      simp only [Option.some.injEq, Prod.mk.injEq] at h2
      obtain ⟨rfl, rfl, rfl⟩ := h2
      exact look_no3 W base p k s n a wd x 0 hrd hbase h1
set_option maxHeartbeats 4000000 in
set_option maxRecDepth 100000 in
theorem unary_walk (W : World) (base p k : Nat) (s : ByteArray) (n a : Int) (bad : Bool) (most z a1 : Int) (b1 : Bool) (l a2 : Int) (b2 : Bool) (hrd : ReadIs W p s n a bad) (hbase : base ≤ p) (hm : 1 ≤ most) (hm1 : most ≤ 10000) (hz0 : 0 ≤ z) (hz1 : z ≤ 10000)
    (hz : rd_zeros k s n a bad (most - 1) = some (z, a1, b1)) (hl : rd_look k s n a1 b1 1 = some (l, a2, b2)) :
    Calls Try.prog 120 #[.pointer (some ⟨p, 0, none⟩), .int .i64 most] W fun e w' => e = .returned (.int .i64 (z + 1)) ∧ ReadIs w' p s n a2 b2 ∧ Below base W w' := by
  have HRD := Aside0.mk hrd
  have HBASE := Aside0.mk hbase
  have HB := Aside0.mk (Below.refl base W)
  clear hrd hbase
  have HZ := Aside0.mk hz
  have HL := Aside0.mk hl
  clear hz hl
  go_enter Try.func120, Try.ntmps120
  go_wp2_with (first | (go_at_call 126; ((with_reducible refine (rd_zeros.calls _ base p k s n a bad (most - 1) z a1 b1 HRD.out HBASE.out HZ.out).mono ?_); rintro e w3 ⟨rfl, hr3, hb3⟩); have HRD3 := Aside0.mk hr3; have HB3 := Aside0.mk (HB.out.trans hb3); clear hr3 hb3 HRD HB; have HRD := HRD3; have HB := HB3; clear HRD3 HB3) | (go_at_call 127; ((with_reducible refine (rd_look.calls _ base p k s n a1 b1 1 l a2 b2 HRD.out HBASE.out HL.out).mono ?_); rintro e w3 ⟨rfl, hr3, hb3⟩); have HRD3 := Aside0.mk hr3; have HB3 := Aside0.mk (HB.out.trans hb3); clear hr3 hb3 HRD HB; have HRD := HRD3; have HB := HB3; clear HRD3 HB3))
  go_ret
  exact ⟨rfl, HRD.out, HB.out⟩
set_option maxHeartbeats 4000000 in
set_option maxRecDepth 100000 in
theorem gamma_walk (W : World) (base p k : Nat) (s : ByteArray) (n a : Int) (bad : Bool) (z a1 : Int) (b1 : Bool) (l a2 : Int) (b2 : Bool) (hrd : ReadIs W p s n a bad) (hbase : base ≤ p) (hz0 : 0 ≤ z) (hz1 : z ≤ 10000)
    (hz : rd_zeros k s n a bad 30 = some (z, a1, b1)) (hl : rd_look k s n a1 b1 (z + 1) = some (l, a2, b2)) :
    Calls Try.prog 121 #[.pointer (some ⟨p, 0, none⟩)] W fun e w' => e = .returned (.int .i64 l) ∧ ReadIs w' p s n a2 b2 ∧ Below base W w' := by
  have HRD := Aside0.mk hrd
  have HBASE := Aside0.mk hbase
  have HB := Aside0.mk (Below.refl base W)
  clear hrd hbase
  have HZ := Aside0.mk hz
  have HL := Aside0.mk hl
  clear hz hl
  go_enter Try.func121, Try.ntmps121
  go_wp2_with (first | (go_at_call 126; ((with_reducible refine (rd_zeros.calls _ base p k s n a bad 30 z a1 b1 HRD.out HBASE.out HZ.out).mono ?_); rintro e w3 ⟨rfl, hr3, hb3⟩); have HRD3 := Aside0.mk hr3; have HB3 := Aside0.mk (HB.out.trans hb3); clear hr3 hb3 HRD HB; have HRD := HRD3; have HB := HB3; clear HRD3 HB3) | (go_at_call 127; ((with_reducible refine (rd_look.calls _ base p k s n a1 b1 (z + 1) l a2 b2 HRD.out HBASE.out HL.out).mono ?_); rintro e w3 ⟨rfl, hr3, hb3⟩); have HRD3 := Aside0.mk hr3; have HB3 := Aside0.mk (HB.out.trans hb3); clear hr3 hb3 HRD HB; have HRD := HRD3; have HB := HB3; clear HRD3 HB3))
  go_ret
  exact ⟨rfl, HRD.out, HB.out⟩
end Go.Proofs.Ytnpghcikhpglkaa.Q
namespace Go.Proofs.Ytnpghcikhpglkaa.Q
open Go.RowKit Go.Proofs.YtnpghcikhpglkaaW.PrintWords Go.Proofs.YtnpghcikhpglkaaW.PrintLast Go.Proofs.YtnpghcikhpglkaaW.PrintMore Go.Proofs.Ytnpghcikhpglkaa.Hand Go.Proofs.Ytnpghcikhpglkaa.Pu
set_option linter.unusedVariables false
set_option linter.unusedSimpArgs false
theorem read_below {W w3 : World} {p : Nat} {s : ByteArray} {n a : Int} {b : Bool} (h : ReadIs W p s n a b) (hb : Below W.heap.size W w3) : ReadIs w3 p s n a b := keep2 h hb (blk_lt h)
theorem read_drew {W : World} {p : Nat} {s : ByteArray} {n a : Int} {b : Bool} (h : ReadIs W p s n a b) : ReadIs W.drew p s n a b := h
theorem below_dr {W w w4 : World} {base : Nat} (h : Below base W w) (hb : Below base w.drew w4) : Below base W w4 := (show Below base W w.drew from ⟨h.os, h.tape, h.output, h.size, h.block⟩).trans hb
def rd_gamma (k : Nat) (s : ByteArray) (n a : Int) (bad : Bool) : Option (Int × Int × Bool) :=
  (rd_zeros k s n a bad 30).bind fun z => if 0 ≤ z.1 ∧ z.1 ≤ 10000 then rd_look k s n z.2.1 z.2.2 (z.1 + 1) else none
def rd_unary (k : Nat) (s : ByteArray) (n a : Int) (bad : Bool) (most : Int) : Option (Int × Int × Bool) :=
  if 1 ≤ most ∧ most ≤ 10000 then (rd_zeros k s n a bad (most - 1)).bind fun z => if 0 ≤ z.1 ∧ z.1 ≤ 10000 then (rd_look k s n z.2.1 z.2.2 1).bind fun l => some (z.1 + 1, l.2.1, l.2.2) else none else none
theorem rd_gamma.calls (W : World) (base p k : Nat) (s : ByteArray) (n a : Int) (bad : Bool) (r a' : Int) (bad' : Bool) (hrd : ReadIs W p s n a bad) (hbase : base ≤ p) (h : rd_gamma k s n a bad = some (r, a', bad')) :
    Calls Try.prog 121 #[.pointer (some ⟨p, 0, none⟩)] W fun e w' => e = .returned (.int .i64 r) ∧ ReadIs w' p s n a' bad' ∧ Below base W w' := by
  unfold rd_gamma at h
  obtain ⟨⟨z, a1, b1⟩, h1, h2⟩ := Option.bind_eq_some_iff.1 h
  split at h2
  · rename_i hc
    exact gamma_walk W base p k s n a bad z a1 b1 r a' bad' hrd hbase hc.1 hc.2 h1 h2
  · cases h2
theorem rd_unary.calls (W : World) (base p k : Nat) (s : ByteArray) (n a : Int) (bad : Bool) (most r a' : Int) (bad' : Bool) (hrd : ReadIs W p s n a bad) (hbase : base ≤ p) (h : rd_unary k s n a bad most = some (r, a', bad')) :
    Calls Try.prog 120 #[.pointer (some ⟨p, 0, none⟩), .int .i64 most] W fun e w' => e = .returned (.int .i64 r) ∧ ReadIs w' p s n a' bad' ∧ Below base W w' := by
  unfold rd_unary at h
  split at h
  · rename_i hm
    obtain ⟨⟨z, a1, b1⟩, h1, h2⟩ := Option.bind_eq_some_iff.1 h
    split at h2
    · rename_i hc
      obtain ⟨⟨l, a2, b2⟩, h3, h4⟩ := Option.bind_eq_some_iff.1 h2
      simp only [Option.some.injEq, Prod.mk.injEq] at h4
      obtain ⟨rfl, rfl, rfl⟩ := h4
      exact unary_walk W base p k s n a bad most z a1 b1 l a2 b2 hrd hbase hm.1 hm.2 hc.1 hc.2 h1 h3
    · cases h2
  · cases h
set_option maxHeartbeats 4000000 in
set_option maxRecDepth 100000 in
theorem delta_bad1 (W : World) (base p k : Nat) (s : ByteArray) (n a : Int) (bad : Bool) (g a1 : Int) (hrd : ReadIs W p s n a bad) (hbase : base ≤ p) (hg : rd_gamma k s n a bad = some (g, a1, true))  :
    Calls Try.prog 122 #[.pointer (some ⟨p, 0, none⟩)] W fun e w' => e = .returned (.int .i64 0) ∧ ReadIs w' p s n a1 true ∧ Below base W w' := by
  have hu5 := Try.underlying125
  have HRD := Aside0.mk hrd
  have HBASE := Aside0.mk hbase
  have HB := Aside0.mk (Below.refl base W)
  clear hrd hbase
  have HG := Aside0.mk hg
  clear hg
  go_enter Try.func122, Try.ntmps122
  go_wp2_with (first | (go_at_call 121; ((with_reducible refine (rd_gamma.calls _ base p k s n a bad g a1 true HRD.out HBASE.out HG.out).mono ?_); rintro e w3 ⟨rfl, hr3, hb3⟩); have HRD3 := Aside0.mk hr3; have HB3 := Aside0.mk (HB.out.trans hb3); clear hr3 hb3 HRD HB; have HRD := HRD3; have HB := HB3; clear HRD3 HB3; (try clear c0 c1 c2 c3 f0 f1 f2 f3); obtain ⟨c0, c1, c2, c3, f0, f1, f2, f3⟩ := four_cells HRD.out))
  go_ret
  exact ⟨rfl, read_bad HRD.out, HB.out.setCell (p := ⟨p, 3, none⟩) HBASE.out _⟩
set_option maxHeartbeats 4000000 in
set_option maxRecDepth 100000 in
theorem delta_bad2 (W : World) (base p k : Nat) (s : ByteArray) (n a : Int) (bad : Bool) (g a1 : Int) (hrd : ReadIs W p s n a bad) (hbase : base ≤ p) (hg : rd_gamma k s n a bad = some (g, a1, false)) (hg2 : 30 < g - 1) (hg3 : g ≤ 4611686018427387904) :
    Calls Try.prog 122 #[.pointer (some ⟨p, 0, none⟩)] W fun e w' => e = .returned (.int .i64 0) ∧ ReadIs w' p s n a1 true ∧ Below base W w' := by
  have hu5 := Try.underlying125
  have HRD := Aside0.mk hrd
  have HBASE := Aside0.mk hbase
  have HB := Aside0.mk (Below.refl base W)
  clear hrd hbase
  have HG := Aside0.mk hg
  clear hg
  go_enter Try.func122, Try.ntmps122
  go_wp2_with (first | (go_at_call 121; ((with_reducible refine (rd_gamma.calls _ base p k s n a bad g a1 false HRD.out HBASE.out HG.out).mono ?_); rintro e w3 ⟨rfl, hr3, hb3⟩); have HRD3 := Aside0.mk hr3; have HB3 := Aside0.mk (HB.out.trans hb3); clear hr3 hb3 HRD HB; have HRD := HRD3; have HB := HB3; clear HRD3 HB3; (try clear c0 c1 c2 c3 f0 f1 f2 f3); obtain ⟨c0, c1, c2, c3, f0, f1, f2, f3⟩ := four_cells HRD.out))
  go_ret
  exact ⟨rfl, read_bad HRD.out, HB.out.setCell (p := ⟨p, 3, none⟩) HBASE.out _⟩
set_option maxHeartbeats 4000000 in
set_option maxRecDepth 100000 in
theorem delta_ok (W : World) (base p k : Nat) (s : ByteArray) (n a : Int) (bad : Bool) (g a1 : Int) (l a2 : Int) (b2 : Bool) (hrd : ReadIs W p s n a bad) (hbase : base ≤ p) (hg : rd_gamma k s n a bad = some (g, a1, false)) (hg0 : 0 ≤ g - 1) (hg1 : g - 1 ≤ 30)
    (hl : rd_look k s n a1 false (g - 1) = some (l, a2, b2)) :
    Calls Try.prog 122 #[.pointer (some ⟨p, 0, none⟩)] W fun e w' => e = .returned (.int .i64 (Go.bits .or .i64 (IntKind.i64.wrap (2 ^ (g.toNat - 1))) l)) ∧ ReadIs w' p s n a2 b2 ∧ Below base W w' := by
  have hu5 := Try.underlying125
  have HRD := Aside0.mk hrd
  have HBASE := Aside0.mk hbase
  have HB := Aside0.mk (Below.refl base W)
  clear hrd hbase
  have HG := Aside0.mk hg
  have HL := Aside0.mk hl
  clear hg hl
  go_enter Try.func122, Try.ntmps122
  go_wp2_with (first | (go_at_call 121; ((with_reducible refine (rd_gamma.calls _ base p k s n a bad g a1 false HRD.out HBASE.out HG.out).mono ?_); rintro e w3 ⟨rfl, hr3, hb3⟩); have HRD3 := Aside0.mk hr3; have HB3 := Aside0.mk (HB.out.trans hb3); clear hr3 hb3 HRD HB; have HRD := HRD3; have HB := HB3; clear HRD3 HB3; (try clear c0 c1 c2 c3 f0 f1 f2 f3); obtain ⟨c0, c1, c2, c3, f0, f1, f2, f3⟩ := four_cells HRD.out))
  go_region_held3 (fun _ => True) (trivial) (first | (go_at_call 127; ((with_reducible refine (rd_look.calls _ base p k s n a1 false (g - 1) l a2 b2 (read_drew HRD.out) HBASE.out HL.out).mono ?_); rintro e w4 ⟨rfl, hr4, hb4⟩); have HRD4 := Aside0.mk hr4; have HB4 := Aside0.mk (below_dr HB.out hb4); clear hr4 hb4))
  all_goals go_wp2
  all_goals go_ret
  all_goals exact ⟨by first | rfl | simp, HRD4.out, HB4.out⟩
set_option maxHeartbeats 4000000 in
set_option maxRecDepth 100000 in
theorem zeta2_bad (W : World) (base p k : Nat) (s : ByteArray) (n a : Int) (bad : Bool) (h a1 : Int) (hrd : ReadIs W p s n a bad) (hbase : base ≤ p) (hh : rd_unary k s n a bad 16 = some (h, a1, true)) :
    Calls Try.prog 123 #[.pointer (some ⟨p, 0, none⟩), .int .i64 2] W fun e w' => e = .returned (.int .i64 0) ∧ ReadIs w' p s n a1 true ∧ Below base W w' := by
  have hu5 := Try.underlying125
  have HRD := Aside0.mk hrd
  have HBASE := Aside0.mk hbase
  have HB := Aside0.mk (Below.refl base W)
  clear hrd hbase
  have HH := Aside0.mk hh
  clear hh
  go_enter Try.func123, Try.ntmps123
  go_wp2_with (first | (go_at_call 120; ((with_reducible refine (rd_unary.calls _ base p k s n a bad 16 h a1 true HRD.out HBASE.out HH.out).mono ?_); rintro e w3 ⟨rfl, hr3, hb3⟩); have HRD3 := Aside0.mk hr3; have HB3 := Aside0.mk (HB.out.trans hb3); clear hr3 hb3 HRD HB; have HRD := HRD3; have HB := HB3; clear HRD3 HB3; (try clear c0 c1 c2 c3 f0 f1 f2 f3); obtain ⟨c0, c1, c2, c3, f0, f1, f2, f3⟩ := four_cells HRD.out))
  go_ret
  exact ⟨by first | rfl | simp, HRD.out, HB.out⟩
set_option maxHeartbeats 4000000 in
set_option maxRecDepth 100000 in
theorem zeta2_short (W : World) (base p k : Nat) (s : ByteArray) (n a : Int) (bad : Bool) (h a1 low many size short z a2 : Int) (b2 : Bool) (hrd : ReadIs W p s n a bad) (hbase : base ≤ p) (hh : rd_unary k s n a bad 16 = some (h, a1, false)) (hh0 : 1 ≤ h) (hh1 : h ≤ 100)
    (hz : code_zeta.f 2 (h - 1) = some (low, many, size, short)) (hlow0 : 0 ≤ low) (hlow : low ≤ 4294967296) (hs0 : 1 ≤ size) (hs1 : size ≤ 64) (hsh0 : 0 ≤ short) (hsh1 : short ≤ 4294967296) (hl : rd_look k s n a1 false (size - 1) = some (z, a2, b2)) (hz0 : 0 ≤ z) (hz1 : z ≤ 4294967296) (hzs : z < short) :
    Calls Try.prog 123 #[.pointer (some ⟨p, 0, none⟩), .int .i64 2] W fun e w' => e = .returned (.int .i64 (low + z)) ∧ ReadIs w' p s n a2 b2 ∧ Below base W w' := by
  have hu5 := Try.underlying125
  have HRD := Aside0.mk hrd
  have HBASE := Aside0.mk hbase
  have HB := Aside0.mk (Below.refl base W)
  clear hrd hbase
  have HH := Aside0.mk hh
  have HZ := Aside0.mk hz
  have HL := Aside0.mk hl
  clear hh hz hl
  go_enter Try.func123, Try.ntmps123
  go_wp2_with (first | (go_at_call 120; ((with_reducible refine (rd_unary.calls _ base p k s n a bad 16 h a1 false HRD.out HBASE.out HH.out).mono ?_); rintro e w3 ⟨rfl, hr3, hb3⟩); have HRD3 := Aside0.mk hr3; have HB3 := Aside0.mk (HB.out.trans hb3); clear hr3 hb3 HRD HB; have HRD := HRD3; have HB := HB3; clear HRD3 HB3; (try clear c0 c1 c2 c3 f0 f1 f2 f3); obtain ⟨c0, c1, c2, c3, f0, f1, f2, f3⟩ := four_cells HRD.out) | (go_at_call 119; (with_reducible refine (code_zeta.calls 2 (h - 1) low many size short _ HZ.out).mono ?_); rintro e w3 ⟨rfl, hd3⟩; have HRD3 := Aside0.mk (read_below HRD.out hd3.below); have HB3 := Aside0.mk (below_then HB.out (Nat.le_of_lt (Nat.lt_of_le_of_lt HBASE.out (blk_lt HRD.out))) hd3.below); clear hd3 HRD HB; have HRD := HRD3; have HB := HB3; clear HRD3 HB3; (try clear c0 c1 c2 c3 f0 f1 f2 f3); obtain ⟨c0, c1, c2, c3, f0, f1, f2, f3⟩ := four_cells HRD.out) | (go_at_call 127; ((with_reducible refine (rd_look.calls _ base p k s n a1 false (size - 1) z a2 b2 HRD.out HBASE.out HL.out).mono ?_); rintro e w3 ⟨rfl, hr3, hb3⟩); have HRD3 := Aside0.mk hr3; have HB3 := Aside0.mk (HB.out.trans hb3); clear hr3 hb3 HRD HB; have HRD := HRD3; have HB := HB3; clear HRD3 HB3; (try clear c0 c1 c2 c3 f0 f1 f2 f3); obtain ⟨c0, c1, c2, c3, f0, f1, f2, f3⟩ := four_cells HRD.out))
  go_ret
  exact ⟨by first | rfl | simp, HRD.out, HB.out⟩
set_option maxHeartbeats 4000000 in
set_option maxRecDepth 100000 in
theorem zeta2_long (W : World) (base p k : Nat) (s : ByteArray) (n a : Int) (bad : Bool) (h a1 low many size short z a2 : Int) (b2 : Bool) (hrd : ReadIs W p s n a bad) (hbase : base ≤ p) (hh : rd_unary k s n a bad 16 = some (h, a1, false)) (hh0 : 1 ≤ h) (hh1 : h ≤ 100)
    (hz : code_zeta.f 2 (h - 1) = some (low, many, size, short)) (hlow0 : 0 ≤ low) (hlow : low ≤ 4294967296) (hs0 : 1 ≤ size) (hs1 : size ≤ 64) (hsh0 : 0 ≤ short) (hsh1 : short ≤ 4294967296) (hl : rd_look k s n a1 false (size - 1) = some (z, a2, b2)) (hz0 : 0 ≤ z) (hz1 : z ≤ 4294967296) (hzs : short ≤ z) (y a3 : Int) (b3 : Bool) (hy : rd_look k s n a2 b2 1 = some (y, a3, b3)) (hy0 : 0 ≤ y) (hy1 : y ≤ 1) :
    Calls Try.prog 123 #[.pointer (some ⟨p, 0, none⟩), .int .i64 2] W fun e w' => e = .returned (.int .i64 (low + (z * 2 + y - short))) ∧ ReadIs w' p s n a3 b3 ∧ Below base W w' := by
  have hu5 := Try.underlying125
  have HRD := Aside0.mk hrd
  have HBASE := Aside0.mk hbase
  have HB := Aside0.mk (Below.refl base W)
  clear hrd hbase
  have HH := Aside0.mk hh
  have HZ := Aside0.mk hz
  have HL := Aside0.mk hl
  clear hh hz hl
  have HY := Aside0.mk hy
  clear hy
  go_enter Try.func123, Try.ntmps123
  go_wp2_with (first | (go_at_call 120; ((with_reducible refine (rd_unary.calls _ base p k s n a bad 16 h a1 false HRD.out HBASE.out HH.out).mono ?_); rintro e w3 ⟨rfl, hr3, hb3⟩); have HRD3 := Aside0.mk hr3; have HB3 := Aside0.mk (HB.out.trans hb3); clear hr3 hb3 HRD HB; have HRD := HRD3; have HB := HB3; clear HRD3 HB3; (try clear c0 c1 c2 c3 f0 f1 f2 f3); obtain ⟨c0, c1, c2, c3, f0, f1, f2, f3⟩ := four_cells HRD.out) | (go_at_call 119; (with_reducible refine (code_zeta.calls 2 (h - 1) low many size short _ HZ.out).mono ?_); rintro e w3 ⟨rfl, hd3⟩; have HRD3 := Aside0.mk (read_below HRD.out hd3.below); have HB3 := Aside0.mk (below_then HB.out (Nat.le_of_lt (Nat.lt_of_le_of_lt HBASE.out (blk_lt HRD.out))) hd3.below); clear hd3 HRD HB; have HRD := HRD3; have HB := HB3; clear HRD3 HB3; (try clear c0 c1 c2 c3 f0 f1 f2 f3); obtain ⟨c0, c1, c2, c3, f0, f1, f2, f3⟩ := four_cells HRD.out) | (go_at_call 127; ((with_reducible refine (rd_look.calls _ base p k s n a1 false (size - 1) z a2 b2 HRD.out HBASE.out HL.out).mono ?_); rintro e w3 ⟨rfl, hr3, hb3⟩); have HRD3 := Aside0.mk hr3; have HB3 := Aside0.mk (HB.out.trans hb3); clear hr3 hb3 HRD HB; have HRD := HRD3; have HB := HB3; clear HRD3 HB3; (try clear c0 c1 c2 c3 f0 f1 f2 f3); obtain ⟨c0, c1, c2, c3, f0, f1, f2, f3⟩ := four_cells HRD.out) | (go_at_call 127; ((with_reducible refine (rd_look.calls _ base p k s n a2 b2 1 y a3 b3 HRD.out HBASE.out HY.out).mono ?_); rintro e w3 ⟨rfl, hr3, hb3⟩); have HRD3 := Aside0.mk hr3; have HB3 := Aside0.mk (HB.out.trans hb3); clear hr3 hb3 HRD HB; have HRD := HRD3; have HB := HB3; clear HRD3 HB3; (try clear c0 c1 c2 c3 f0 f1 f2 f3); obtain ⟨c0, c1, c2, c3, f0, f1, f2, f3⟩ := four_cells HRD.out))
  go_ret
  exact ⟨by first | rfl | simp, HRD.out, HB.out⟩
set_option maxHeartbeats 4000000 in
set_option maxRecDepth 100000 in
theorem zeta3_bad (W : World) (base p k : Nat) (s : ByteArray) (n a : Int) (bad : Bool) (h a1 : Int) (hrd : ReadIs W p s n a bad) (hbase : base ≤ p) (hh : rd_unary k s n a bad 11 = some (h, a1, true)) :
    Calls Try.prog 123 #[.pointer (some ⟨p, 0, none⟩), .int .i64 3] W fun e w' => e = .returned (.int .i64 0) ∧ ReadIs w' p s n a1 true ∧ Below base W w' := by
  have hu5 := Try.underlying125
  have HRD := Aside0.mk hrd
  have HBASE := Aside0.mk hbase
  have HB := Aside0.mk (Below.refl base W)
  clear hrd hbase
  have HH := Aside0.mk hh
  clear hh
  go_enter Try.func123, Try.ntmps123
  go_wp2_with (first | (go_at_call 120; ((with_reducible refine (rd_unary.calls _ base p k s n a bad 11 h a1 true HRD.out HBASE.out HH.out).mono ?_); rintro e w3 ⟨rfl, hr3, hb3⟩); have HRD3 := Aside0.mk hr3; have HB3 := Aside0.mk (HB.out.trans hb3); clear hr3 hb3 HRD HB; have HRD := HRD3; have HB := HB3; clear HRD3 HB3; (try clear c0 c1 c2 c3 f0 f1 f2 f3); obtain ⟨c0, c1, c2, c3, f0, f1, f2, f3⟩ := four_cells HRD.out))
  go_ret
  exact ⟨by first | rfl | simp, HRD.out, HB.out⟩
set_option maxHeartbeats 4000000 in
set_option maxRecDepth 100000 in
theorem zeta3_short (W : World) (base p k : Nat) (s : ByteArray) (n a : Int) (bad : Bool) (h a1 low many size short z a2 : Int) (b2 : Bool) (hrd : ReadIs W p s n a bad) (hbase : base ≤ p) (hh : rd_unary k s n a bad 11 = some (h, a1, false)) (hh0 : 1 ≤ h) (hh1 : h ≤ 100)
    (hz : code_zeta.f 3 (h - 1) = some (low, many, size, short)) (hlow0 : 0 ≤ low) (hlow : low ≤ 4294967296) (hs0 : 1 ≤ size) (hs1 : size ≤ 64) (hsh0 : 0 ≤ short) (hsh1 : short ≤ 4294967296) (hl : rd_look k s n a1 false (size - 1) = some (z, a2, b2)) (hz0 : 0 ≤ z) (hz1 : z ≤ 4294967296) (hzs : z < short) :
    Calls Try.prog 123 #[.pointer (some ⟨p, 0, none⟩), .int .i64 3] W fun e w' => e = .returned (.int .i64 (low + z)) ∧ ReadIs w' p s n a2 b2 ∧ Below base W w' := by
  have hu5 := Try.underlying125
  have HRD := Aside0.mk hrd
  have HBASE := Aside0.mk hbase
  have HB := Aside0.mk (Below.refl base W)
  clear hrd hbase
  have HH := Aside0.mk hh
  have HZ := Aside0.mk hz
  have HL := Aside0.mk hl
  clear hh hz hl
  go_enter Try.func123, Try.ntmps123
  go_wp2_with (first | (go_at_call 120; ((with_reducible refine (rd_unary.calls _ base p k s n a bad 11 h a1 false HRD.out HBASE.out HH.out).mono ?_); rintro e w3 ⟨rfl, hr3, hb3⟩); have HRD3 := Aside0.mk hr3; have HB3 := Aside0.mk (HB.out.trans hb3); clear hr3 hb3 HRD HB; have HRD := HRD3; have HB := HB3; clear HRD3 HB3; (try clear c0 c1 c2 c3 f0 f1 f2 f3); obtain ⟨c0, c1, c2, c3, f0, f1, f2, f3⟩ := four_cells HRD.out) | (go_at_call 119; (with_reducible refine (code_zeta.calls 3 (h - 1) low many size short _ HZ.out).mono ?_); rintro e w3 ⟨rfl, hd3⟩; have HRD3 := Aside0.mk (read_below HRD.out hd3.below); have HB3 := Aside0.mk (below_then HB.out (Nat.le_of_lt (Nat.lt_of_le_of_lt HBASE.out (blk_lt HRD.out))) hd3.below); clear hd3 HRD HB; have HRD := HRD3; have HB := HB3; clear HRD3 HB3; (try clear c0 c1 c2 c3 f0 f1 f2 f3); obtain ⟨c0, c1, c2, c3, f0, f1, f2, f3⟩ := four_cells HRD.out) | (go_at_call 127; ((with_reducible refine (rd_look.calls _ base p k s n a1 false (size - 1) z a2 b2 HRD.out HBASE.out HL.out).mono ?_); rintro e w3 ⟨rfl, hr3, hb3⟩); have HRD3 := Aside0.mk hr3; have HB3 := Aside0.mk (HB.out.trans hb3); clear hr3 hb3 HRD HB; have HRD := HRD3; have HB := HB3; clear HRD3 HB3; (try clear c0 c1 c2 c3 f0 f1 f2 f3); obtain ⟨c0, c1, c2, c3, f0, f1, f2, f3⟩ := four_cells HRD.out))
  go_ret
  exact ⟨by first | rfl | simp, HRD.out, HB.out⟩
set_option maxHeartbeats 4000000 in
set_option maxRecDepth 100000 in
theorem zeta3_long (W : World) (base p k : Nat) (s : ByteArray) (n a : Int) (bad : Bool) (h a1 low many size short z a2 : Int) (b2 : Bool) (hrd : ReadIs W p s n a bad) (hbase : base ≤ p) (hh : rd_unary k s n a bad 11 = some (h, a1, false)) (hh0 : 1 ≤ h) (hh1 : h ≤ 100)
    (hz : code_zeta.f 3 (h - 1) = some (low, many, size, short)) (hlow0 : 0 ≤ low) (hlow : low ≤ 4294967296) (hs0 : 1 ≤ size) (hs1 : size ≤ 64) (hsh0 : 0 ≤ short) (hsh1 : short ≤ 4294967296) (hl : rd_look k s n a1 false (size - 1) = some (z, a2, b2)) (hz0 : 0 ≤ z) (hz1 : z ≤ 4294967296) (hzs : short ≤ z) (y a3 : Int) (b3 : Bool) (hy : rd_look k s n a2 b2 1 = some (y, a3, b3)) (hy0 : 0 ≤ y) (hy1 : y ≤ 1) :
    Calls Try.prog 123 #[.pointer (some ⟨p, 0, none⟩), .int .i64 3] W fun e w' => e = .returned (.int .i64 (low + (z * 2 + y - short))) ∧ ReadIs w' p s n a3 b3 ∧ Below base W w' := by
  have hu5 := Try.underlying125
  have HRD := Aside0.mk hrd
  have HBASE := Aside0.mk hbase
  have HB := Aside0.mk (Below.refl base W)
  clear hrd hbase
  have HH := Aside0.mk hh
  have HZ := Aside0.mk hz
  have HL := Aside0.mk hl
  clear hh hz hl
  have HY := Aside0.mk hy
  clear hy
  go_enter Try.func123, Try.ntmps123
  go_wp2_with (first | (go_at_call 120; ((with_reducible refine (rd_unary.calls _ base p k s n a bad 11 h a1 false HRD.out HBASE.out HH.out).mono ?_); rintro e w3 ⟨rfl, hr3, hb3⟩); have HRD3 := Aside0.mk hr3; have HB3 := Aside0.mk (HB.out.trans hb3); clear hr3 hb3 HRD HB; have HRD := HRD3; have HB := HB3; clear HRD3 HB3; (try clear c0 c1 c2 c3 f0 f1 f2 f3); obtain ⟨c0, c1, c2, c3, f0, f1, f2, f3⟩ := four_cells HRD.out) | (go_at_call 119; (with_reducible refine (code_zeta.calls 3 (h - 1) low many size short _ HZ.out).mono ?_); rintro e w3 ⟨rfl, hd3⟩; have HRD3 := Aside0.mk (read_below HRD.out hd3.below); have HB3 := Aside0.mk (below_then HB.out (Nat.le_of_lt (Nat.lt_of_le_of_lt HBASE.out (blk_lt HRD.out))) hd3.below); clear hd3 HRD HB; have HRD := HRD3; have HB := HB3; clear HRD3 HB3; (try clear c0 c1 c2 c3 f0 f1 f2 f3); obtain ⟨c0, c1, c2, c3, f0, f1, f2, f3⟩ := four_cells HRD.out) | (go_at_call 127; ((with_reducible refine (rd_look.calls _ base p k s n a1 false (size - 1) z a2 b2 HRD.out HBASE.out HL.out).mono ?_); rintro e w3 ⟨rfl, hr3, hb3⟩); have HRD3 := Aside0.mk hr3; have HB3 := Aside0.mk (HB.out.trans hb3); clear hr3 hb3 HRD HB; have HRD := HRD3; have HB := HB3; clear HRD3 HB3; (try clear c0 c1 c2 c3 f0 f1 f2 f3); obtain ⟨c0, c1, c2, c3, f0, f1, f2, f3⟩ := four_cells HRD.out) | (go_at_call 127; ((with_reducible refine (rd_look.calls _ base p k s n a2 b2 1 y a3 b3 HRD.out HBASE.out HY.out).mono ?_); rintro e w3 ⟨rfl, hr3, hb3⟩); have HRD3 := Aside0.mk hr3; have HB3 := Aside0.mk (HB.out.trans hb3); clear hr3 hb3 HRD HB; have HRD := HRD3; have HB := HB3; clear HRD3 HB3; (try clear c0 c1 c2 c3 f0 f1 f2 f3); obtain ⟨c0, c1, c2, c3, f0, f1, f2, f3⟩ := four_cells HRD.out))
  go_ret
  exact ⟨by first | rfl | simp, HRD.out, HB.out⟩
end Go.Proofs.Ytnpghcikhpglkaa.Q
namespace Go.Proofs.Ytnpghcikhpglkaa.Q
open Go.RowKit Go.Proofs.YtnpghcikhpglkaaW.PrintWords Go.Proofs.YtnpghcikhpglkaaW.PrintLast Go.Proofs.YtnpghcikhpglkaaW.PrintMore Go.Proofs.Ytnpghcikhpglkaa.Hand Go.Proofs.Ytnpghcikhpglkaa.Pu
set_option linter.unusedVariables false
set_option linter.unusedSimpArgs false
def rd_delta (k : Nat) (s : ByteArray) (n a : Int) (bad : Bool) : Option (Int × Int × Bool) :=
  (rd_gamma k s n a bad).bind fun g => if g.2.2 = true then some (0, g.2.1, true) else if 30 < g.1 - 1 then (if g.1 ≤ 4611686018427387904 then some (0, g.2.1, true) else none) else if 0 ≤ g.1 - 1 then
    (rd_look k s n g.2.1 false (g.1 - 1)).bind fun l => some (Go.bits .or .i64 (IntKind.i64.wrap (2 ^ (g.1.toNat - 1))) l.1, l.2.1, l.2.2) else none
def rd_zeta (kk most : Int) (k : Nat) (s : ByteArray) (n a : Int) (bad : Bool) : Option (Int × Int × Bool) :=
  (rd_unary k s n a bad most).bind fun u => if u.2.2 = true then some (0, u.2.1, true) else if 1 ≤ u.1 ∧ u.1 ≤ 100 then
    (code_zeta.f kk (u.1 - 1)).bind fun q => if 0 ≤ q.1 ∧ q.1 ≤ 4294967296 ∧ 1 ≤ q.2.2.1 ∧ q.2.2.1 ≤ 64 ∧ 0 ≤ q.2.2.2 ∧ q.2.2.2 ≤ 4294967296 then
      (rd_look k s n u.2.1 false (q.2.2.1 - 1)).bind fun z => if 0 ≤ z.1 ∧ z.1 ≤ 4294967296 then
        (if z.1 < q.2.2.2 then some (q.1 + z.1, z.2.1, z.2.2) else (rd_look k s n z.2.1 z.2.2 1).bind fun y => if 0 ≤ y.1 ∧ y.1 ≤ 1 then some (q.1 + (z.1 * 2 + y.1 - q.2.2.2), y.2.1, y.2.2) else none) else none
      else none
    else none
theorem rd_delta.calls (W : World) (base p k : Nat) (s : ByteArray) (n a : Int) (bad : Bool) (r a' : Int) (bad' : Bool) (hrd : ReadIs W p s n a bad) (hbase : base ≤ p) (h : rd_delta k s n a bad = some (r, a', bad')) :
    Calls Try.prog 122 #[.pointer (some ⟨p, 0, none⟩)] W fun e w' => e = .returned (.int .i64 r) ∧ ReadIs w' p s n a' bad' ∧ Below base W w' := by
  unfold rd_delta at h
  obtain ⟨⟨g, a1, b1⟩, h1, h2⟩ := Option.bind_eq_some_iff.1 h
  simp only at h2
  cases b1 with
  | true =>
    rw [if_pos rfl] at h2
    simp only [Option.some.injEq, Prod.mk.injEq] at h2
    obtain ⟨rfl, rfl, rfl⟩ := h2
    exact delta_bad1 W base p k s n a bad g a1 hrd hbase h1
  | false =>
    rw [if_neg (by simp)] at h2
    by_cases c1 : 30 < g - 1
    · rw [if_pos c1] at h2
      split at h2
      · rename_i c2
        simp only [Option.some.injEq, Prod.mk.injEq] at h2
        obtain ⟨rfl, rfl, rfl⟩ := h2
        exact delta_bad2 W base p k s n a bad g a1 hrd hbase h1 c1 c2
      · cases h2
    · rw [if_neg c1] at h2
      split at h2
      · rename_i c2
        obtain ⟨⟨l, a2, b2⟩, h3, h4⟩ := Option.bind_eq_some_iff.1 h2
        simp only [Option.some.injEq, Prod.mk.injEq] at h4
        obtain ⟨rfl, rfl, rfl⟩ := h4
        exact delta_ok W base p k s n a bad g a1 l a2 b2 hrd hbase h1 c2 (by omega) h3
      · cases h2
theorem rd_zeta2.calls (W : World) (base p k : Nat) (s : ByteArray) (n a : Int) (bad : Bool) (r a' : Int) (bad' : Bool) (hrd : ReadIs W p s n a bad) (hbase : base ≤ p) (h : rd_zeta 2 16 k s n a bad = some (r, a', bad')) :
    Calls Try.prog 123 #[.pointer (some ⟨p, 0, none⟩), .int .i64 2] W fun e w' => e = .returned (.int .i64 r) ∧ ReadIs w' p s n a' bad' ∧ Below base W w' := by
  unfold rd_zeta at h
  obtain ⟨⟨u, a1, b1⟩, h1, h2⟩ := Option.bind_eq_some_iff.1 h
  simp only at h2
  cases b1 with
  | true =>
    rw [if_pos rfl] at h2
    simp only [Option.some.injEq, Prod.mk.injEq] at h2
    obtain ⟨rfl, rfl, rfl⟩ := h2
    exact zeta2_bad W base p k s n a bad u a1 hrd hbase h1
  | false =>
    rw [if_neg (by simp)] at h2
    split at h2
    · rename_i c1
      obtain ⟨⟨low, many, size, short⟩, h3, h4⟩ := Option.bind_eq_some_iff.1 h2
      simp only at h4
      split at h4
      · rename_i c2
        obtain ⟨⟨z, a2, b2⟩, h5, h6⟩ := Option.bind_eq_some_iff.1 h4
        simp only at h6
        split at h6
        · rename_i c3
          split at h6
          · rename_i c4
            simp only [Option.some.injEq, Prod.mk.injEq] at h6
            obtain ⟨rfl, rfl, rfl⟩ := h6
            exact zeta2_short W base p k s n a bad u a1 low many size short z a2 b2 hrd hbase h1 c1.1 c1.2 h3 c2.1 c2.2.1 c2.2.2.1 c2.2.2.2.1 c2.2.2.2.2.1 c2.2.2.2.2.2 h5 c3.1 c3.2 c4
          · rename_i c4
            obtain ⟨⟨y, a3, b3⟩, h7, h8⟩ := Option.bind_eq_some_iff.1 h6
            simp only at h8
            split at h8
            · rename_i c5
              simp only [Option.some.injEq, Prod.mk.injEq] at h8
              obtain ⟨rfl, rfl, rfl⟩ := h8
              exact zeta2_long W base p k s n a bad u a1 low many size short z a2 b2 hrd hbase h1 c1.1 c1.2 h3 c2.1 c2.2.1 c2.2.2.1 c2.2.2.2.1 c2.2.2.2.2.1 c2.2.2.2.2.2 h5 c3.1 c3.2 (by omega) y a3 b3 h7 c5.1 c5.2
            · cases h8
        · cases h6
      · cases h4
    · cases h2
theorem rd_zeta3.calls (W : World) (base p k : Nat) (s : ByteArray) (n a : Int) (bad : Bool) (r a' : Int) (bad' : Bool) (hrd : ReadIs W p s n a bad) (hbase : base ≤ p) (h : rd_zeta 3 11 k s n a bad = some (r, a', bad')) :
    Calls Try.prog 123 #[.pointer (some ⟨p, 0, none⟩), .int .i64 3] W fun e w' => e = .returned (.int .i64 r) ∧ ReadIs w' p s n a' bad' ∧ Below base W w' := by
  unfold rd_zeta at h
  obtain ⟨⟨u, a1, b1⟩, h1, h2⟩ := Option.bind_eq_some_iff.1 h
  simp only at h2
  cases b1 with
  | true =>
    rw [if_pos rfl] at h2
    simp only [Option.some.injEq, Prod.mk.injEq] at h2
    obtain ⟨rfl, rfl, rfl⟩ := h2
    exact zeta3_bad W base p k s n a bad u a1 hrd hbase h1
  | false =>
    rw [if_neg (by simp)] at h2
    split at h2
    · rename_i c1
      obtain ⟨⟨low, many, size, short⟩, h3, h4⟩ := Option.bind_eq_some_iff.1 h2
      simp only at h4
      split at h4
      · rename_i c2
        obtain ⟨⟨z, a2, b2⟩, h5, h6⟩ := Option.bind_eq_some_iff.1 h4
        simp only at h6
        split at h6
        · rename_i c3
          split at h6
          · rename_i c4
            simp only [Option.some.injEq, Prod.mk.injEq] at h6
            obtain ⟨rfl, rfl, rfl⟩ := h6
            exact zeta3_short W base p k s n a bad u a1 low many size short z a2 b2 hrd hbase h1 c1.1 c1.2 h3 c2.1 c2.2.1 c2.2.2.1 c2.2.2.2.1 c2.2.2.2.2.1 c2.2.2.2.2.2 h5 c3.1 c3.2 c4
          · rename_i c4
            obtain ⟨⟨y, a3, b3⟩, h7, h8⟩ := Option.bind_eq_some_iff.1 h6
            simp only at h8
            split at h8
            · rename_i c5
              simp only [Option.some.injEq, Prod.mk.injEq] at h8
              obtain ⟨rfl, rfl, rfl⟩ := h8
              exact zeta3_long W base p k s n a bad u a1 low many size short z a2 b2 hrd hbase h1 c1.1 c1.2 h3 c2.1 c2.2.1 c2.2.2.1 c2.2.2.2.1 c2.2.2.2.2.1 c2.2.2.2.2.2 h5 c3.1 c3.2 (by omega) y a3 b3 h7 c5.1 c5.2
            · cases h8
        · cases h6
      · cases h4
    · cases h2
theorem rparts4 : code_parts.f 4 = some 2 := by decide +kernel
theorem rparts5 : code_parts.f 5 = some 3 := by decide +kernel
/-- The reader's answer of a kind. -/
def readK (k : Nat) (s : ByteArray) (n a kind : Int) : Option (Int × Int × Bool) :=
  if kind = 1 then rd_unary k s n a false 1000 else if kind = 2 then rd_gamma k s n a false else if kind = 3 then rd_delta k s n a false else if kind = 4 then rd_zeta 2 16 k s n a false else if kind = 5 then rd_zeta 3 11 k s n a false else none
set_option maxHeartbeats 4000000 in
set_option maxRecDepth 100000 in
theorem read1_bad (w : World) (k : Nat) (s : ByteArray) (n a r a' : Int) (hm : rd_unary k s n a false 1000 = some (r, a', true))  :
    Calls Try.prog 105 #[.agg #[.string s, .int .i64 n], .int .i64 a, .int .i64 1] w fun e w' => e = .returned (.tuple #[.int .i64 0, .int .i64 0, .bool false]) ∧ Below w.heap.size w w' := by
  have hu := Try.underlying27
  have hu5 := Try.underlying125
  have HS := Aside0.mk (start2 w (.cells #[.string s, .int .i64 n] 27) (.cells #[.string s, .int .i64 n, .int .i64 a, .bool false] 125))
  have HRD : Aside0 (ReadIs ((w.alloc (.cells #[.string s, .int .i64 n] 27)).alloc (.cells #[.string s, .int .i64 n, .int .i64 a, .bool false] 125)) (w.heap.size + 1) s n a false) := ⟨HS.out.2.1⟩
  have HB := Aside0.mk HS.out.2.2.1
  clear HS
  have HM := Aside0.mk hm
  clear hm
  go_enter Try.func105, Try.ntmps105
  go_wp2_with (first | (go_at_call 120; ((with_reducible refine (rd_unary.calls _ w.heap.size (w.heap.size + 1) k s n a false 1000 r a' true HRD.out (Nat.le_succ _) HM.out).mono ?_); rintro e w3 ⟨rfl, hr3, hb3⟩); have HRD3 := Aside0.mk hr3; have HB3 := Aside0.mk (HB.out.trans hb3); clear hr3 hb3 HRD HB; have HRD := HRD3; have HB := HB3; clear HRD3 HB3; (try clear c0 c1 c2 c3 f0 f1 f2 f3); obtain ⟨c0, c1, c2, c3, f0, f1, f2, f3⟩ := four_cells HRD.out))
  refine bodyPost_ret (results_list (rs := [.tmp 6, .tmp 7, .tmp 8]) rfl (by simp) (.tmp (.tmp (.tmp .nil)))) rfl ⟨rfl, HB.out⟩
set_option maxHeartbeats 4000000 in
set_option maxRecDepth 100000 in
theorem read1_big (w : World) (k : Nat) (s : ByteArray) (n a r a' : Int) (hm : rd_unary k s n a false 1000 = some (r, a', false)) (hr : 1073741824 < r) :
    Calls Try.prog 105 #[.agg #[.string s, .int .i64 n], .int .i64 a, .int .i64 1] w fun e w' => e = .returned (.tuple #[.int .i64 0, .int .i64 0, .bool false]) ∧ Below w.heap.size w w' := by
  have hu := Try.underlying27
  have hu5 := Try.underlying125
  have HS := Aside0.mk (start2 w (.cells #[.string s, .int .i64 n] 27) (.cells #[.string s, .int .i64 n, .int .i64 a, .bool false] 125))
  have HRD : Aside0 (ReadIs ((w.alloc (.cells #[.string s, .int .i64 n] 27)).alloc (.cells #[.string s, .int .i64 n, .int .i64 a, .bool false] 125)) (w.heap.size + 1) s n a false) := ⟨HS.out.2.1⟩
  have HB := Aside0.mk HS.out.2.2.1
  clear HS
  have HM := Aside0.mk hm
  clear hm
  go_enter Try.func105, Try.ntmps105
  go_wp2_with (first | (go_at_call 120; ((with_reducible refine (rd_unary.calls _ w.heap.size (w.heap.size + 1) k s n a false 1000 r a' false HRD.out (Nat.le_succ _) HM.out).mono ?_); rintro e w3 ⟨rfl, hr3, hb3⟩); have HRD3 := Aside0.mk hr3; have HB3 := Aside0.mk (HB.out.trans hb3); clear hr3 hb3 HRD HB; have HRD := HRD3; have HB := HB3; clear HRD3 HB3; (try clear c0 c1 c2 c3 f0 f1 f2 f3); obtain ⟨c0, c1, c2, c3, f0, f1, f2, f3⟩ := four_cells HRD.out))
  refine bodyPost_ret (results_list (rs := [.tmp 6, .tmp 7, .tmp 8]) rfl (by simp) (.tmp (.tmp (.tmp .nil)))) rfl ⟨rfl, HB.out⟩
set_option maxHeartbeats 4000000 in
set_option maxRecDepth 100000 in
theorem read1_ok (w : World) (k : Nat) (s : ByteArray) (n a r a' : Int) (hm : rd_unary k s n a false 1000 = some (r, a', false)) (hr : r ≤ 1073741824) :
    Calls Try.prog 105 #[.agg #[.string s, .int .i64 n], .int .i64 a, .int .i64 1] w fun e w' => e = .returned (.tuple #[.int .i64 r, .int .i64 a', .bool true]) ∧ Below w.heap.size w w' := by
  have hu := Try.underlying27
  have hu5 := Try.underlying125
  have HS := Aside0.mk (start2 w (.cells #[.string s, .int .i64 n] 27) (.cells #[.string s, .int .i64 n, .int .i64 a, .bool false] 125))
  have HRD : Aside0 (ReadIs ((w.alloc (.cells #[.string s, .int .i64 n] 27)).alloc (.cells #[.string s, .int .i64 n, .int .i64 a, .bool false] 125)) (w.heap.size + 1) s n a false) := ⟨HS.out.2.1⟩
  have HB := Aside0.mk HS.out.2.2.1
  clear HS
  have HM := Aside0.mk hm
  clear hm
  go_enter Try.func105, Try.ntmps105
  go_wp2_with (first | (go_at_call 120; ((with_reducible refine (rd_unary.calls _ w.heap.size (w.heap.size + 1) k s n a false 1000 r a' false HRD.out (Nat.le_succ _) HM.out).mono ?_); rintro e w3 ⟨rfl, hr3, hb3⟩); have HRD3 := Aside0.mk hr3; have HB3 := Aside0.mk (HB.out.trans hb3); clear hr3 hb3 HRD HB; have HRD := HRD3; have HB := HB3; clear HRD3 HB3; (try clear c0 c1 c2 c3 f0 f1 f2 f3); obtain ⟨c0, c1, c2, c3, f0, f1, f2, f3⟩ := four_cells HRD.out))
  go_region
  go_wp2
  refine bodyPost_ret (results_list (rs := [.tmp 6, .tmp 7, .tmp 8]) rfl (by simp) (.tmp (.tmp (.tmp .nil)))) rfl ⟨rfl, pw_below_drewN HB.out 1⟩
set_option maxHeartbeats 4000000 in
set_option maxRecDepth 100000 in
theorem read2_bad (w : World) (k : Nat) (s : ByteArray) (n a r a' : Int) (hm : rd_gamma k s n a false = some (r, a', true))  :
    Calls Try.prog 105 #[.agg #[.string s, .int .i64 n], .int .i64 a, .int .i64 2] w fun e w' => e = .returned (.tuple #[.int .i64 0, .int .i64 0, .bool false]) ∧ Below w.heap.size w w' := by
  have hu := Try.underlying27
  have hu5 := Try.underlying125
  have HS := Aside0.mk (start2 w (.cells #[.string s, .int .i64 n] 27) (.cells #[.string s, .int .i64 n, .int .i64 a, .bool false] 125))
  have HRD : Aside0 (ReadIs ((w.alloc (.cells #[.string s, .int .i64 n] 27)).alloc (.cells #[.string s, .int .i64 n, .int .i64 a, .bool false] 125)) (w.heap.size + 1) s n a false) := ⟨HS.out.2.1⟩
  have HB := Aside0.mk HS.out.2.2.1
  clear HS
  have HM := Aside0.mk hm
  clear hm
  go_enter Try.func105, Try.ntmps105
  go_wp2_with (first | (go_at_call 121; ((with_reducible refine (rd_gamma.calls _ w.heap.size (w.heap.size + 1) k s n a false r a' true HRD.out (Nat.le_succ _) HM.out).mono ?_); rintro e w3 ⟨rfl, hr3, hb3⟩); have HRD3 := Aside0.mk hr3; have HB3 := Aside0.mk (HB.out.trans hb3); clear hr3 hb3 HRD HB; have HRD := HRD3; have HB := HB3; clear HRD3 HB3; (try clear c0 c1 c2 c3 f0 f1 f2 f3); obtain ⟨c0, c1, c2, c3, f0, f1, f2, f3⟩ := four_cells HRD.out))
  refine bodyPost_ret (results_list (rs := [.tmp 6, .tmp 7, .tmp 8]) rfl (by simp) (.tmp (.tmp (.tmp .nil)))) rfl ⟨rfl, HB.out⟩
set_option maxHeartbeats 4000000 in
set_option maxRecDepth 100000 in
theorem read2_big (w : World) (k : Nat) (s : ByteArray) (n a r a' : Int) (hm : rd_gamma k s n a false = some (r, a', false)) (hr : 1073741824 < r) :
    Calls Try.prog 105 #[.agg #[.string s, .int .i64 n], .int .i64 a, .int .i64 2] w fun e w' => e = .returned (.tuple #[.int .i64 0, .int .i64 0, .bool false]) ∧ Below w.heap.size w w' := by
  have hu := Try.underlying27
  have hu5 := Try.underlying125
  have HS := Aside0.mk (start2 w (.cells #[.string s, .int .i64 n] 27) (.cells #[.string s, .int .i64 n, .int .i64 a, .bool false] 125))
  have HRD : Aside0 (ReadIs ((w.alloc (.cells #[.string s, .int .i64 n] 27)).alloc (.cells #[.string s, .int .i64 n, .int .i64 a, .bool false] 125)) (w.heap.size + 1) s n a false) := ⟨HS.out.2.1⟩
  have HB := Aside0.mk HS.out.2.2.1
  clear HS
  have HM := Aside0.mk hm
  clear hm
  go_enter Try.func105, Try.ntmps105
  go_wp2_with (first | (go_at_call 121; ((with_reducible refine (rd_gamma.calls _ w.heap.size (w.heap.size + 1) k s n a false r a' false HRD.out (Nat.le_succ _) HM.out).mono ?_); rintro e w3 ⟨rfl, hr3, hb3⟩); have HRD3 := Aside0.mk hr3; have HB3 := Aside0.mk (HB.out.trans hb3); clear hr3 hb3 HRD HB; have HRD := HRD3; have HB := HB3; clear HRD3 HB3; (try clear c0 c1 c2 c3 f0 f1 f2 f3); obtain ⟨c0, c1, c2, c3, f0, f1, f2, f3⟩ := four_cells HRD.out))
  refine bodyPost_ret (results_list (rs := [.tmp 6, .tmp 7, .tmp 8]) rfl (by simp) (.tmp (.tmp (.tmp .nil)))) rfl ⟨rfl, HB.out⟩
set_option maxHeartbeats 4000000 in
set_option maxRecDepth 100000 in
theorem read2_ok (w : World) (k : Nat) (s : ByteArray) (n a r a' : Int) (hm : rd_gamma k s n a false = some (r, a', false)) (hr : r ≤ 1073741824) :
    Calls Try.prog 105 #[.agg #[.string s, .int .i64 n], .int .i64 a, .int .i64 2] w fun e w' => e = .returned (.tuple #[.int .i64 r, .int .i64 a', .bool true]) ∧ Below w.heap.size w w' := by
  have hu := Try.underlying27
  have hu5 := Try.underlying125
  have HS := Aside0.mk (start2 w (.cells #[.string s, .int .i64 n] 27) (.cells #[.string s, .int .i64 n, .int .i64 a, .bool false] 125))
  have HRD : Aside0 (ReadIs ((w.alloc (.cells #[.string s, .int .i64 n] 27)).alloc (.cells #[.string s, .int .i64 n, .int .i64 a, .bool false] 125)) (w.heap.size + 1) s n a false) := ⟨HS.out.2.1⟩
  have HB := Aside0.mk HS.out.2.2.1
  clear HS
  have HM := Aside0.mk hm
  clear hm
  go_enter Try.func105, Try.ntmps105
  go_wp2_with (first | (go_at_call 121; ((with_reducible refine (rd_gamma.calls _ w.heap.size (w.heap.size + 1) k s n a false r a' false HRD.out (Nat.le_succ _) HM.out).mono ?_); rintro e w3 ⟨rfl, hr3, hb3⟩); have HRD3 := Aside0.mk hr3; have HB3 := Aside0.mk (HB.out.trans hb3); clear hr3 hb3 HRD HB; have HRD := HRD3; have HB := HB3; clear HRD3 HB3; (try clear c0 c1 c2 c3 f0 f1 f2 f3); obtain ⟨c0, c1, c2, c3, f0, f1, f2, f3⟩ := four_cells HRD.out))
  go_region
  go_wp2
  refine bodyPost_ret (results_list (rs := [.tmp 6, .tmp 7, .tmp 8]) rfl (by simp) (.tmp (.tmp (.tmp .nil)))) rfl ⟨rfl, pw_below_drewN HB.out 1⟩
set_option maxHeartbeats 4000000 in
set_option maxRecDepth 100000 in
theorem read3_bad (w : World) (k : Nat) (s : ByteArray) (n a r a' : Int) (hm : rd_delta k s n a false = some (r, a', true))  :
    Calls Try.prog 105 #[.agg #[.string s, .int .i64 n], .int .i64 a, .int .i64 3] w fun e w' => e = .returned (.tuple #[.int .i64 0, .int .i64 0, .bool false]) ∧ Below w.heap.size w w' := by
  have hu := Try.underlying27
  have hu5 := Try.underlying125
  have HS := Aside0.mk (start2 w (.cells #[.string s, .int .i64 n] 27) (.cells #[.string s, .int .i64 n, .int .i64 a, .bool false] 125))
  have HRD : Aside0 (ReadIs ((w.alloc (.cells #[.string s, .int .i64 n] 27)).alloc (.cells #[.string s, .int .i64 n, .int .i64 a, .bool false] 125)) (w.heap.size + 1) s n a false) := ⟨HS.out.2.1⟩
  have HB := Aside0.mk HS.out.2.2.1
  clear HS
  have HM := Aside0.mk hm
  clear hm
  go_enter Try.func105, Try.ntmps105
  go_wp2_with (first | (go_at_call 122; ((with_reducible refine (rd_delta.calls _ w.heap.size (w.heap.size + 1) k s n a false r a' true HRD.out (Nat.le_succ _) HM.out).mono ?_); rintro e w3 ⟨rfl, hr3, hb3⟩); have HRD3 := Aside0.mk hr3; have HB3 := Aside0.mk (HB.out.trans hb3); clear hr3 hb3 HRD HB; have HRD := HRD3; have HB := HB3; clear HRD3 HB3; (try clear c0 c1 c2 c3 f0 f1 f2 f3); obtain ⟨c0, c1, c2, c3, f0, f1, f2, f3⟩ := four_cells HRD.out))
  refine bodyPost_ret (results_list (rs := [.tmp 6, .tmp 7, .tmp 8]) rfl (by simp) (.tmp (.tmp (.tmp .nil)))) rfl ⟨rfl, HB.out⟩
set_option maxHeartbeats 4000000 in
set_option maxRecDepth 100000 in
theorem read3_big (w : World) (k : Nat) (s : ByteArray) (n a r a' : Int) (hm : rd_delta k s n a false = some (r, a', false)) (hr : 1073741824 < r) :
    Calls Try.prog 105 #[.agg #[.string s, .int .i64 n], .int .i64 a, .int .i64 3] w fun e w' => e = .returned (.tuple #[.int .i64 0, .int .i64 0, .bool false]) ∧ Below w.heap.size w w' := by
  have hu := Try.underlying27
  have hu5 := Try.underlying125
  have HS := Aside0.mk (start2 w (.cells #[.string s, .int .i64 n] 27) (.cells #[.string s, .int .i64 n, .int .i64 a, .bool false] 125))
  have HRD : Aside0 (ReadIs ((w.alloc (.cells #[.string s, .int .i64 n] 27)).alloc (.cells #[.string s, .int .i64 n, .int .i64 a, .bool false] 125)) (w.heap.size + 1) s n a false) := ⟨HS.out.2.1⟩
  have HB := Aside0.mk HS.out.2.2.1
  clear HS
  have HM := Aside0.mk hm
  clear hm
  go_enter Try.func105, Try.ntmps105
  go_wp2_with (first | (go_at_call 122; ((with_reducible refine (rd_delta.calls _ w.heap.size (w.heap.size + 1) k s n a false r a' false HRD.out (Nat.le_succ _) HM.out).mono ?_); rintro e w3 ⟨rfl, hr3, hb3⟩); have HRD3 := Aside0.mk hr3; have HB3 := Aside0.mk (HB.out.trans hb3); clear hr3 hb3 HRD HB; have HRD := HRD3; have HB := HB3; clear HRD3 HB3; (try clear c0 c1 c2 c3 f0 f1 f2 f3); obtain ⟨c0, c1, c2, c3, f0, f1, f2, f3⟩ := four_cells HRD.out))
  refine bodyPost_ret (results_list (rs := [.tmp 6, .tmp 7, .tmp 8]) rfl (by simp) (.tmp (.tmp (.tmp .nil)))) rfl ⟨rfl, HB.out⟩
set_option maxHeartbeats 4000000 in
set_option maxRecDepth 100000 in
theorem read3_ok (w : World) (k : Nat) (s : ByteArray) (n a r a' : Int) (hm : rd_delta k s n a false = some (r, a', false)) (hr : r ≤ 1073741824) :
    Calls Try.prog 105 #[.agg #[.string s, .int .i64 n], .int .i64 a, .int .i64 3] w fun e w' => e = .returned (.tuple #[.int .i64 r, .int .i64 a', .bool true]) ∧ Below w.heap.size w w' := by
  have hu := Try.underlying27
  have hu5 := Try.underlying125
  have HS := Aside0.mk (start2 w (.cells #[.string s, .int .i64 n] 27) (.cells #[.string s, .int .i64 n, .int .i64 a, .bool false] 125))
  have HRD : Aside0 (ReadIs ((w.alloc (.cells #[.string s, .int .i64 n] 27)).alloc (.cells #[.string s, .int .i64 n, .int .i64 a, .bool false] 125)) (w.heap.size + 1) s n a false) := ⟨HS.out.2.1⟩
  have HB := Aside0.mk HS.out.2.2.1
  clear HS
  have HM := Aside0.mk hm
  clear hm
  go_enter Try.func105, Try.ntmps105
  go_wp2_with (first | (go_at_call 122; ((with_reducible refine (rd_delta.calls _ w.heap.size (w.heap.size + 1) k s n a false r a' false HRD.out (Nat.le_succ _) HM.out).mono ?_); rintro e w3 ⟨rfl, hr3, hb3⟩); have HRD3 := Aside0.mk hr3; have HB3 := Aside0.mk (HB.out.trans hb3); clear hr3 hb3 HRD HB; have HRD := HRD3; have HB := HB3; clear HRD3 HB3; (try clear c0 c1 c2 c3 f0 f1 f2 f3); obtain ⟨c0, c1, c2, c3, f0, f1, f2, f3⟩ := four_cells HRD.out))
  go_region
  go_wp2
  refine bodyPost_ret (results_list (rs := [.tmp 6, .tmp 7, .tmp 8]) rfl (by simp) (.tmp (.tmp (.tmp .nil)))) rfl ⟨rfl, pw_below_drewN HB.out 1⟩
set_option maxHeartbeats 4000000 in
set_option maxRecDepth 100000 in
theorem read4_bad (w : World) (k : Nat) (s : ByteArray) (n a r a' : Int) (hm : rd_zeta 2 16 k s n a false = some (r, a', true))  :
    Calls Try.prog 105 #[.agg #[.string s, .int .i64 n], .int .i64 a, .int .i64 4] w fun e w' => e = .returned (.tuple #[.int .i64 0, .int .i64 0, .bool false]) ∧ Below w.heap.size w w' := by
  have hu := Try.underlying27
  have hu5 := Try.underlying125
  have HS := Aside0.mk (start2 w (.cells #[.string s, .int .i64 n] 27) (.cells #[.string s, .int .i64 n, .int .i64 a, .bool false] 125))
  have HRD : Aside0 (ReadIs ((w.alloc (.cells #[.string s, .int .i64 n] 27)).alloc (.cells #[.string s, .int .i64 n, .int .i64 a, .bool false] 125)) (w.heap.size + 1) s n a false) := ⟨HS.out.2.1⟩
  have HB := Aside0.mk HS.out.2.2.1
  clear HS
  have HM := Aside0.mk hm
  clear hm
  go_enter Try.func105, Try.ntmps105
  go_wp2_with (first | (go_at_call 123; ((with_reducible refine (rd_zeta2.calls _ w.heap.size (w.heap.size + 1) k s n a false r a' true HRD.out (Nat.le_succ _) HM.out).mono ?_); rintro e w3 ⟨rfl, hr3, hb3⟩); have HRD3 := Aside0.mk hr3; have HB3 := Aside0.mk (HB.out.trans hb3); clear hr3 hb3 HRD HB; have HRD := HRD3; have HB := HB3; clear HRD3 HB3; (try clear c0 c1 c2 c3 f0 f1 f2 f3); obtain ⟨c0, c1, c2, c3, f0, f1, f2, f3⟩ := four_cells HRD.out) | (go_at_call 118; (with_reducible refine (code_parts.calls 4 2 _ rparts4).mono ?_); rintro e w3 ⟨rfl, hd3⟩; have HRD3 := Aside0.mk (read_below HRD.out hd3.below); have HB3 := Aside0.mk (below_then HB.out HB.out.size hd3.below); clear hd3 HRD HB; have HRD := HRD3; have HB := HB3; clear HRD3 HB3; (try clear c0 c1 c2 c3 f0 f1 f2 f3); obtain ⟨c0, c1, c2, c3, f0, f1, f2, f3⟩ := four_cells HRD.out))
  refine bodyPost_ret (results_list (rs := [.tmp 6, .tmp 7, .tmp 8]) rfl (by simp) (.tmp (.tmp (.tmp .nil)))) rfl ⟨rfl, HB.out⟩
set_option maxHeartbeats 4000000 in
set_option maxRecDepth 100000 in
theorem read4_big (w : World) (k : Nat) (s : ByteArray) (n a r a' : Int) (hm : rd_zeta 2 16 k s n a false = some (r, a', false)) (hr : 1073741824 < r) :
    Calls Try.prog 105 #[.agg #[.string s, .int .i64 n], .int .i64 a, .int .i64 4] w fun e w' => e = .returned (.tuple #[.int .i64 0, .int .i64 0, .bool false]) ∧ Below w.heap.size w w' := by
  have hu := Try.underlying27
  have hu5 := Try.underlying125
  have HS := Aside0.mk (start2 w (.cells #[.string s, .int .i64 n] 27) (.cells #[.string s, .int .i64 n, .int .i64 a, .bool false] 125))
  have HRD : Aside0 (ReadIs ((w.alloc (.cells #[.string s, .int .i64 n] 27)).alloc (.cells #[.string s, .int .i64 n, .int .i64 a, .bool false] 125)) (w.heap.size + 1) s n a false) := ⟨HS.out.2.1⟩
  have HB := Aside0.mk HS.out.2.2.1
  clear HS
  have HM := Aside0.mk hm
  clear hm
  go_enter Try.func105, Try.ntmps105
  go_wp2_with (first | (go_at_call 123; ((with_reducible refine (rd_zeta2.calls _ w.heap.size (w.heap.size + 1) k s n a false r a' false HRD.out (Nat.le_succ _) HM.out).mono ?_); rintro e w3 ⟨rfl, hr3, hb3⟩); have HRD3 := Aside0.mk hr3; have HB3 := Aside0.mk (HB.out.trans hb3); clear hr3 hb3 HRD HB; have HRD := HRD3; have HB := HB3; clear HRD3 HB3; (try clear c0 c1 c2 c3 f0 f1 f2 f3); obtain ⟨c0, c1, c2, c3, f0, f1, f2, f3⟩ := four_cells HRD.out) | (go_at_call 118; (with_reducible refine (code_parts.calls 4 2 _ rparts4).mono ?_); rintro e w3 ⟨rfl, hd3⟩; have HRD3 := Aside0.mk (read_below HRD.out hd3.below); have HB3 := Aside0.mk (below_then HB.out HB.out.size hd3.below); clear hd3 HRD HB; have HRD := HRD3; have HB := HB3; clear HRD3 HB3; (try clear c0 c1 c2 c3 f0 f1 f2 f3); obtain ⟨c0, c1, c2, c3, f0, f1, f2, f3⟩ := four_cells HRD.out))
  refine bodyPost_ret (results_list (rs := [.tmp 6, .tmp 7, .tmp 8]) rfl (by simp) (.tmp (.tmp (.tmp .nil)))) rfl ⟨rfl, HB.out⟩
set_option maxHeartbeats 4000000 in
set_option maxRecDepth 100000 in
theorem read4_ok (w : World) (k : Nat) (s : ByteArray) (n a r a' : Int) (hm : rd_zeta 2 16 k s n a false = some (r, a', false)) (hr : r ≤ 1073741824) :
    Calls Try.prog 105 #[.agg #[.string s, .int .i64 n], .int .i64 a, .int .i64 4] w fun e w' => e = .returned (.tuple #[.int .i64 r, .int .i64 a', .bool true]) ∧ Below w.heap.size w w' := by
  have hu := Try.underlying27
  have hu5 := Try.underlying125
  have HS := Aside0.mk (start2 w (.cells #[.string s, .int .i64 n] 27) (.cells #[.string s, .int .i64 n, .int .i64 a, .bool false] 125))
  have HRD : Aside0 (ReadIs ((w.alloc (.cells #[.string s, .int .i64 n] 27)).alloc (.cells #[.string s, .int .i64 n, .int .i64 a, .bool false] 125)) (w.heap.size + 1) s n a false) := ⟨HS.out.2.1⟩
  have HB := Aside0.mk HS.out.2.2.1
  clear HS
  have HM := Aside0.mk hm
  clear hm
  go_enter Try.func105, Try.ntmps105
  go_wp2_with (first | (go_at_call 123; ((with_reducible refine (rd_zeta2.calls _ w.heap.size (w.heap.size + 1) k s n a false r a' false HRD.out (Nat.le_succ _) HM.out).mono ?_); rintro e w3 ⟨rfl, hr3, hb3⟩); have HRD3 := Aside0.mk hr3; have HB3 := Aside0.mk (HB.out.trans hb3); clear hr3 hb3 HRD HB; have HRD := HRD3; have HB := HB3; clear HRD3 HB3; (try clear c0 c1 c2 c3 f0 f1 f2 f3); obtain ⟨c0, c1, c2, c3, f0, f1, f2, f3⟩ := four_cells HRD.out) | (go_at_call 118; (with_reducible refine (code_parts.calls 4 2 _ rparts4).mono ?_); rintro e w3 ⟨rfl, hd3⟩; have HRD3 := Aside0.mk (read_below HRD.out hd3.below); have HB3 := Aside0.mk (below_then HB.out HB.out.size hd3.below); clear hd3 HRD HB; have HRD := HRD3; have HB := HB3; clear HRD3 HB3; (try clear c0 c1 c2 c3 f0 f1 f2 f3); obtain ⟨c0, c1, c2, c3, f0, f1, f2, f3⟩ := four_cells HRD.out))
  go_region
  go_wp2
  refine bodyPost_ret (results_list (rs := [.tmp 6, .tmp 7, .tmp 8]) rfl (by simp) (.tmp (.tmp (.tmp .nil)))) rfl ⟨rfl, pw_below_drewN HB.out 1⟩
set_option maxHeartbeats 4000000 in
set_option maxRecDepth 100000 in
theorem read5_bad (w : World) (k : Nat) (s : ByteArray) (n a r a' : Int) (hm : rd_zeta 3 11 k s n a false = some (r, a', true))  :
    Calls Try.prog 105 #[.agg #[.string s, .int .i64 n], .int .i64 a, .int .i64 5] w fun e w' => e = .returned (.tuple #[.int .i64 0, .int .i64 0, .bool false]) ∧ Below w.heap.size w w' := by
  have hu := Try.underlying27
  have hu5 := Try.underlying125
  have HS := Aside0.mk (start2 w (.cells #[.string s, .int .i64 n] 27) (.cells #[.string s, .int .i64 n, .int .i64 a, .bool false] 125))
  have HRD : Aside0 (ReadIs ((w.alloc (.cells #[.string s, .int .i64 n] 27)).alloc (.cells #[.string s, .int .i64 n, .int .i64 a, .bool false] 125)) (w.heap.size + 1) s n a false) := ⟨HS.out.2.1⟩
  have HB := Aside0.mk HS.out.2.2.1
  clear HS
  have HM := Aside0.mk hm
  clear hm
  go_enter Try.func105, Try.ntmps105
  go_wp2_with (first | (go_at_call 123; ((with_reducible refine (rd_zeta3.calls _ w.heap.size (w.heap.size + 1) k s n a false r a' true HRD.out (Nat.le_succ _) HM.out).mono ?_); rintro e w3 ⟨rfl, hr3, hb3⟩); have HRD3 := Aside0.mk hr3; have HB3 := Aside0.mk (HB.out.trans hb3); clear hr3 hb3 HRD HB; have HRD := HRD3; have HB := HB3; clear HRD3 HB3; (try clear c0 c1 c2 c3 f0 f1 f2 f3); obtain ⟨c0, c1, c2, c3, f0, f1, f2, f3⟩ := four_cells HRD.out) | (go_at_call 118; (with_reducible refine (code_parts.calls 5 3 _ rparts5).mono ?_); rintro e w3 ⟨rfl, hd3⟩; have HRD3 := Aside0.mk (read_below HRD.out hd3.below); have HB3 := Aside0.mk (below_then HB.out HB.out.size hd3.below); clear hd3 HRD HB; have HRD := HRD3; have HB := HB3; clear HRD3 HB3; (try clear c0 c1 c2 c3 f0 f1 f2 f3); obtain ⟨c0, c1, c2, c3, f0, f1, f2, f3⟩ := four_cells HRD.out))
  refine bodyPost_ret (results_list (rs := [.tmp 6, .tmp 7, .tmp 8]) rfl (by simp) (.tmp (.tmp (.tmp .nil)))) rfl ⟨rfl, HB.out⟩
set_option maxHeartbeats 4000000 in
set_option maxRecDepth 100000 in
theorem read5_big (w : World) (k : Nat) (s : ByteArray) (n a r a' : Int) (hm : rd_zeta 3 11 k s n a false = some (r, a', false)) (hr : 1073741824 < r) :
    Calls Try.prog 105 #[.agg #[.string s, .int .i64 n], .int .i64 a, .int .i64 5] w fun e w' => e = .returned (.tuple #[.int .i64 0, .int .i64 0, .bool false]) ∧ Below w.heap.size w w' := by
  have hu := Try.underlying27
  have hu5 := Try.underlying125
  have HS := Aside0.mk (start2 w (.cells #[.string s, .int .i64 n] 27) (.cells #[.string s, .int .i64 n, .int .i64 a, .bool false] 125))
  have HRD : Aside0 (ReadIs ((w.alloc (.cells #[.string s, .int .i64 n] 27)).alloc (.cells #[.string s, .int .i64 n, .int .i64 a, .bool false] 125)) (w.heap.size + 1) s n a false) := ⟨HS.out.2.1⟩
  have HB := Aside0.mk HS.out.2.2.1
  clear HS
  have HM := Aside0.mk hm
  clear hm
  go_enter Try.func105, Try.ntmps105
  go_wp2_with (first | (go_at_call 123; ((with_reducible refine (rd_zeta3.calls _ w.heap.size (w.heap.size + 1) k s n a false r a' false HRD.out (Nat.le_succ _) HM.out).mono ?_); rintro e w3 ⟨rfl, hr3, hb3⟩); have HRD3 := Aside0.mk hr3; have HB3 := Aside0.mk (HB.out.trans hb3); clear hr3 hb3 HRD HB; have HRD := HRD3; have HB := HB3; clear HRD3 HB3; (try clear c0 c1 c2 c3 f0 f1 f2 f3); obtain ⟨c0, c1, c2, c3, f0, f1, f2, f3⟩ := four_cells HRD.out) | (go_at_call 118; (with_reducible refine (code_parts.calls 5 3 _ rparts5).mono ?_); rintro e w3 ⟨rfl, hd3⟩; have HRD3 := Aside0.mk (read_below HRD.out hd3.below); have HB3 := Aside0.mk (below_then HB.out HB.out.size hd3.below); clear hd3 HRD HB; have HRD := HRD3; have HB := HB3; clear HRD3 HB3; (try clear c0 c1 c2 c3 f0 f1 f2 f3); obtain ⟨c0, c1, c2, c3, f0, f1, f2, f3⟩ := four_cells HRD.out))
  refine bodyPost_ret (results_list (rs := [.tmp 6, .tmp 7, .tmp 8]) rfl (by simp) (.tmp (.tmp (.tmp .nil)))) rfl ⟨rfl, HB.out⟩
set_option maxHeartbeats 4000000 in
set_option maxRecDepth 100000 in
theorem read5_ok (w : World) (k : Nat) (s : ByteArray) (n a r a' : Int) (hm : rd_zeta 3 11 k s n a false = some (r, a', false)) (hr : r ≤ 1073741824) :
    Calls Try.prog 105 #[.agg #[.string s, .int .i64 n], .int .i64 a, .int .i64 5] w fun e w' => e = .returned (.tuple #[.int .i64 r, .int .i64 a', .bool true]) ∧ Below w.heap.size w w' := by
  have hu := Try.underlying27
  have hu5 := Try.underlying125
  have HS := Aside0.mk (start2 w (.cells #[.string s, .int .i64 n] 27) (.cells #[.string s, .int .i64 n, .int .i64 a, .bool false] 125))
  have HRD : Aside0 (ReadIs ((w.alloc (.cells #[.string s, .int .i64 n] 27)).alloc (.cells #[.string s, .int .i64 n, .int .i64 a, .bool false] 125)) (w.heap.size + 1) s n a false) := ⟨HS.out.2.1⟩
  have HB := Aside0.mk HS.out.2.2.1
  clear HS
  have HM := Aside0.mk hm
  clear hm
  go_enter Try.func105, Try.ntmps105
  go_wp2_with (first | (go_at_call 123; ((with_reducible refine (rd_zeta3.calls _ w.heap.size (w.heap.size + 1) k s n a false r a' false HRD.out (Nat.le_succ _) HM.out).mono ?_); rintro e w3 ⟨rfl, hr3, hb3⟩); have HRD3 := Aside0.mk hr3; have HB3 := Aside0.mk (HB.out.trans hb3); clear hr3 hb3 HRD HB; have HRD := HRD3; have HB := HB3; clear HRD3 HB3; (try clear c0 c1 c2 c3 f0 f1 f2 f3); obtain ⟨c0, c1, c2, c3, f0, f1, f2, f3⟩ := four_cells HRD.out) | (go_at_call 118; (with_reducible refine (code_parts.calls 5 3 _ rparts5).mono ?_); rintro e w3 ⟨rfl, hd3⟩; have HRD3 := Aside0.mk (read_below HRD.out hd3.below); have HB3 := Aside0.mk (below_then HB.out HB.out.size hd3.below); clear hd3 HRD HB; have HRD := HRD3; have HB := HB3; clear HRD3 HB3; (try clear c0 c1 c2 c3 f0 f1 f2 f3); obtain ⟨c0, c1, c2, c3, f0, f1, f2, f3⟩ := four_cells HRD.out))
  go_region
  go_wp2
  refine bodyPost_ret (results_list (rs := [.tmp 6, .tmp 7, .tmp 8]) rfl (by simp) (.tmp (.tmp (.tmp .nil)))) rfl ⟨rfl, pw_below_drewN HB.out 1⟩
end Go.Proofs.Ytnpghcikhpglkaa.Q
namespace Go.Proofs.Ytnpghcikhpglkaa.Q
open Go.RowKit Go.Proofs.YtnpghcikhpglkaaW.PrintWords Go.Proofs.YtnpghcikhpglkaaW.PrintLast Go.Proofs.YtnpghcikhpglkaaW.PrintMore Go.Proofs.Ytnpghcikhpglkaa.Hand Go.Proofs.Ytnpghcikhpglkaa.Pu
set_option linter.unusedVariables false
/-- So many rounds are enough for bits that may be. -/
def rounds : Nat := 20000
/-- code.Read. -/
def code_Read.f (s : ByteArray) (n a kind : Int) : Option (Int × Int × Bool) :=
  (readK rounds s n a kind).bind fun r => if r.2.2 = true then some (0, 0, false) else if 1073741824 < r.1 then some (0, 0, false) else some (r.1, r.2.1, true)
theorem code_Read.calls (s : ByteArray) (n a kind r1 r2 : Int) (r3 : Bool) (w : World) (h : code_Read.f s n a kind = some (r1, r2, r3)) :
    Calls Try.prog 105 #[.agg #[.string s, .int .i64 n], .int .i64 a, .int .i64 kind] w fun e w' => e = .returned (.tuple #[.int .i64 r1, .int .i64 r2, .bool r3]) ∧ Below w.heap.size w w' := by
  unfold code_Read.f at h
  generalize rounds = k at h
  obtain ⟨⟨r, a', b⟩, h1, h2⟩ := Option.bind_eq_some_iff.1 h
  simp only at h2
  unfold readK at h1
  by_cases k1 : kind = 1
  · subst k1
    rw [if_pos rfl] at h1
    cases b with
    | true =>
      rw [if_pos rfl] at h2
      simp only [Option.some.injEq, Prod.mk.injEq] at h2
      obtain ⟨rfl, rfl, rfl⟩ := h2
      exact read1_bad w k s n a r a' h1
    | false =>
      rw [if_neg (by simp)] at h2
      split at h2
      · rename_i hr
        simp only [Option.some.injEq, Prod.mk.injEq] at h2
        obtain ⟨rfl, rfl, rfl⟩ := h2
        exact read1_big w k s n a r a' h1 hr
      · rename_i hr
        simp only [Option.some.injEq, Prod.mk.injEq] at h2
        obtain ⟨rfl, rfl, rfl⟩ := h2
        exact read1_ok w k s n a r a' h1 (by omega)
  by_cases k2 : kind = 2
  · subst k2
    rw [if_neg (by decide), if_pos rfl] at h1
    cases b with
    | true =>
      rw [if_pos rfl] at h2
      simp only [Option.some.injEq, Prod.mk.injEq] at h2
      obtain ⟨rfl, rfl, rfl⟩ := h2
      exact read2_bad w k s n a r a' h1
    | false =>
      rw [if_neg (by simp)] at h2
      split at h2
      · rename_i hr
        simp only [Option.some.injEq, Prod.mk.injEq] at h2
        obtain ⟨rfl, rfl, rfl⟩ := h2
        exact read2_big w k s n a r a' h1 hr
      · rename_i hr
        simp only [Option.some.injEq, Prod.mk.injEq] at h2
        obtain ⟨rfl, rfl, rfl⟩ := h2
        exact read2_ok w k s n a r a' h1 (by omega)
  by_cases k3 : kind = 3
  · subst k3
    rw [if_neg (by decide), if_neg (by decide), if_pos rfl] at h1
    cases b with
    | true =>
      rw [if_pos rfl] at h2
      simp only [Option.some.injEq, Prod.mk.injEq] at h2
      obtain ⟨rfl, rfl, rfl⟩ := h2
      exact read3_bad w k s n a r a' h1
    | false =>
      rw [if_neg (by simp)] at h2
      split at h2
      · rename_i hr
        simp only [Option.some.injEq, Prod.mk.injEq] at h2
        obtain ⟨rfl, rfl, rfl⟩ := h2
        exact read3_big w k s n a r a' h1 hr
      · rename_i hr
        simp only [Option.some.injEq, Prod.mk.injEq] at h2
        obtain ⟨rfl, rfl, rfl⟩ := h2
        exact read3_ok w k s n a r a' h1 (by omega)
  by_cases k4 : kind = 4
  · subst k4
    rw [if_neg (by decide), if_neg (by decide), if_neg (by decide), if_pos rfl] at h1
    cases b with
    | true =>
      rw [if_pos rfl] at h2
      simp only [Option.some.injEq, Prod.mk.injEq] at h2
      obtain ⟨rfl, rfl, rfl⟩ := h2
      exact read4_bad w k s n a r a' h1
    | false =>
      rw [if_neg (by simp)] at h2
      split at h2
      · rename_i hr
        simp only [Option.some.injEq, Prod.mk.injEq] at h2
        obtain ⟨rfl, rfl, rfl⟩ := h2
        exact read4_big w k s n a r a' h1 hr
      · rename_i hr
        simp only [Option.some.injEq, Prod.mk.injEq] at h2
        obtain ⟨rfl, rfl, rfl⟩ := h2
        exact read4_ok w k s n a r a' h1 (by omega)
  by_cases k5 : kind = 5
  · subst k5
    rw [if_neg (by decide), if_neg (by decide), if_neg (by decide), if_neg (by decide), if_pos rfl] at h1
    cases b with
    | true =>
      rw [if_pos rfl] at h2
      simp only [Option.some.injEq, Prod.mk.injEq] at h2
      obtain ⟨rfl, rfl, rfl⟩ := h2
      exact read5_bad w k s n a r a' h1
    | false =>
      rw [if_neg (by simp)] at h2
      split at h2
      · rename_i hr
        simp only [Option.some.injEq, Prod.mk.injEq] at h2
        obtain ⟨rfl, rfl, rfl⟩ := h2
        exact read5_big w k s n a r a' h1 hr
      · rename_i hr
        simp only [Option.some.injEq, Prod.mk.injEq] at h2
        obtain ⟨rfl, rfl, rfl⟩ := h2
        exact read5_ok w k s n a r a' h1 (by omega)
  rw [if_neg k1, if_neg k2, if_neg k3, if_neg k4, if_neg k5] at h1
  cases h1
end Go.Proofs.Ytnpghcikhpglkaa.Q
