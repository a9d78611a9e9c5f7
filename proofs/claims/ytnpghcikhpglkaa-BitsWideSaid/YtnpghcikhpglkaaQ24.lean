-- laid by a program of this session (a changed copy of the kit's print program): functions, contracts
import Derived.Test.YtnpghcikhpglkaaQ0
import Derived.Test.YtnpghcikhpglkaaQ3
import Derived.Test.YtnpghcikhpglkaaQ23
import Derived.Test.YtnpghcikhpglkaaHa
namespace Go.Proofs.Ytnpghcikhpglkaa.Q
open Go.RowKit Go.Proofs.YtnpghcikhpglkaaW.PrintWords Go.Proofs.YtnpghcikhpglkaaW.PrintLast Go.Proofs.YtnpghcikhpglkaaW.PrintMore
attribute [local go_sem] max2_int min2_int max_two min_two max_three min_three max_four min_four   -- for this text's walks alone
set_option linter.unusedVariables false
set_option linter.unusedSimpArgs false

/-! ### herbariumlaw1_BitsWide: function 3 -/
mutual
def herbariumlaw1_BitsWide.l0 : Nat → Int → List (S27) → List Int → Option (Bool)
  | 0, _, _, _ => none
  | k + 1, x3, x568000, x568001 => if x3 ≤ 30 then (herbariumlaw1_BitsWide.l1 k x3 0 x568000 x568001) else (if (x568001.length : Int) ≥ 0 then ((herbariumlaw1_wakes.f k).bind fun t568 => (some t568)) else (some false))
def herbariumlaw1_BitsWide.l1 : Nat → Int → Int → List (S27) → List Int → Option (Bool)
  | 0, _, _, _, _ => none
  | k + 1, x3, x4, x568000, x568001 => if x4 < 9 then ((bits_Put.f (⟨#[]⟩ : ByteArray) 0 0 x4).bind fun bt569 => (if 0 ≤ x3 then ((bits_Put.f bt569.1 bt569.2.1 (wrap64 ((shl .i64 1 x3) - 1)) x3).bind fun bt573 => ((bits_Put.f bt573.1 bt573.2.1 0 x3).bind fun bt576 => ((bits_Get.f k bt576.1 bt576.2.1 x4 x3).bind fun bt579 => ((bits_Get.f k bt576.1 bt576.2.1 (wrap64 (x4 + x3)) x3).bind fun bt581 => ((bits_Put.f bt576.1 bt576.2.1 (shl .i64 1 x3) x3).bind fun bt583 => ((bits_Get.f k bt576.1 bt576.2.1 (wrap64 ((wrap64 (x4 + x3)) + 1)) x3).bind fun bt587 => ((herbariumlaw1_num.f bt569.2.2).bind fun t589 => ((herbariumlaw1_num.f bt573.2.2).bind fun t590 => ((herbariumlaw1_num.f bt576.2.2).bind fun t591 => ((herbariumlaw1_num.f bt579.2).bind fun t592 => ((herbariumlaw1_num.f bt581.2).bind fun t593 => (if (wrap64 ((wrap64 ((wrap64 ((wrap64 (t589 + t590)) + t591)) + t592)) + t593)) = 0 then (if bt579.1 = (wrap64 ((shl .i64 1 x3) - 1)) then (if bt581.1 = 0 then ((herbariumlaw1_num.f bt583.2.2).bind fun t594 => (if t594 = 1 then ((herbariumlaw1_num.f bt587.2).bind fun t595 => (if t595 = 9 then (if bt576.2.1 = (wrap64 (x4 + (wrap64 (2 * x3)))) then (herbariumlaw1_BitsWide.l1 k x3 (wrap64 (x4 + 1)) x568000 x568001) else (some false)) else (some false))) else (some false))) else (some false)) else (some false)) else (some false))))))))))))) else (none))) else (herbariumlaw1_BitsWide.l0 k (wrap64 (x3 + 1)) x568000 x568001)
end
def herbariumlaw1_BitsWide.f (k : Nat) (l0_0 : List (S27)) (l0_1 : List Int) : Option (Bool) := herbariumlaw1_BitsWide.l0 k 0 l0_0 l0_1
theorem herbariumlaw1_BitsWide.mono_l : ∀ k, (∀ y0 y1 y2, LeO (herbariumlaw1_BitsWide.l0 k y0 y1 y2) (herbariumlaw1_BitsWide.l0 (k + 1) y0 y1 y2)) ∧ (∀ y0 y1 y2 y3, LeO (herbariumlaw1_BitsWide.l1 k y0 y1 y2 y3) (herbariumlaw1_BitsWide.l1 (k + 1) y0 y1 y2 y3))
  | 0 => ⟨fun _ _ _ r h => by simp [herbariumlaw1_BitsWide.l0] at h, fun _ _ _ _ r h => by simp [herbariumlaw1_BitsWide.l1] at h⟩
  | k + 1 => by
    obtain ⟨ih0, ih1⟩ := herbariumlaw1_BitsWide.mono_l k
    refine ⟨?_, ?_⟩
    · intro y0 y1 y2
      unfold herbariumlaw1_BitsWide.l0
      repeat' first
      | (with_reducible exact ih0 _ _ _)
      | (with_reducible exact ih1 _ _ _ _)
      | (with_reducible exact bits_Get.mono _ _ _ _ _)
      | (with_reducible exact herbariumlaw1_wakes.mono _)
      | (with_reducible exact LeO.refl _)
      | (with_reducible exact LeO.none _)
      | (with_reducible refine LeO.ite ?_ ?_)
      | (with_reducible refine LeO.bind ?_ (fun _ => ?_))
      | exact ih0 _ _ _
      | exact ih1 _ _ _ _
      | exact bits_Get.mono _ _ _ _ _
      | exact herbariumlaw1_wakes.mono _
      | exact LeO.none _
      | refine LeO.ite ?_ ?_
      | refine LeO.bind ?_ (fun _ => ?_)
    · intro y0 y1 y2 y3
      unfold herbariumlaw1_BitsWide.l1
      repeat' first
      | (with_reducible exact ih0 _ _ _)
      | (with_reducible exact ih1 _ _ _ _)
      | (with_reducible exact bits_Get.mono _ _ _ _ _)
      | (with_reducible exact herbariumlaw1_wakes.mono _)
      | (with_reducible exact LeO.refl _)
      | (with_reducible exact LeO.none _)
      | (with_reducible refine LeO.ite ?_ ?_)
      | (with_reducible refine LeO.bind ?_ (fun _ => ?_))
      | exact ih0 _ _ _
      | exact ih1 _ _ _ _
      | exact bits_Get.mono _ _ _ _ _
      | exact herbariumlaw1_wakes.mono _
      | exact LeO.none _
      | refine LeO.ite ?_ ?_
      | refine LeO.bind ?_ (fun _ => ?_)
theorem herbariumlaw1_BitsWide.mono : ∀ a0 a1 k, LeO (herbariumlaw1_BitsWide.f k a0 a1) (herbariumlaw1_BitsWide.f (k + 1) a0 a1) := by
  intro a0 a1 k
  obtain ⟨ih0, ih1⟩ := herbariumlaw1_BitsWide.mono_l k
  unfold herbariumlaw1_BitsWide.f
  repeat' first
      | (with_reducible exact ih0 _ _ _)
      | (with_reducible exact ih1 _ _ _ _)
      | (with_reducible exact bits_Get.mono _ _ _ _ _)
      | (with_reducible exact herbariumlaw1_wakes.mono _)
      | (with_reducible exact LeO.refl _)
      | (with_reducible exact LeO.none _)
      | (with_reducible refine LeO.ite ?_ ?_)
      | (with_reducible refine LeO.bind ?_ (fun _ => ?_))
      | exact ih0 _ _ _
      | exact ih1 _ _ _ _
      | exact bits_Get.mono _ _ _ _ _
      | exact herbariumlaw1_wakes.mono _
      | exact LeO.none _
      | refine LeO.ite ?_ ?_
      | refine LeO.bind ?_ (fun _ => ?_)
def herbariumlaw1_BitsWide.T8 : Bool × List (List Nat × List Nat) := (true, [([], []), ([], []), ([1], [1]), ([2], [2]), ([], []), ([0, 3, 4], [0, 3, 4]), ([5], [5]), ([6], [6]), ([6], [6]), ([7, 5, 0, 1, 2, 3, 4, 5, 6, 7], [7]), ([8, 9, 0, 1, 2, 3, 4, 5, 6, 7, 8, 9], [8])])
def herbariumlaw1_BitsWide.B8 : List Nat := [0, 0, 2, 6, 0, 31, 63, 127, 127, 255, 1023]
theorem herbariumlaw1_BitsWide.tab8 : rtab .any (opsOf Try.f3 8) = herbariumlaw1_BitsWide.T8 := by kernel_rfl
theorem herbariumlaw1_BitsWide.bits8 : waitsOk herbariumlaw1_BitsWide.T8.2 herbariumlaw1_BitsWide.B8 = true := by kernel_rfl
def herbariumlaw1_BitsWide.T12 : Bool × List (List Nat × List Nat) := (true, [([], []), ([], []), ([1], [1]), ([], []), ([0, 2, 3], [0, 2, 3]), ([4], [4]), ([5], [5]), ([5], [5]), ([], []), ([8, 6, 4, 0, 1, 2, 3, 4, 5, 6, 8], [6, 8]), ([7, 9, 0, 1, 2, 3, 4, 5, 6, 7, 8, 9], [7])])
def herbariumlaw1_BitsWide.B12 : List Nat := [0, 0, 2, 0, 15, 31, 63, 63, 0, 383, 1023]
theorem herbariumlaw1_BitsWide.tab12 : rtab .any (opsOf Try.f3 12) = herbariumlaw1_BitsWide.T12 := by kernel_rfl
theorem herbariumlaw1_BitsWide.bits12 : waitsOk herbariumlaw1_BitsWide.T12.2 herbariumlaw1_BitsWide.B12 = true := by kernel_rfl
set_option maxHeartbeats 8000000 in
set_option maxRecDepth 100000 in
theorem herbariumlaw1_BitsWide.calls (k : Nat) (A0_0 : Option Addr) (c0_0 : Nat) (l0_0 : List (S27)) (A0_1 : Option Addr) (c0_1 : Nat) (l0_1 : List Int) (w : World) (hr0_0 : Kd.C k27 w A0_0 l0_0.length l0_0) (hc0_0 : l0_0.length ≤ c0_0) (hr0_1 : Kd.C (Kd.int .i64) w A0_1 l0_1.length l0_1) (hc0_1 : l0_1.length ≤ c0_1) (h : herbariumlaw1_BitsWide.f k l0_0 l0_1 = some true) :
    Calls Try.prog 3 #[.agg #[.slice A0_0 l0_0.length c0_0, .slice A0_1 l0_1.length c0_1]] w fun e w' => e = .returned (.bool true) ∧ Below w.heap.size w w' := by
  have hu25 := Try.underlying25
  have hu27 := Try.underlying27
  have HR0_0 := Aside0.mk hr0_0
  have HC0_0 := Aside0.mk hc0_0
  clear hr0_0 hc0_0
  have HR0_1 := Aside0.mk hr0_1
  have HC0_1 := Aside0.mk hc0_1
  clear hr0_1 hc0_1
  have HB := Aside0.mk (Below.refl w.heap.size w)
  have H : (herbariumlaw1_BitsWide.l0 k 0 l0_0 l0_1) = some true := h
  clear h
  have H' := Aside0.mk H
  clear H
  go_enter Try.func3, Try.ntmps3
  go_wp2_with (first | ((with_reducible refine gate_dst (N := 1) rfl ?_); refine box_event ?hg (N := 1) ?hd (cs := #[.slice A0_0 l0_0.length c0_0, .slice A0_1 l0_1.length c0_1]) (t := 25) ?hr ?_; (case hd => rfl); (case hg => rfl); (case hr => first | (go_simp; done) | (go_simp; rfl)); intro gb567 hg w2 hbox hb; have n0_ := Aside0.mk (below_step (by repeat (first | (with_reducible first | exact HB.out | apply below_alloc | apply pw_below_drewN | apply below_drew1) | exact HB.out)) hb); have n1_ := Aside0.mk (hbox); have n2_ := Aside0.mk ((by rw [hg]; exact (below_size (by repeat (first | (with_reducible first | exact HB.out | apply below_alloc | apply pw_below_drewN | apply below_drew1) | exact HB.out))) : w.heap.size ≤ gb567)); have n3_ := Aside0.mk ((by rw [hg]; exact (below_size (by repeat (first | (with_reducible first | exact HB.out | apply below_alloc | apply pw_below_drewN | apply below_drew1) | exact HB.out))) : w.heap.size ≤ gb567)); clear HB; have HB := n0_; have BK567 := n1_; have GW567 := n2_; have GE567 := n3_; clear n0_ n1_ n2_ n3_; clear hb hbox hg))
  go_loopg [3] k (fun kq v3 w' => ∃ (x3_1 : Int), v3 = .int .i64 x3_1 ∧ Aside0 (herbariumlaw1_BitsWide.l0 kq x3_1 l0_0 l0_1 = some true) ∧ Aside0 (kq ≤ k) ∧ Aside0 (w'.heap[gb567]? = some (.cells #[(.slice A0_0 l0_0.length c0_0), (.slice A0_1 l0_1.length c0_1)] 25 (0, 0))) ∧ Aside0 (Below w.heap.size w w'))
  case atStart => exact ⟨(0), (by first | rfl | (simp; done) | (simp [*]; done)), H', ⟨Nat.le_refl _⟩, ⟨by (with_reducible repeat (first | refine blk_drewN ?_ _ | refine blk_drew ?_ | refine blk_alloc ?_ _)); exact BK567.out⟩, ⟨by repeat (first | (with_reducible first | exact HB.out | apply below_alloc | apply pw_below_drewN | apply below_drew1 | refine below_set ?_ GE567.out) | exact HB.out)⟩⟩
  case round =>
    clear H'
    try clear p2
    obtain ⟨x3_1, rfl, HA, HK1, BK567, HB⟩ := hrel
    cases gk with
    | zero => exact absurd HA.out (by simp [herbariumlaw1_BitsWide.l0])
    | succ k1 =>
      have H := HA.out
      clear HA
      simp only [herbariumlaw1_BitsWide.l0] at H
      by_cases c3 : x3_1 ≤ 30
      · rw [if_pos c3] at H
        have c3b0 : decide (x3_1 ≤ 30) = true := decide_eq_true c3
        clear c3
        have H' := Aside0.mk H
        clear H
        go_wp2
        go_loopg [4] k1 (fun kq v4 w' => ∃ (x4_2 : Int), v4 = .int .i64 x4_2 ∧ Aside0 (herbariumlaw1_BitsWide.l1 kq x3_1 x4_2 l0_0 l0_1 = some true) ∧ Aside0 (kq ≤ k1) ∧ Aside0 (w'.heap[gb567]? = some (.cells #[(.slice A0_0 l0_0.length c0_0), (.slice A0_1 l0_1.length c0_1)] 25 (0, 0))) ∧ Aside0 (Below w.heap.size w w'))
        case atStart => exact ⟨(0), (by first | rfl | (simp; done) | (simp [*]; done)), H', ⟨Nat.le_refl _⟩, ⟨by (with_reducible repeat (first | refine blk_drewN ?_ _ | refine blk_drew ?_ | refine blk_alloc ?_ _)); exact BK567.out⟩, ⟨by repeat (first | (with_reducible first | exact HB.out | apply below_alloc | apply pw_below_drewN | apply below_drew1 | refine below_set ?_ GE567.out) | exact HB.out)⟩⟩
        case round =>
          clear H'
          try clear p2
          try clear c3
          try clear c3b0
          try clear p2
          obtain ⟨x4_2, rfl, HA, HK2, BK567, HB⟩ := hrel
          cases gk with
          | zero => exact absurd HA.out (by simp [herbariumlaw1_BitsWide.l1])
          | succ k2 =>
            have H := HA.out
            clear HA
            simp only [herbariumlaw1_BitsWide.l1] at H
            by_cases c4 : x4_2 < 9
            · rw [if_pos c4] at H
              have c4b0 : decide (x4_2 < 9) = true := decide_eq_true c4
              clear c4
              replace H := Option.bind_eq_some_iff.mp H
              obtain ⟨⟨t569, t570, t571⟩, A50, H⟩ := H
              replace H : (if 0 ≤ x3_1 then ((bits_Put.f t569 t570 (wrap64 ((shl .i64 1 x3_1) - 1)) x3_1).bind fun bt573 => ((bits_Put.f bt573.1 bt573.2.1 0 x3_1).bind fun bt576 => ((bits_Get.f k2 bt576.1 bt576.2.1 x4_2 x3_1).bind fun bt579 => ((bits_Get.f k2 bt576.1 bt576.2.1 (wrap64 (x4_2 + x3_1)) x3_1).bind fun bt581 => ((bits_Put.f bt576.1 bt576.2.1 (shl .i64 1 x3_1) x3_1).bind fun bt583 => ((bits_Get.f k2 bt576.1 bt576.2.1 (wrap64 ((wrap64 (x4_2 + x3_1)) + 1)) x3_1).bind fun bt587 => ((herbariumlaw1_num.f t571).bind fun t589 => ((herbariumlaw1_num.f bt573.2.2).bind fun t590 => ((herbariumlaw1_num.f bt576.2.2).bind fun t591 => ((herbariumlaw1_num.f bt579.2).bind fun t592 => ((herbariumlaw1_num.f bt581.2).bind fun t593 => (if (wrap64 ((wrap64 ((wrap64 ((wrap64 (t589 + t590)) + t591)) + t592)) + t593)) = 0 then (if bt579.1 = (wrap64 ((shl .i64 1 x3_1) - 1)) then (if bt581.1 = 0 then ((herbariumlaw1_num.f bt583.2.2).bind fun t594 => (if t594 = 1 then ((herbariumlaw1_num.f bt587.2).bind fun t595 => (if t595 = 9 then (if bt576.2.1 = (wrap64 (x4_2 + (wrap64 (2 * x3_1)))) then (herbariumlaw1_BitsWide.l1 k2 x3_1 (wrap64 (x4_2 + 1)) l0_0 l0_1) else (some false)) else (some false))) else (some false))) else (some false)) else (some false)) else (some false))))))))))))) else (none)) = some true := H
              have A5 := Aside0.mk A50
              clear A50
              by_cases c6 : 0 ≤ x3_1
              · rw [if_pos c6] at H
                have c6b0 := eq_true c6
                have c6b1 : decide (0 ≤ x3_1) = true := decide_eq_true c6
                clear c6
                obtain ⟨ji7, hji7⟩ : ∃ j_ : Int, (shl .i64 1 x3_1) = j_ := ⟨_, rfl⟩
                replace H : ((bits_Put.f t569 t570 (wrap64 ((ji7) - 1)) x3_1).bind fun bt573 => ((bits_Put.f bt573.1 bt573.2.1 0 x3_1).bind fun bt576 => ((bits_Get.f k2 bt576.1 bt576.2.1 x4_2 x3_1).bind fun bt579 => ((bits_Get.f k2 bt576.1 bt576.2.1 (wrap64 (x4_2 + x3_1)) x3_1).bind fun bt581 => ((bits_Put.f bt576.1 bt576.2.1 (ji7) x3_1).bind fun bt583 => ((bits_Get.f k2 bt576.1 bt576.2.1 (wrap64 ((wrap64 (x4_2 + x3_1)) + 1)) x3_1).bind fun bt587 => ((herbariumlaw1_num.f t571).bind fun t589 => ((herbariumlaw1_num.f bt573.2.2).bind fun t590 => ((herbariumlaw1_num.f bt576.2.2).bind fun t591 => ((herbariumlaw1_num.f bt579.2).bind fun t592 => ((herbariumlaw1_num.f bt581.2).bind fun t593 => (if (wrap64 ((wrap64 ((wrap64 ((wrap64 (t589 + t590)) + t591)) + t592)) + t593)) = 0 then (if bt579.1 = (wrap64 ((ji7) - 1)) then (if bt581.1 = 0 then ((herbariumlaw1_num.f bt583.2.2).bind fun t594 => (if t594 = 1 then ((herbariumlaw1_num.f bt587.2).bind fun t595 => (if t595 = 9 then (if bt576.2.1 = (wrap64 (x4_2 + (wrap64 (2 * x3_1)))) then (herbariumlaw1_BitsWide.l1 k2 x3_1 (wrap64 (x4_2 + 1)) l0_0 l0_1) else (some false)) else (some false))) else (some false))) else (some false)) else (some false)) else (some false))))))))))))) = some true := by first | (rw [hji7] at H; exact H) | (simp only [hji7] at H ⊢; exact H)
                (try rw [hji7] at A5)
                have hji7_ : (IntKind.i64.wrap (1 * 2 ^ min x3_1.toNat 64)) = ji7 := hji7
                have hji7z : x3_1 ≤ 64 → (IntKind.i64.wrap (1 * 2 ^ x3_1.toNat)) = ji7 := shl_small hji7
                have hji7u : (IntKind.i64.wrap (2 ^ min x3_1.toNat 64)) = ji7 := by have h_ := hji7_; rw [Int.one_mul] at h_; exact h_
                have hji7v : x3_1 ≤ 64 → (IntKind.i64.wrap (2 ^ x3_1.toNat)) = ji7 := fun hle_ => by have h_ := hji7z hle_; rw [Int.one_mul] at h_; exact h_
                have hji7y : (wrap64 (1 * 2 ^ min x3_1.toNat 64)) = ji7 := (i64_w _).symm.trans hji7_
                have hji7x : x3_1 ≤ 64 → (wrap64 (1 * 2 ^ x3_1.toNat)) = ji7 := fun h_ => (i64_w _).symm.trans (hji7z h_)
                replace H := Option.bind_eq_some_iff.mp H
                obtain ⟨⟨t573, t574, t575⟩, A80, H⟩ := H
                replace H : ((bits_Put.f t573 t574 0 x3_1).bind fun bt576 => ((bits_Get.f k2 bt576.1 bt576.2.1 x4_2 x3_1).bind fun bt579 => ((bits_Get.f k2 bt576.1 bt576.2.1 (wrap64 (x4_2 + x3_1)) x3_1).bind fun bt581 => ((bits_Put.f bt576.1 bt576.2.1 (ji7) x3_1).bind fun bt583 => ((bits_Get.f k2 bt576.1 bt576.2.1 (wrap64 ((wrap64 (x4_2 + x3_1)) + 1)) x3_1).bind fun bt587 => ((herbariumlaw1_num.f t571).bind fun t589 => ((herbariumlaw1_num.f t575).bind fun t590 => ((herbariumlaw1_num.f bt576.2.2).bind fun t591 => ((herbariumlaw1_num.f bt579.2).bind fun t592 => ((herbariumlaw1_num.f bt581.2).bind fun t593 => (if (wrap64 ((wrap64 ((wrap64 ((wrap64 (t589 + t590)) + t591)) + t592)) + t593)) = 0 then (if bt579.1 = (wrap64 ((ji7) - 1)) then (if bt581.1 = 0 then ((herbariumlaw1_num.f bt583.2.2).bind fun t594 => (if t594 = 1 then ((herbariumlaw1_num.f bt587.2).bind fun t595 => (if t595 = 9 then (if bt576.2.1 = (wrap64 (x4_2 + (wrap64 (2 * x3_1)))) then (herbariumlaw1_BitsWide.l1 k2 x3_1 (wrap64 (x4_2 + 1)) l0_0 l0_1) else (some false)) else (some false))) else (some false))) else (some false)) else (some false)) else (some false)))))))))))) = some true := H
                have A8 := Aside0.mk A80
                clear A80
                replace H := Option.bind_eq_some_iff.mp H
                obtain ⟨⟨t576, t577, t578⟩, A90, H⟩ := H
                replace H : ((bits_Get.f k2 t576 t577 x4_2 x3_1).bind fun bt579 => ((bits_Get.f k2 t576 t577 (wrap64 (x4_2 + x3_1)) x3_1).bind fun bt581 => ((bits_Put.f t576 t577 (ji7) x3_1).bind fun bt583 => ((bits_Get.f k2 t576 t577 (wrap64 ((wrap64 (x4_2 + x3_1)) + 1)) x3_1).bind fun bt587 => ((herbariumlaw1_num.f t571).bind fun t589 => ((herbariumlaw1_num.f t575).bind fun t590 => ((herbariumlaw1_num.f t578).bind fun t591 => ((herbariumlaw1_num.f bt579.2).bind fun t592 => ((herbariumlaw1_num.f bt581.2).bind fun t593 => (if (wrap64 ((wrap64 ((wrap64 ((wrap64 (t589 + t590)) + t591)) + t592)) + t593)) = 0 then (if bt579.1 = (wrap64 ((ji7) - 1)) then (if bt581.1 = 0 then ((herbariumlaw1_num.f bt583.2.2).bind fun t594 => (if t594 = 1 then ((herbariumlaw1_num.f bt587.2).bind fun t595 => (if t595 = 9 then (if t577 = (wrap64 (x4_2 + (wrap64 (2 * x3_1)))) then (herbariumlaw1_BitsWide.l1 k2 x3_1 (wrap64 (x4_2 + 1)) l0_0 l0_1) else (some false)) else (some false))) else (some false))) else (some false)) else (some false)) else (some false))))))))))) = some true := H
                have A9 := Aside0.mk A90
                clear A90
                replace H := Option.bind_eq_some_iff.mp H
                obtain ⟨⟨t579, t580⟩, A100, H⟩ := H
                replace H : ((bits_Get.f k2 t576 t577 (wrap64 (x4_2 + x3_1)) x3_1).bind fun bt581 => ((bits_Put.f t576 t577 (ji7) x3_1).bind fun bt583 => ((bits_Get.f k2 t576 t577 (wrap64 ((wrap64 (x4_2 + x3_1)) + 1)) x3_1).bind fun bt587 => ((herbariumlaw1_num.f t571).bind fun t589 => ((herbariumlaw1_num.f t575).bind fun t590 => ((herbariumlaw1_num.f t578).bind fun t591 => ((herbariumlaw1_num.f t580).bind fun t592 => ((herbariumlaw1_num.f bt581.2).bind fun t593 => (if (wrap64 ((wrap64 ((wrap64 ((wrap64 (t589 + t590)) + t591)) + t592)) + t593)) = 0 then (if t579 = (wrap64 ((ji7) - 1)) then (if bt581.1 = 0 then ((herbariumlaw1_num.f bt583.2.2).bind fun t594 => (if t594 = 1 then ((herbariumlaw1_num.f bt587.2).bind fun t595 => (if t595 = 9 then (if t577 = (wrap64 (x4_2 + (wrap64 (2 * x3_1)))) then (herbariumlaw1_BitsWide.l1 k2 x3_1 (wrap64 (x4_2 + 1)) l0_0 l0_1) else (some false)) else (some false))) else (some false))) else (some false)) else (some false)) else (some false)))))))))) = some true := H
                have A10 := Aside0.mk A100
                clear A100
                replace H := Option.bind_eq_some_iff.mp H
                obtain ⟨⟨t581, t582⟩, A110, H⟩ := H
                replace H : ((bits_Put.f t576 t577 (ji7) x3_1).bind fun bt583 => ((bits_Get.f k2 t576 t577 (wrap64 ((wrap64 (x4_2 + x3_1)) + 1)) x3_1).bind fun bt587 => ((herbariumlaw1_num.f t571).bind fun t589 => ((herbariumlaw1_num.f t575).bind fun t590 => ((herbariumlaw1_num.f t578).bind fun t591 => ((herbariumlaw1_num.f t580).bind fun t592 => ((herbariumlaw1_num.f t582).bind fun t593 => (if (wrap64 ((wrap64 ((wrap64 ((wrap64 (t589 + t590)) + t591)) + t592)) + t593)) = 0 then (if t579 = (wrap64 ((ji7) - 1)) then (if t581 = 0 then ((herbariumlaw1_num.f bt583.2.2).bind fun t594 => (if t594 = 1 then ((herbariumlaw1_num.f bt587.2).bind fun t595 => (if t595 = 9 then (if t577 = (wrap64 (x4_2 + (wrap64 (2 * x3_1)))) then (herbariumlaw1_BitsWide.l1 k2 x3_1 (wrap64 (x4_2 + 1)) l0_0 l0_1) else (some false)) else (some false))) else (some false))) else (some false)) else (some false)) else (some false))))))))) = some true := H
                have A11 := Aside0.mk A110
                clear A110
                have c12b0 := eq_true (of_decide_eq_true (by first | (with_reducible assumption) | assumption) : 0 ≤ x3_1)
                replace H := Option.bind_eq_some_iff.mp H
                obtain ⟨⟨t583, t584, t585⟩, A140, H⟩ := H
                replace H : ((bits_Get.f k2 t576 t577 (wrap64 ((wrap64 (x4_2 + x3_1)) + 1)) x3_1).bind fun bt587 => ((herbariumlaw1_num.f t571).bind fun t589 => ((herbariumlaw1_num.f t575).bind fun t590 => ((herbariumlaw1_num.f t578).bind fun t591 => ((herbariumlaw1_num.f t580).bind fun t592 => ((herbariumlaw1_num.f t582).bind fun t593 => (if (wrap64 ((wrap64 ((wrap64 ((wrap64 (t589 + t590)) + t591)) + t592)) + t593)) = 0 then (if t579 = (wrap64 ((ji7) - 1)) then (if t581 = 0 then ((herbariumlaw1_num.f t585).bind fun t594 => (if t594 = 1 then ((herbariumlaw1_num.f bt587.2).bind fun t595 => (if t595 = 9 then (if t577 = (wrap64 (x4_2 + (wrap64 (2 * x3_1)))) then (herbariumlaw1_BitsWide.l1 k2 x3_1 (wrap64 (x4_2 + 1)) l0_0 l0_1) else (some false)) else (some false))) else (some false))) else (some false)) else (some false)) else (some false)))))))) = some true := H
                have A14 := Aside0.mk A140
                clear A140
                replace H := Option.bind_eq_some_iff.mp H
                obtain ⟨⟨t587, t588⟩, A150, H⟩ := H
                replace H : ((herbariumlaw1_num.f t571).bind fun t589 => ((herbariumlaw1_num.f t575).bind fun t590 => ((herbariumlaw1_num.f t578).bind fun t591 => ((herbariumlaw1_num.f t580).bind fun t592 => ((herbariumlaw1_num.f t582).bind fun t593 => (if (wrap64 ((wrap64 ((wrap64 ((wrap64 (t589 + t590)) + t591)) + t592)) + t593)) = 0 then (if t579 = (wrap64 ((ji7) - 1)) then (if t581 = 0 then ((herbariumlaw1_num.f t585).bind fun t594 => (if t594 = 1 then ((herbariumlaw1_num.f t588).bind fun t595 => (if t595 = 9 then (if t577 = (wrap64 (x4_2 + (wrap64 (2 * x3_1)))) then (herbariumlaw1_BitsWide.l1 k2 x3_1 (wrap64 (x4_2 + 1)) l0_0 l0_1) else (some false)) else (some false))) else (some false))) else (some false)) else (some false)) else (some false))))))) = some true := H
                have A15 := Aside0.mk A150
                clear A150
                replace H := Option.bind_eq_some_iff.mp H
                obtain ⟨t589, A160, H⟩ := H
                replace H : ((herbariumlaw1_num.f t575).bind fun t590 => ((herbariumlaw1_num.f t578).bind fun t591 => ((herbariumlaw1_num.f t580).bind fun t592 => ((herbariumlaw1_num.f t582).bind fun t593 => (if (wrap64 ((wrap64 ((wrap64 ((wrap64 (t589 + t590)) + t591)) + t592)) + t593)) = 0 then (if t579 = (wrap64 ((ji7) - 1)) then (if t581 = 0 then ((herbariumlaw1_num.f t585).bind fun t594 => (if t594 = 1 then ((herbariumlaw1_num.f t588).bind fun t595 => (if t595 = 9 then (if t577 = (wrap64 (x4_2 + (wrap64 (2 * x3_1)))) then (herbariumlaw1_BitsWide.l1 k2 x3_1 (wrap64 (x4_2 + 1)) l0_0 l0_1) else (some false)) else (some false))) else (some false))) else (some false)) else (some false)) else (some false)))))) = some true := H
                have A16 := Aside0.mk A160
                clear A160
                replace H := Option.bind_eq_some_iff.mp H
                obtain ⟨t590, A170, H⟩ := H
                replace H : ((herbariumlaw1_num.f t578).bind fun t591 => ((herbariumlaw1_num.f t580).bind fun t592 => ((herbariumlaw1_num.f t582).bind fun t593 => (if (wrap64 ((wrap64 ((wrap64 ((wrap64 (t589 + t590)) + t591)) + t592)) + t593)) = 0 then (if t579 = (wrap64 ((ji7) - 1)) then (if t581 = 0 then ((herbariumlaw1_num.f t585).bind fun t594 => (if t594 = 1 then ((herbariumlaw1_num.f t588).bind fun t595 => (if t595 = 9 then (if t577 = (wrap64 (x4_2 + (wrap64 (2 * x3_1)))) then (herbariumlaw1_BitsWide.l1 k2 x3_1 (wrap64 (x4_2 + 1)) l0_0 l0_1) else (some false)) else (some false))) else (some false))) else (some false)) else (some false)) else (some false))))) = some true := H
                have A17 := Aside0.mk A170
                clear A170
                replace H := Option.bind_eq_some_iff.mp H
                obtain ⟨t591, A180, H⟩ := H
                replace H : ((herbariumlaw1_num.f t580).bind fun t592 => ((herbariumlaw1_num.f t582).bind fun t593 => (if (wrap64 ((wrap64 ((wrap64 ((wrap64 (t589 + t590)) + t591)) + t592)) + t593)) = 0 then (if t579 = (wrap64 ((ji7) - 1)) then (if t581 = 0 then ((herbariumlaw1_num.f t585).bind fun t594 => (if t594 = 1 then ((herbariumlaw1_num.f t588).bind fun t595 => (if t595 = 9 then (if t577 = (wrap64 (x4_2 + (wrap64 (2 * x3_1)))) then (herbariumlaw1_BitsWide.l1 k2 x3_1 (wrap64 (x4_2 + 1)) l0_0 l0_1) else (some false)) else (some false))) else (some false))) else (some false)) else (some false)) else (some false)))) = some true := H
                have A18 := Aside0.mk A180
                clear A180
                replace H := Option.bind_eq_some_iff.mp H
                obtain ⟨t592, A190, H⟩ := H
                replace H : ((herbariumlaw1_num.f t582).bind fun t593 => (if (wrap64 ((wrap64 ((wrap64 ((wrap64 (t589 + t590)) + t591)) + t592)) + t593)) = 0 then (if t579 = (wrap64 ((ji7) - 1)) then (if t581 = 0 then ((herbariumlaw1_num.f t585).bind fun t594 => (if t594 = 1 then ((herbariumlaw1_num.f t588).bind fun t595 => (if t595 = 9 then (if t577 = (wrap64 (x4_2 + (wrap64 (2 * x3_1)))) then (herbariumlaw1_BitsWide.l1 k2 x3_1 (wrap64 (x4_2 + 1)) l0_0 l0_1) else (some false)) else (some false))) else (some false))) else (some false)) else (some false)) else (some false))) = some true := H
                have A19 := Aside0.mk A190
                clear A190
                replace H := Option.bind_eq_some_iff.mp H
                obtain ⟨t593, A200, H⟩ := H
                replace H : (if (wrap64 ((wrap64 ((wrap64 ((wrap64 (t589 + t590)) + t591)) + t592)) + t593)) = 0 then (if t579 = (wrap64 ((ji7) - 1)) then (if t581 = 0 then ((herbariumlaw1_num.f t585).bind fun t594 => (if t594 = 1 then ((herbariumlaw1_num.f t588).bind fun t595 => (if t595 = 9 then (if t577 = (wrap64 (x4_2 + (wrap64 (2 * x3_1)))) then (herbariumlaw1_BitsWide.l1 k2 x3_1 (wrap64 (x4_2 + 1)) l0_0 l0_1) else (some false)) else (some false))) else (some false))) else (some false)) else (some false)) else (some false)) = some true := H
                have A20 := Aside0.mk A200
                clear A200
                by_cases c21 : (wrap64 ((wrap64 ((wrap64 ((wrap64 (t589 + t590)) + t591)) + t592)) + t593)) = 0
                · rw [if_pos c21] at H
                  have c21b0 : ((wrap64 ((wrap64 ((wrap64 ((wrap64 (t589 + t590)) + t591)) + t592)) + t593)) == 0) = true := beq_iff_eq.mpr c21
                  have c21b1 : ((wrap64 ((wrap64 ((wrap64 ((wrap64 (t589 + t590)) + t591)) + t592)) + t593)) != 0) = false := bne_eq_false_iff_eq.mpr c21
                  clear c21
                  have c22b0 := eq_true (of_decide_eq_true (by first | (with_reducible assumption) | assumption) : 0 ≤ x3_1)
                  by_cases c24 : t579 = (wrap64 ((ji7) - 1))
                  · rw [if_pos c24] at H
                    have c24b0 : (t579 == (wrap64 ((ji7) - 1))) = true := beq_iff_eq.mpr c24
                    have c24b1 : (t579 != (wrap64 ((ji7) - 1))) = false := bne_eq_false_iff_eq.mpr c24
                    clear c24
                    by_cases c25 : t581 = 0
                    · rw [if_pos c25] at H
                      have c25b0 : (t581 == 0) = true := beq_iff_eq.mpr c25
                      have c25b1 : (t581 != 0) = false := bne_eq_false_iff_eq.mpr c25
                      clear c25
                      replace H := Option.bind_eq_some_iff.mp H
                      obtain ⟨t594, A260, H⟩ := H
                      replace H : (if t594 = 1 then ((herbariumlaw1_num.f t588).bind fun t595 => (if t595 = 9 then (if t577 = (wrap64 (x4_2 + (wrap64 (2 * x3_1)))) then (herbariumlaw1_BitsWide.l1 k2 x3_1 (wrap64 (x4_2 + 1)) l0_0 l0_1) else (some false)) else (some false))) else (some false)) = some true := H
                      have A26 := Aside0.mk A260
                      clear A260
                      by_cases c27 : t594 = 1
                      · rw [if_pos c27] at H
                        have c27b0 : (t594 == 1) = true := beq_iff_eq.mpr c27
                        have c27b1 : (t594 != 1) = false := bne_eq_false_iff_eq.mpr c27
                        clear c27
                        replace H := Option.bind_eq_some_iff.mp H
                        obtain ⟨t595, A280, H⟩ := H
                        replace H : (if t595 = 9 then (if t577 = (wrap64 (x4_2 + (wrap64 (2 * x3_1)))) then (herbariumlaw1_BitsWide.l1 k2 x3_1 (wrap64 (x4_2 + 1)) l0_0 l0_1) else (some false)) else (some false)) = some true := H
                        have A28 := Aside0.mk A280
                        clear A280
                        by_cases c29 : t595 = 9
                        · rw [if_pos c29] at H
                          have c29b0 : (t595 == 9) = true := beq_iff_eq.mpr c29
                          have c29b1 : (t595 != 9) = false := bne_eq_false_iff_eq.mpr c29
                          clear c29
                          by_cases c30 : t577 = (wrap64 (x4_2 + (wrap64 (2 * x3_1))))
                          · rw [if_pos c30] at H
                            have c30b0 : (t577 == (wrap64 (x4_2 + (wrap64 (2 * x3_1))))) = true := beq_iff_eq.mpr c30
                            have c30b1 : (t577 != (wrap64 (x4_2 + (wrap64 (2 * x3_1))))) = false := bne_eq_false_iff_eq.mpr c30
                            clear c30
                            have H' := Aside0.mk H
                            clear H
                            try go_wp2_with (first | ((with_reducible refine gate_callee (f := 24) rfl ?_); refine goesL_ (some 28) rfl rfl Try.func24 (by kernel_rfl) rfl #[.agg #[.string (⟨#[]⟩ : ByteArray), .int .i64 0], .int .i64 0, .int .i64 x4_2] rfl (by (try simp only [List.map_toArray, List.map_cons, List.map_nil]); first | done | rfl | (simp only [List.length_drop, List.length_take]; rfl)) ?_; (with_reducible refine (bits_Put.calls (⟨#[]⟩ : ByteArray) 0 0 x4_2 t569 t570 t571 _ A5.out).mono ?_); rintro e w31 ⟨rfl, hb⟩; refine ⟨_, rfl, ?_⟩; have n0_ := Aside0.mk (blk_below (g := gb567) (o := .cells #[.slice A0_0 l0_0.length c0_0, .slice A0_1 l0_1.length c0_1] 25 (0, 0)) (by (with_reducible repeat (first | refine blk_drewN ?_ _ | refine blk_drew ?_ | refine blk_alloc ?_ _)); exact BK567.out) hb); have n1_ := Aside0.mk (below_step (by repeat (first | (with_reducible first | exact HB.out | apply below_alloc | apply pw_below_drewN | apply below_drew1 | refine below_set ?_ GE567.out) | exact HB.out)) hb); clear BK567; clear HB; have BK567 := n0_; have HB := n1_; clear n0_ n1_; (try clear hb); (try clear hb2); (try clear hk); (try clear hi)) | ((with_reducible refine gate_dst (N := 5) rfl ?_); refine box_event ?hg (N := 5) ?hd (cs := #[.string (⟨#[]⟩ : ByteArray), .int .i64 0]) (t := 27) ?hr ?_; (case hd => rfl); (case hg => rfl); (case hr => first | (go_simp; done) | (go_simp; rfl)); intro gb572 hg w32 hbox hb; have n0_ := Aside0.mk (blk_below (g := gb567) (o := .cells #[.slice A0_0 l0_0.length c0_0, .slice A0_1 l0_1.length c0_1] 25 (0, 0)) (by (with_reducible repeat (first | refine blk_drewN ?_ _ | refine blk_drew ?_ | refine blk_alloc ?_ _)); exact BK567.out) hb); have n1_ := Aside0.mk (below_step (by repeat (first | (with_reducible first | exact HB.out | apply below_alloc | apply pw_below_drewN | apply below_drew1 | refine below_set ?_ GE567.out) | exact HB.out)) hb); have n2_ := Aside0.mk (hbox); have n3_ := Aside0.mk ((by rw [hg]; exact (below_size (by repeat (first | (with_reducible first | exact HB.out | apply below_alloc | apply pw_below_drewN | apply below_drew1 | refine below_set ?_ GE567.out) | exact HB.out))) : w.heap.size ≤ gb572)); have n4_ := Aside0.mk ((by rw [hg]; exact (below_size (by repeat (first | (with_reducible first | exact HB.out | apply below_alloc | apply pw_below_drewN | apply below_drew1 | refine below_set ?_ GE567.out) | exact HB.out))) : w.heap.size ≤ gb572)); have n5_ := Aside0.mk ((by rw [hg]; exact Nat.ne_of_lt (blk_lt (g := gb567) (o := .cells #[.slice A0_0 l0_0.length c0_0, .slice A0_1 l0_1.length c0_1] 25 (0, 0)) (by (with_reducible repeat (first | refine blk_drewN ?_ _ | refine blk_drew ?_ | refine blk_alloc ?_ _)); exact BK567.out)) : gb567 ≠ gb572)); have n6_ := Aside0.mk ((by rw [hg]; exact Nat.ne_of_gt (blk_lt (g := gb567) (o := .cells #[.slice A0_0 l0_0.length c0_0, .slice A0_1 l0_1.length c0_1] 25 (0, 0)) (by (with_reducible repeat (first | refine blk_drewN ?_ _ | refine blk_drew ?_ | refine blk_alloc ?_ _)); exact BK567.out)) : gb572 ≠ gb567)); clear BK567; clear HB; have BK567 := n0_; have HB := n1_; have BK572 := n2_; have GW572 := n3_; have GE572 := n4_; have NB567_572 := n5_; have NB572_567 := n6_; clear n0_ n1_ n2_ n3_ n4_ n5_ n6_; clear hb hbox hg; have hnb33 := NB572_567.out; have hnc33 := NB567_572.out; have hcz34_0 : w32.cell? ⟨gb572, 0, none⟩ = some (.string (⟨#[]⟩ : ByteArray)) := (blk_cell BK572.out 0).trans rfl; have hcz34_1 : w32.cell? ⟨gb572, 1, none⟩ = some (.int .i64 0) := (blk_cell BK572.out 1).trans rfl; have hfz34_0 := blk_frozen BK572.out 0; have hfz34_1 := blk_frozen BK572.out 1))
                            have n0_ : Aside0 (((w32.setCell ⟨gb572, 0, none⟩ (.string t569)).setCell ⟨gb572, 1, none⟩ (.int .i64 t570)).heap[gb567]? = some (.cells #[.slice A0_0 l0_0.length c0_0, .slice A0_1 l0_1.length c0_1] 25 (0, 0))) := ⟨by (with_reducible repeat (first | refine blk_drewN ?_ _ | refine blk_drew ?_ | refine blk_alloc ?_ _)); refine blk_far ?_ NB567_572.out _; (with_reducible repeat (first | refine blk_drewN ?_ _ | refine blk_drew ?_ | refine blk_alloc ?_ _)); refine blk_far ?_ NB567_572.out _; (with_reducible repeat (first | refine blk_drewN ?_ _ | refine blk_drew ?_ | refine blk_alloc ?_ _)); exact BK567.out⟩
                            have n1_ : Aside0 (((w32.setCell ⟨gb572, 0, none⟩ (.string t569)).setCell ⟨gb572, 1, none⟩ (.int .i64 t570)).heap[gb572]? = some (.cells #[.string t569, .int .i64 t570] 27 (0, 0))) := ⟨by (with_reducible repeat (first | refine blk_drewN ?_ _ | refine blk_drew ?_ | refine blk_alloc ?_ _)); refine blk_put (cs := #[.string t569, .int .i64 0]) ?_ 1 _ rfl; (with_reducible repeat (first | refine blk_drewN ?_ _ | refine blk_drew ?_ | refine blk_alloc ?_ _)); refine blk_put (cs := #[.string (⟨#[]⟩ : ByteArray), .int .i64 0]) ?_ 0 _ rfl; (with_reducible repeat (first | refine blk_drewN ?_ _ | refine blk_drew ?_ | refine blk_alloc ?_ _)); exact BK572.out⟩
                            have n2_ : Aside0 (Below w.heap.size w ((w32.setCell ⟨gb572, 0, none⟩ (.string t569)).setCell ⟨gb572, 1, none⟩ (.int .i64 t570))) := ⟨by repeat (first | (with_reducible first | exact HB.out | apply below_alloc | apply pw_below_drewN | apply below_drew1 | refine below_set ?_ GE567.out | refine below_set ?_ GE572.out) | exact HB.out)⟩
                            (try clear BK567)
                            (try clear BK572)
                            (try clear HB)
                            generalize ((w32.setCell ⟨gb572, 0, none⟩ (.string t569)).setCell ⟨gb572, 1, none⟩ (.int .i64 t570)) = w35 at n0_ n1_ n2_ ⊢
                            have BK567 := n0_
                            have BK572 := n1_
                            have HB := n2_
                            clear n0_ n1_ n2_
                            have n0_ := Aside0.mk (blk_drew BK567.out)
                            have n1_ := Aside0.mk (blk_drew BK572.out)
                            have n2_ := Aside0.mk (below_drew1 HB.out)
                            clear BK567
                            clear BK572
                            clear HB
                            have BK567 := n0_
                            have BK572 := n1_
                            have HB := n2_
                            clear n0_ n1_ n2_
                            refine start_ (n := 11) (S := fun w' => w'.cell? ⟨gb572, 0, none⟩ = some (.string t569) ∧ w'.cell? ⟨gb572, 1, none⟩ = some (.int .i64 t570)) (ds := [9]) #[false, false, false, false, false, false, false, false, false, false, false] (by kernel_rfl) rfl rfl ⟨(blk_cell BK572.out 0).trans rfl, (blk_cell BK572.out 1).trans rfl⟩ (fun hHeld => ?_); refine with_tabW herbariumlaw1_BitsWide.tab8 herbariumlaw1_BitsWide.bits8 (fun HT_ HW_ => ?_)
                            generalize w35.drew = w36 at BK567 BK572 HB hHeld ⊢
                            refine pure_ (i := 1) (N := some 33) (v := ?_) (a' := ?_) #[false, true, false, false, false, false, false, false, false, false, false] rfl rfl (any_of HT_.out (by kernel_rfl)) (fun _ _ _ h => h) (Or.inl ⟨by rfl, ?_⟩) ?_ ?_
                            rotate_left
                            · intro w'
                              go_simp
                              with_reducible rfl
                            rotate_left
                            · simp only [Act.put, List.setIfInBounds_toArray, List.set_cons_zero, List.set_cons_succ, i64_w, i32_w]
                              rfl
                            refine pure_ (i := 2) (N := some 34) (v := ?_) (a' := ?_) #[false, true, true, false, false, false, false, false, false, false, false] rfl rfl (any_of HT_.out (by kernel_rfl)) (fun _ _ _ h => h) (Or.inl ⟨by rfl, ?_⟩) ?_ ?_
                            rotate_left
                            · intro w'
                              go_simp
                              with_reducible rfl
                            rotate_left
                            · simp only [Act.put, List.setIfInBounds_toArray, List.set_cons_zero, List.set_cons_succ, i64_w, i32_w]
                              rfl
                            refine pure_ (i := 3) (N := some 35) (v := ?_) (a' := ?_) #[false, true, true, true, false, false, false, false, false, false, false] rfl rfl (any_of HT_.out (by kernel_rfl)) (fun _ _ _ h => h) (Or.inl ⟨by rfl, ?_⟩) ?_ ?_
                            rotate_left
                            · intro w'
                              go_simp
                              with_reducible rfl
                            rotate_left
                            · simp only [Act.put, List.setIfInBounds_toArray, List.set_cons_zero, List.set_cons_succ, i64_w, i32_w]
                              rfl
                            refine pure_ (i := 4) (N := some 36) (v := ?_) (a' := ?_) #[false, true, true, true, true, false, false, false, false, false, false] rfl rfl (any_of HT_.out (by kernel_rfl)) (fun _ _ _ h => h) (Or.inl ⟨by rfl, ?_⟩) ?_ ?_
                            rotate_left
                            · intro w'
                              go_simp
                              with_reducible rfl
                            rotate_left
                            · simp only [Act.put, List.setIfInBounds_toArray, List.set_cons_zero, List.set_cons_succ, i64_w, i32_w]
                              rfl
                            refine take_ (i := 0) (N := some 32) (v := ?_) (a' := ?_) #[true, true, true, true, true, false, false, false, false, false, false] rfl rfl (take_ofW HT_.out HW_.out (by kernel_rfl)) (fun _ _ _ h => h) (Or.inl ⟨by rfl, ?_⟩) hHeld ?_ ?_
                            rotate_left
                            · rintro w' ⟨s0, s1⟩
                              go_simp
                              with_reducible rfl
                            rotate_left
                            · simp only [Act.put, List.setIfInBounds_toArray, List.set_cons_zero, List.set_cons_succ, i64_w, i32_w]
                              rfl
                            refine one_ (i := 5) (N := some 37) #[true, true, true, true, true, true, false, false, false, false, false] rfl rfl (one_of HT_.out (by kernel_rfl)) (by decide) (fun K hK => ?_)
                            refine goes_ Try.func24 (by kernel_rfl) rfl #[.agg #[.string t569, .int .i64 t570], .int .i64 (wrap64 ((ji7) - 1)), .int .i64 x3_1] (by rfl) rfl rfl (by (try simp only [List.map_toArray, List.map_cons, List.map_nil]); first | done | (simp only [hji7]; rfl) | rfl | (simp only [List.length_drop, List.length_take]; rfl)) ?_
                            with_reducible refine (bits_Put.calls t569 t570 (wrap64 ((ji7) - 1)) x3_1 t573 t574 t575 _ A8.out).mono ?_
                            rintro e w37 ⟨rfl, hb⟩
                            refine ⟨_, rfl, ?_⟩
                            have n0_ := Aside0.mk (blk_below (g := gb567) (o := .cells #[.slice A0_0 l0_0.length c0_0, .slice A0_1 l0_1.length c0_1] 25 (0, 0)) (by (with_reducible repeat (first | refine blk_drewN ?_ _ | refine blk_drew ?_ | refine blk_alloc ?_ _)); exact BK567.out) hb)
                            have n1_ := Aside0.mk (blk_below (g := gb572) (o := .cells #[.string t569, .int .i64 t570] 27 (0, 0)) (by (with_reducible repeat (first | refine blk_drewN ?_ _ | refine blk_drew ?_ | refine blk_alloc ?_ _)); exact BK572.out) hb)
                            have n2_ := Aside0.mk (below_step (by repeat (first | (with_reducible first | exact HB.out | apply below_alloc | apply pw_below_drewN | apply below_drew1 | refine below_set ?_ GE567.out | refine below_set ?_ GE572.out) | exact HB.out)) hb)
                            clear BK567
                            clear BK572
                            clear HB
                            have BK567 := n0_
                            have BK572 := n1_
                            have HB := n2_
                            clear n0_ n1_ n2_
                            (try clear hb)
                            (try clear hb2)
                            (try clear hk)
                            (try clear hi)
                            refine hK.out _ _ ⟨(blk_cell BK572.out 0).trans rfl, (blk_cell BK572.out 1).trans rfl⟩ (fun hHeld => ?_)
                            clear hK K
                            refine norm_ (a' := ?_) ?_ ?_
                            rotate_left
                            · show Act.put _ (some 37) _ = _
                              simp only [Act.put, List.setIfInBounds_toArray, List.set_cons_zero, List.set_cons_succ, i64_w, i32_w]
                              rfl
                            refine pure_ (i := 6) (N := some 31) (v := ?_) (a' := ?_) #[true, true, true, true, true, true, true, false, false, false, false] rfl rfl (any_of HT_.out (by kernel_rfl)) (fun _ _ _ h => h) (Or.inl ⟨by rfl, ?_⟩) ?_ ?_
                            rotate_left
                            · intro w'
                              go_simp
                              with_reducible rfl
                            rotate_left
                            · simp only [Act.put, List.setIfInBounds_toArray, List.set_cons_zero, List.set_cons_succ, i64_w, i32_w]
                              rfl
                            refine pure_ (i := 7) (N := some 38) (v := ?_) (a' := ?_) #[true, true, true, true, true, true, true, true, false, false, false] rfl rfl (any_of HT_.out (by kernel_rfl)) (fun _ _ _ h => h) (Or.inl ⟨by rfl, ?_⟩) ?_ ?_
                            rotate_left
                            · intro w'
                              go_simp
                              with_reducible rfl
                            rotate_left
                            · simp only [Act.put, List.setIfInBounds_toArray, List.set_cons_zero, List.set_cons_succ, i64_w, i32_w]
                              rfl
                            refine pure_ (i := 8) (N := some 39) (v := ?_) (a' := ?_) #[true, true, true, true, true, true, true, true, true, false, false] rfl rfl (any_of HT_.out (by kernel_rfl)) (fun _ _ _ h => h) (Or.inl ⟨by rfl, ?_⟩) ?_ ?_
                            rotate_left
                            · intro w'
                              go_simp
                              with_reducible rfl
                            rotate_left
                            · simp only [Act.put, List.setIfInBounds_toArray, List.set_cons_zero, List.set_cons_succ, i64_w, i32_w]
                              rfl
                            refine last_ (i := 9) (N := none) #[true, true, true, true, true, true, true, true, true, true, false] rfl rfl (one_of HT_.out (by kernel_rfl)) (by decide) (fun K hK => ?_)
                            have hs38 : w37.cell? ⟨gb572, 0, none⟩ = some (.string t569) := (blk_cell BK572.out 0).trans rfl
                            have hfs38 := blk_frozen BK572.out 0
                            have hns38_0 := NB567_572.out
                            have hms38_0 := NB572_567.out
                            have hs39 : w37.cell? ⟨gb572, 1, none⟩ = some (.int .i64 t570) := (blk_cell BK572.out 1).trans rfl
                            have hfs39 := blk_frozen BK572.out 1
                            have hns39_0 := NB567_572.out
                            have hms39_0 := NB572_567.out
                            refine skip_ (w1 := ?_) (by rfl) rfl ?_ ?_
                            rotate_left
                            · go_simp
                              rfl
                            refine hK.out _ _ ?_
                            clear hK K
                            refine pure_ (i := 10) (N := some 7) (v := ?_) (a' := ?_) #[true, true, true, true, true, true, true, true, true, true, true] rfl rfl (any_of HT_.out (by kernel_rfl)) (fun _ _ _ h => h) (Or.inl ⟨by rfl, ?_⟩) ?_ ?_
                            rotate_left
                            · intro w'
                              go_simp
                              with_reducible rfl
                            rotate_left
                            · simp only [Act.put, List.setIfInBounds_toArray, List.set_cons_zero, List.set_cons_succ, i64_w, i32_w]
                              rfl
                            refine done_ (done_of HT_.out (by kernel_rfl)) ?_
                            have hcz40_0 : w37.cell? ⟨gb572, 0, none⟩ = some (.string t569) := (blk_cell BK572.out 0).trans rfl
                            have hcz40_1 : w37.cell? ⟨gb572, 1, none⟩ = some (.int .i64 t570) := (blk_cell BK572.out 1).trans rfl
                            have hfz40_0 := blk_frozen BK572.out 0
                            have hfz40_1 := blk_frozen BK572.out 1
                            try go_wp2_with (first | ((with_reducible refine gate_callee (f := 24) rfl ?_); refine goesL_ (some 43) rfl rfl Try.func24 (by kernel_rfl) rfl #[.agg #[.string t573, .int .i64 t574], .int .i64 0, .int .i64 x3_1] rfl (by (try simp only [List.map_toArray, List.map_cons, List.map_nil]); first | done | rfl | (simp only [List.length_drop, List.length_take]; rfl)) ?_; (with_reducible refine (bits_Put.calls t573 t574 0 x3_1 t576 t577 t578 _ A9.out).mono ?_); rintro e w41 ⟨rfl, hb⟩; refine ⟨_, rfl, ?_⟩; have n0_ := Aside0.mk (blk_below (g := gb567) (o := .cells #[.slice A0_0 l0_0.length c0_0, .slice A0_1 l0_1.length c0_1] 25 (0, 0)) (by (with_reducible repeat (first | refine blk_drewN ?_ _ | refine blk_drew ?_ | refine blk_alloc ?_ _)); refine blk_far ?_ NB567_572.out _; (with_reducible repeat (first | refine blk_drewN ?_ _ | refine blk_drew ?_ | refine blk_alloc ?_ _)); refine blk_far ?_ NB567_572.out _; (with_reducible repeat (first | refine blk_drewN ?_ _ | refine blk_drew ?_ | refine blk_alloc ?_ _)); exact BK567.out) hb); have n1_ := Aside0.mk (blk_below (g := gb572) (o := .cells #[.string t573, .int .i64 t574] 27 (0, 0)) (by (with_reducible repeat (first | refine blk_drewN ?_ _ | refine blk_drew ?_ | refine blk_alloc ?_ _)); refine blk_put (cs := #[.string t573, .int .i64 t570]) ?_ 1 _ rfl; (with_reducible repeat (first | refine blk_drewN ?_ _ | refine blk_drew ?_ | refine blk_alloc ?_ _)); refine blk_put (cs := #[.string t569, .int .i64 t570]) ?_ 0 _ rfl; (with_reducible repeat (first | refine blk_drewN ?_ _ | refine blk_drew ?_ | refine blk_alloc ?_ _)); exact BK572.out) hb); have n2_ := Aside0.mk (below_step (by repeat (first | (with_reducible first | exact HB.out | apply below_alloc | apply pw_below_drewN | apply below_drew1 | refine below_set ?_ GE567.out | refine below_set ?_ GE572.out) | exact HB.out)) hb); clear BK567; clear BK572; clear HB; have BK567 := n0_; have BK572 := n1_; have HB := n2_; clear n0_ n1_ n2_; (try clear hb); (try clear hb2); (try clear hk); (try clear hi); have hcz42_0 : w41.cell? ⟨gb572, 0, none⟩ = some (.string t573) := (blk_cell BK572.out 0).trans rfl; have hcz42_1 : w41.cell? ⟨gb572, 1, none⟩ = some (.int .i64 t574) := (blk_cell BK572.out 1).trans rfl; have hfz42_0 := blk_frozen BK572.out 0; have hfz42_1 := blk_frozen BK572.out 1) | ((with_reducible refine gate_callee (f := 25) rfl ?_); refine goesL_ (some 50) rfl rfl Try.func25 (by kernel_rfl) rfl #[.agg #[.string t576, .int .i64 t577], .int .i64 x4_2, .int .i64 x3_1] rfl (by (try simp only [List.map_toArray, List.map_cons, List.map_nil]); first | done | rfl | (simp only [List.length_drop, List.length_take]; rfl)) ?_; (with_reducible refine (bits_Get.calls k2 t576 t577 x4_2 x3_1 t579 t580 _ A10.out).mono ?_); rintro e w43 ⟨rfl, hb⟩; refine ⟨_, rfl, ?_⟩; have n0_ := Aside0.mk (blk_below (g := gb567) (o := .cells #[.slice A0_0 l0_0.length c0_0, .slice A0_1 l0_1.length c0_1] 25 (0, 0)) (by (with_reducible repeat (first | refine blk_drewN ?_ _ | refine blk_drew ?_ | refine blk_alloc ?_ _)); refine blk_far ?_ NB567_572.out _; (with_reducible repeat (first | refine blk_drewN ?_ _ | refine blk_drew ?_ | refine blk_alloc ?_ _)); refine blk_far ?_ NB567_572.out _; (with_reducible repeat (first | refine blk_drewN ?_ _ | refine blk_drew ?_ | refine blk_alloc ?_ _)); exact BK567.out) hb); have n1_ := Aside0.mk (blk_below (g := gb572) (o := .cells #[.string t576, .int .i64 t577] 27 (0, 0)) (by (with_reducible repeat (first | refine blk_drewN ?_ _ | refine blk_drew ?_ | refine blk_alloc ?_ _)); refine blk_put (cs := #[.string t576, .int .i64 t574]) ?_ 1 _ rfl; (with_reducible repeat (first | refine blk_drewN ?_ _ | refine blk_drew ?_ | refine blk_alloc ?_ _)); refine blk_put (cs := #[.string t573, .int .i64 t574]) ?_ 0 _ rfl; (with_reducible repeat (first | refine blk_drewN ?_ _ | refine blk_drew ?_ | refine blk_alloc ?_ _)); exact BK572.out) hb); have n2_ := Aside0.mk (below_step (by repeat (first | (with_reducible first | exact HB.out | apply below_alloc | apply pw_below_drewN | apply below_drew1 | refine below_set ?_ GE567.out | refine below_set ?_ GE572.out) | exact HB.out)) hb); clear BK567; clear BK572; clear HB; have BK567 := n0_; have BK572 := n1_; have HB := n2_; clear n0_ n1_ n2_; (try clear hb); (try clear hb2); (try clear hk); (try clear hi); have hcz44_0 : w43.cell? ⟨gb572, 0, none⟩ = some (.string t576) := (blk_cell BK572.out 0).trans rfl; have hcz44_1 : w43.cell? ⟨gb572, 1, none⟩ = some (.int .i64 t577) := (blk_cell BK572.out 1).trans rfl; have hfz44_0 := blk_frozen BK572.out 0; have hfz44_1 := blk_frozen BK572.out 1) | ((with_reducible refine gate_callee (f := 25) rfl ?_); refine goesL_ (some 59) rfl rfl Try.func25 (by kernel_rfl) rfl #[.agg #[.string t576, .int .i64 t577], .int .i64 (wrap64 (x4_2 + x3_1)), .int .i64 x3_1] rfl (by (try simp only [List.map_toArray, List.map_cons, List.map_nil]); first | done | rfl | (simp only [List.length_drop, List.length_take]; rfl)) ?_; (with_reducible refine (bits_Get.calls k2 t576 t577 (wrap64 (x4_2 + x3_1)) x3_1 t581 t582 _ A11.out).mono ?_); rintro e w45 ⟨rfl, hb⟩; refine ⟨_, rfl, ?_⟩; have n0_ := Aside0.mk (blk_below (g := gb567) (o := .cells #[.slice A0_0 l0_0.length c0_0, .slice A0_1 l0_1.length c0_1] 25 (0, 0)) (by (with_reducible repeat (first | refine blk_drewN ?_ _ | refine blk_drew ?_ | refine blk_alloc ?_ _)); exact BK567.out) hb); have n1_ := Aside0.mk (blk_below (g := gb572) (o := .cells #[.string t576, .int .i64 t577] 27 (0, 0)) (by (with_reducible repeat (first | refine blk_drewN ?_ _ | refine blk_drew ?_ | refine blk_alloc ?_ _)); exact BK572.out) hb); have n2_ := Aside0.mk (below_step (by repeat (first | (with_reducible first | exact HB.out | apply below_alloc | apply pw_below_drewN | apply below_drew1 | refine below_set ?_ GE567.out | refine below_set ?_ GE572.out) | exact HB.out)) hb); clear BK567; clear BK572; clear HB; have BK567 := n0_; have BK572 := n1_; have HB := n2_; clear n0_ n1_ n2_; (try clear hb); (try clear hb2); (try clear hk); (try clear hi)))
                            have n0_ := Aside0.mk (blk_drew BK567.out)
                            have n1_ := Aside0.mk (blk_drew BK572.out)
                            have n2_ := Aside0.mk (below_drew1 HB.out)
                            clear BK567
                            clear BK572
                            clear HB
                            have BK567 := n0_
                            have BK572 := n1_
                            have HB := n2_
                            clear n0_ n1_ n2_
                            refine start_ (n := 11) (S := fun w' => w'.cell? ⟨gb572, 0, none⟩ = some (.string t576) ∧ w'.cell? ⟨gb572, 1, none⟩ = some (.int .i64 t577)) (ds := []) #[false, false, false, false, false, false, false, false, false, false, false] (by kernel_rfl) rfl rfl ⟨(blk_cell BK572.out 0).trans rfl, (blk_cell BK572.out 1).trans rfl⟩ (fun hHeld => ?_); refine with_tabW herbariumlaw1_BitsWide.tab12 herbariumlaw1_BitsWide.bits12 (fun HT_ HW_ => ?_)
                            generalize w45.drew = w46 at BK567 BK572 HB hHeld ⊢
                            refine pure_ (i := 1) (N := some 64) (v := ?_) (a' := ?_) #[false, true, false, false, false, false, false, false, false, false, false] rfl rfl (any_of HT_.out (by kernel_rfl)) (fun _ _ _ h => h) (Or.inl ⟨by rfl, ?_⟩) ?_ ?_
                            rotate_left
                            · intro w'
                              go_simp
                              with_reducible rfl
                            rotate_left
                            · simp only [Act.put, List.setIfInBounds_toArray, List.set_cons_zero, List.set_cons_succ, i64_w, i32_w]
                              rfl
                            refine pure_ (i := 2) (N := some 65) (v := ?_) (a' := ?_) #[false, true, true, false, false, false, false, false, false, false, false] rfl rfl (any_of HT_.out (by kernel_rfl)) (fun _ _ _ h => h) (Or.inl ⟨by rfl, ?_⟩) ?_ ?_
                            rotate_left
                            · intro w'
                              go_simp
                              with_reducible rfl
                            rotate_left
                            · simp only [Act.put, List.setIfInBounds_toArray, List.set_cons_zero, List.set_cons_succ, i64_w, i32_w]
                              rfl
                            refine pure_ (i := 3) (N := some 66) (v := ?_) (a' := ?_) #[false, true, true, true, false, false, false, false, false, false, false] rfl rfl (any_of HT_.out (by kernel_rfl)) (fun _ _ _ h => h) (Or.inl ⟨by rfl, ?_⟩) ?_ ?_
                            rotate_left
                            · intro w'
                              go_simp
                              with_reducible rfl
                            rotate_left
                            · simp only [Act.put, List.setIfInBounds_toArray, List.set_cons_zero, List.set_cons_succ, i64_w, i32_w]
                              rfl
                            refine take_ (i := 0) (N := some 63) (v := ?_) (a' := ?_) #[true, true, true, true, false, false, false, false, false, false, false] rfl rfl (take_ofW HT_.out HW_.out (by kernel_rfl)) (fun _ _ _ h => h) (Or.inl ⟨by rfl, ?_⟩) hHeld ?_ ?_
                            rotate_left
                            · rintro w' ⟨s0, s1⟩
                              go_simp
                              with_reducible rfl
                            rotate_left
                            · simp only [Act.put, List.setIfInBounds_toArray, List.set_cons_zero, List.set_cons_succ, i64_w, i32_w]
                              rfl
                            refine join_ (σ := Nat) 2 #[true, true, true, true, true, true, true, true, true, false, false] (fun s_ => [(67, .tuple #[.agg #[.string t583, .int .i64 t584], .int .i64 t585]), (13, .pointer (some ⟨s_, 0, none⟩)), (62, .tuple #[.agg #[.string t583, .int .i64 t584], .int .i64 t585]), (68, .agg #[.string t583, .int .i64 t584]), (69, .int .i64 t585)]) (fun s_ w' => (w'.cell? ⟨gb572, 0, none⟩ = some (.string t576) ∧ w'.cell? ⟨gb572, 1, none⟩ = some (.int .i64 t577)) ∧ (w'.heap[gb567]? = some (.cells #[.slice A0_0 l0_0.length c0_0, .slice A0_1 l0_1.length c0_1] 25 (0, 0))) ∧ (w'.heap[gb572]? = some (.cells #[.string t576, .int .i64 t577] 27 (0, 0))) ∧ (w'.heap[s_]? = some (.cells #[.string (⟨#[]⟩ : ByteArray), .int .i64 0] 27 (0, 0))) ∧ (w.heap.size ≤ s_) ∧ (w.heap.size ≤ s_) ∧ (gb567 ≠ s_) ∧ (s_ ≠ gb567) ∧ (gb572 ≠ s_) ∧ (s_ ≠ gb572) ∧ (Below w.heap.size w w')) ?_ ?_
                            rotate_left
                            · intro hCont
                              refine two_ (i := 4) (j := 8) (Ni := some 67) (Nj := some 13) #[true, true, true, true, true, false, false, false, false, false, false] #[true, true, true, true, false, false, false, false, true, false, false] rfl rfl rfl rfl (two_of HT_.out (by kernel_rfl)) (by decide) (by decide) (fun K hK => ?_) (fun K hK => ?_)
                              · skip
                                refine goes_ Try.func24 (by kernel_rfl) rfl #[.agg #[.string t576, .int .i64 t577], .int .i64 ji7, .int .i64 x3_1] (by rfl) rfl rfl (by (try simp only [List.map_toArray, List.map_cons, List.map_nil]); first | done | (simp only [hji7]; rfl) | rfl | (simp only [List.length_drop, List.length_take]; rfl)) ?_
                                with_reducible refine (bits_Put.calls t576 t577 ji7 x3_1 t583 t584 t585 _ A14.out).mono ?_
                                rintro e w47 ⟨rfl, hb⟩
                                refine ⟨_, rfl, ?_⟩
                                have n0_ := Aside0.mk (blk_below (g := gb567) (o := .cells #[.slice A0_0 l0_0.length c0_0, .slice A0_1 l0_1.length c0_1] 25 (0, 0)) (by (with_reducible repeat (first | refine blk_drewN ?_ _ | refine blk_drew ?_ | refine blk_alloc ?_ _)); exact BK567.out) hb)
                                have n1_ := Aside0.mk (blk_below (g := gb572) (o := .cells #[.string t576, .int .i64 t577] 27 (0, 0)) (by (with_reducible repeat (first | refine blk_drewN ?_ _ | refine blk_drew ?_ | refine blk_alloc ?_ _)); exact BK572.out) hb)
                                have n2_ := Aside0.mk (below_step (by repeat (first | (with_reducible first | exact HB.out | apply below_alloc | apply pw_below_drewN | apply below_drew1 | refine below_set ?_ GE567.out | refine below_set ?_ GE572.out) | exact HB.out)) hb)
                                clear BK567
                                clear BK572
                                clear HB
                                have BK567 := n0_
                                have BK572 := n1_
                                have HB := n2_
                                clear n0_ n1_ n2_
                                (try clear hb)
                                (try clear hb2)
                                (try clear hk)
                                (try clear hi)
                                refine hK.out _ _ ⟨(blk_cell BK572.out 0).trans rfl, (blk_cell BK572.out 1).trans rfl⟩ (fun hHeld => ?_)
                                clear hK K
                                refine norm_ (a' := ?_) ?_ ?_
                                rotate_left
                                · show Act.put _ (some 67) _ = _
                                  simp only [Act.put, List.setIfInBounds_toArray, List.set_cons_zero, List.set_cons_succ, i64_w, i32_w]
                                  rfl
                                refine pure_ (i := 5) (N := some 62) (v := ?_) (a' := ?_) #[true, true, true, true, true, true, false, false, false, false, false] rfl rfl (any_of HT_.out (by kernel_rfl)) (fun _ _ _ h => h) (Or.inl ⟨by rfl, ?_⟩) ?_ ?_
                                rotate_left
                                · intro w'
                                  go_simp
                                  with_reducible rfl
                                rotate_left
                                · simp only [Act.put, List.setIfInBounds_toArray, List.set_cons_zero, List.set_cons_succ, i64_w, i32_w]
                                  rfl
                                refine pure_ (i := 6) (N := some 68) (v := ?_) (a' := ?_) #[true, true, true, true, true, true, true, false, false, false, false] rfl rfl (any_of HT_.out (by kernel_rfl)) (fun _ _ _ h => h) (Or.inl ⟨by rfl, ?_⟩) ?_ ?_
                                rotate_left
                                · intro w'
                                  go_simp
                                  with_reducible rfl
                                rotate_left
                                · simp only [Act.put, List.setIfInBounds_toArray, List.set_cons_zero, List.set_cons_succ, i64_w, i32_w]
                                  rfl
                                refine pure_ (i := 7) (N := some 69) (v := ?_) (a' := ?_) #[true, true, true, true, true, true, true, true, false, false, false] rfl rfl (any_of HT_.out (by kernel_rfl)) (fun _ _ _ h => h) (Or.inl ⟨by rfl, ?_⟩) ?_ ?_
                                rotate_left
                                · intro w'
                                  go_simp
                                  with_reducible rfl
                                rotate_left
                                · simp only [Act.put, List.setIfInBounds_toArray, List.set_cons_zero, List.set_cons_succ, i64_w, i32_w]
                                  rfl
                                refine one_ (i := 8) (N := some 13) #[true, true, true, true, true, true, true, true, true, false, false] rfl rfl (one_of HT_.out (by kernel_rfl)) (by decide) (fun K hK => ?_)
                                refine box_step ?hg (N := 13) ?hd (cs := #[.string (⟨#[]⟩ : ByteArray), .int .i64 0]) (t := 27) ?hr ?_; (case hd => rfl); (case hg => rfl); (case hr => first | (go_simp; done) | (go_simp; rfl))
                                intro gb586 hg w48 hbox hb
                                have n0_ := Aside0.mk (blk_below (g := gb567) (o := .cells #[.slice A0_0 l0_0.length c0_0, .slice A0_1 l0_1.length c0_1] 25 (0, 0)) (by (with_reducible repeat (first | refine blk_drewN ?_ _ | refine blk_drew ?_ | refine blk_alloc ?_ _)); exact BK567.out) hb)
                                have n1_ := Aside0.mk (blk_below (g := gb572) (o := .cells #[.string t576, .int .i64 t577] 27 (0, 0)) (by (with_reducible repeat (first | refine blk_drewN ?_ _ | refine blk_drew ?_ | refine blk_alloc ?_ _)); exact BK572.out) hb)
                                have n2_ := Aside0.mk (below_step (by repeat (first | (with_reducible first | exact HB.out | apply below_alloc | apply pw_below_drewN | apply below_drew1 | refine below_set ?_ GE567.out | refine below_set ?_ GE572.out) | exact HB.out)) hb)
                                have n3_ := Aside0.mk (hbox)
                                have n4_ := Aside0.mk ((by rw [hg]; exact (below_size (by repeat (first | (with_reducible first | exact HB.out | apply below_alloc | apply pw_below_drewN | apply below_drew1 | refine below_set ?_ GE567.out | refine below_set ?_ GE572.out) | exact HB.out))) : w.heap.size ≤ gb586))
                                have n5_ := Aside0.mk ((by rw [hg]; exact (below_size (by repeat (first | (with_reducible first | exact HB.out | apply below_alloc | apply pw_below_drewN | apply below_drew1 | refine below_set ?_ GE567.out | refine below_set ?_ GE572.out) | exact HB.out))) : w.heap.size ≤ gb586))
                                have n6_ := Aside0.mk ((by rw [hg]; exact Nat.ne_of_lt (blk_lt (g := gb567) (o := .cells #[.slice A0_0 l0_0.length c0_0, .slice A0_1 l0_1.length c0_1] 25 (0, 0)) (by (with_reducible repeat (first | refine blk_drewN ?_ _ | refine blk_drew ?_ | refine blk_alloc ?_ _)); exact BK567.out)) : gb567 ≠ gb586))
                                have n7_ := Aside0.mk ((by rw [hg]; exact Nat.ne_of_gt (blk_lt (g := gb567) (o := .cells #[.slice A0_0 l0_0.length c0_0, .slice A0_1 l0_1.length c0_1] 25 (0, 0)) (by (with_reducible repeat (first | refine blk_drewN ?_ _ | refine blk_drew ?_ | refine blk_alloc ?_ _)); exact BK567.out)) : gb586 ≠ gb567))
                                have n8_ := Aside0.mk ((by rw [hg]; exact Nat.ne_of_lt (blk_lt (g := gb572) (o := .cells #[.string t576, .int .i64 t577] 27 (0, 0)) (by (with_reducible repeat (first | refine blk_drewN ?_ _ | refine blk_drew ?_ | refine blk_alloc ?_ _)); exact BK572.out)) : gb572 ≠ gb586))
                                have n9_ := Aside0.mk ((by rw [hg]; exact Nat.ne_of_gt (blk_lt (g := gb572) (o := .cells #[.string t576, .int .i64 t577] 27 (0, 0)) (by (with_reducible repeat (first | refine blk_drewN ?_ _ | refine blk_drew ?_ | refine blk_alloc ?_ _)); exact BK572.out)) : gb586 ≠ gb572))
                                clear BK567
                                clear BK572
                                clear HB
                                have BK567 := n0_
                                have BK572 := n1_
                                have HB := n2_
                                have BK586 := n3_
                                have GW586 := n4_
                                have GE586 := n5_
                                have NB567_586 := n6_
                                have NB586_567 := n7_
                                have NB572_586 := n8_
                                have NB586_572 := n9_
                                clear n0_ n1_ n2_ n3_ n4_ n5_ n6_ n7_ n8_ n9_
                                clear hb hbox hg
                                refine hK.out _ _ ⟨(blk_cell BK572.out 0).trans rfl, (blk_cell BK572.out 1).trans rfl⟩ (fun hHeld => ?_)
                                clear hK K
                                refine norm_ (a' := ?_) ?_ ?_
                                rotate_left
                                · show Act.put _ (some 13) _ = _
                                  simp only [Act.put, List.setIfInBounds_toArray, List.set_cons_zero, List.set_cons_succ, i64_w, i32_w]
                                  rfl
                                exact norm_ (by simp only [putAll, Act.put, List.setIfInBounds_toArray, List.set_cons_zero, List.set_cons_succ]) (hCont (gb586) _ ⟨hHeld, (by (with_reducible repeat (first | refine blk_drewN ?_ _ | refine blk_drew ?_ | refine blk_alloc ?_ _)); exact BK567.out), (by (with_reducible repeat (first | refine blk_drewN ?_ _ | refine blk_drew ?_ | refine blk_alloc ?_ _)); exact BK572.out), (by (with_reducible repeat (first | refine blk_drewN ?_ _ | refine blk_drew ?_ | refine blk_alloc ?_ _)); exact BK586.out), GW586.out, GE586.out, NB567_586.out, NB586_567.out, NB572_586.out, NB586_572.out, (by repeat (first | (with_reducible first | exact HB.out | apply below_alloc | apply pw_below_drewN | apply below_drew1 | refine below_set ?_ GE567.out | refine below_set ?_ GE572.out | refine below_set ?_ GE586.out) | exact HB.out))⟩)
                              · skip
                                refine box_step ?hg (N := 13) ?hd (cs := #[.string (⟨#[]⟩ : ByteArray), .int .i64 0]) (t := 27) ?hr ?_; (case hd => rfl); (case hg => rfl); (case hr => first | (go_simp; done) | (go_simp; rfl))
                                intro gb586 hg w47 hbox hb
                                have n0_ := Aside0.mk (blk_below (g := gb567) (o := .cells #[.slice A0_0 l0_0.length c0_0, .slice A0_1 l0_1.length c0_1] 25 (0, 0)) (by (with_reducible repeat (first | refine blk_drewN ?_ _ | refine blk_drew ?_ | refine blk_alloc ?_ _)); exact BK567.out) hb)
                                have n1_ := Aside0.mk (blk_below (g := gb572) (o := .cells #[.string t576, .int .i64 t577] 27 (0, 0)) (by (with_reducible repeat (first | refine blk_drewN ?_ _ | refine blk_drew ?_ | refine blk_alloc ?_ _)); exact BK572.out) hb)
                                have n2_ := Aside0.mk (below_step (by repeat (first | (with_reducible first | exact HB.out | apply below_alloc | apply pw_below_drewN | apply below_drew1 | refine below_set ?_ GE567.out | refine below_set ?_ GE572.out) | exact HB.out)) hb)
                                have n3_ := Aside0.mk (hbox)
                                have n4_ := Aside0.mk ((by rw [hg]; exact (below_size (by repeat (first | (with_reducible first | exact HB.out | apply below_alloc | apply pw_below_drewN | apply below_drew1 | refine below_set ?_ GE567.out | refine below_set ?_ GE572.out) | exact HB.out))) : w.heap.size ≤ gb586))
                                have n5_ := Aside0.mk ((by rw [hg]; exact (below_size (by repeat (first | (with_reducible first | exact HB.out | apply below_alloc | apply pw_below_drewN | apply below_drew1 | refine below_set ?_ GE567.out | refine below_set ?_ GE572.out) | exact HB.out))) : w.heap.size ≤ gb586))
                                have n6_ := Aside0.mk ((by rw [hg]; exact Nat.ne_of_lt (blk_lt (g := gb567) (o := .cells #[.slice A0_0 l0_0.length c0_0, .slice A0_1 l0_1.length c0_1] 25 (0, 0)) (by (with_reducible repeat (first | refine blk_drewN ?_ _ | refine blk_drew ?_ | refine blk_alloc ?_ _)); exact BK567.out)) : gb567 ≠ gb586))
                                have n7_ := Aside0.mk ((by rw [hg]; exact Nat.ne_of_gt (blk_lt (g := gb567) (o := .cells #[.slice A0_0 l0_0.length c0_0, .slice A0_1 l0_1.length c0_1] 25 (0, 0)) (by (with_reducible repeat (first | refine blk_drewN ?_ _ | refine blk_drew ?_ | refine blk_alloc ?_ _)); exact BK567.out)) : gb586 ≠ gb567))
                                have n8_ := Aside0.mk ((by rw [hg]; exact Nat.ne_of_lt (blk_lt (g := gb572) (o := .cells #[.string t576, .int .i64 t577] 27 (0, 0)) (by (with_reducible repeat (first | refine blk_drewN ?_ _ | refine blk_drew ?_ | refine blk_alloc ?_ _)); exact BK572.out)) : gb572 ≠ gb586))
                                have n9_ := Aside0.mk ((by rw [hg]; exact Nat.ne_of_gt (blk_lt (g := gb572) (o := .cells #[.string t576, .int .i64 t577] 27 (0, 0)) (by (with_reducible repeat (first | refine blk_drewN ?_ _ | refine blk_drew ?_ | refine blk_alloc ?_ _)); exact BK572.out)) : gb586 ≠ gb572))
                                clear BK567
                                clear BK572
                                clear HB
                                have BK567 := n0_
                                have BK572 := n1_
                                have HB := n2_
                                have BK586 := n3_
                                have GW586 := n4_
                                have GE586 := n5_
                                have NB567_586 := n6_
                                have NB586_567 := n7_
                                have NB572_586 := n8_
                                have NB586_572 := n9_
                                clear n0_ n1_ n2_ n3_ n4_ n5_ n6_ n7_ n8_ n9_
                                clear hb hbox hg
                                refine hK.out _ _ ⟨(blk_cell BK572.out 0).trans rfl, (blk_cell BK572.out 1).trans rfl⟩ (fun hHeld => ?_)
                                clear hK K
                                refine norm_ (a' := ?_) ?_ ?_
                                rotate_left
                                · show Act.put _ (some 13) _ = _
                                  simp only [Act.put, List.setIfInBounds_toArray, List.set_cons_zero, List.set_cons_succ, i64_w, i32_w]
                                  rfl
                                refine one_ (i := 4) (N := some 67) #[true, true, true, true, true, false, false, false, true, false, false] rfl rfl (one_of HT_.out (by kernel_rfl)) (by decide) (fun K hK => ?_)
                                refine goes_ Try.func24 (by kernel_rfl) rfl #[.agg #[.string t576, .int .i64 t577], .int .i64 ji7, .int .i64 x3_1] (by rfl) rfl rfl (by (try simp only [List.map_toArray, List.map_cons, List.map_nil]); first | done | (simp only [hji7]; rfl) | rfl | (simp only [List.length_drop, List.length_take]; rfl)) ?_
                                with_reducible refine (bits_Put.calls t576 t577 ji7 x3_1 t583 t584 t585 _ A14.out).mono ?_
                                rintro e w48 ⟨rfl, hb⟩
                                refine ⟨_, rfl, ?_⟩
                                have n0_ := Aside0.mk (blk_below (g := gb567) (o := .cells #[.slice A0_0 l0_0.length c0_0, .slice A0_1 l0_1.length c0_1] 25 (0, 0)) (by (with_reducible repeat (first | refine blk_drewN ?_ _ | refine blk_drew ?_ | refine blk_alloc ?_ _)); exact BK567.out) hb)
                                have n1_ := Aside0.mk (blk_below (g := gb572) (o := .cells #[.string t576, .int .i64 t577] 27 (0, 0)) (by (with_reducible repeat (first | refine blk_drewN ?_ _ | refine blk_drew ?_ | refine blk_alloc ?_ _)); exact BK572.out) hb)
                                have n2_ := Aside0.mk (blk_below (g := gb586) (o := .cells #[.string (⟨#[]⟩ : ByteArray), .int .i64 0] 27 (0, 0)) (by (with_reducible repeat (first | refine blk_drewN ?_ _ | refine blk_drew ?_ | refine blk_alloc ?_ _)); exact BK586.out) hb)
                                have n3_ := Aside0.mk (below_step (by repeat (first | (with_reducible first | exact HB.out | apply below_alloc | apply pw_below_drewN | apply below_drew1 | refine below_set ?_ GE567.out | refine below_set ?_ GE572.out | refine below_set ?_ GE586.out) | exact HB.out)) hb)
                                clear BK567
                                clear BK572
                                clear BK586
                                clear HB
                                have BK567 := n0_
                                have BK572 := n1_
                                have BK586 := n2_
                                have HB := n3_
                                clear n0_ n1_ n2_ n3_
                                (try clear hb)
                                (try clear hb2)
                                (try clear hk)
                                (try clear hi)
                                refine hK.out _ _ ⟨(blk_cell BK572.out 0).trans rfl, (blk_cell BK572.out 1).trans rfl⟩ (fun hHeld => ?_)
                                clear hK K
                                refine norm_ (a' := ?_) ?_ ?_
                                rotate_left
                                · show Act.put _ (some 67) _ = _
                                  simp only [Act.put, List.setIfInBounds_toArray, List.set_cons_zero, List.set_cons_succ, i64_w, i32_w]
                                  rfl
                                refine pure_ (i := 5) (N := some 62) (v := ?_) (a' := ?_) #[true, true, true, true, true, true, false, false, true, false, false] rfl rfl (any_of HT_.out (by kernel_rfl)) (fun _ _ _ h => h) (Or.inl ⟨by rfl, ?_⟩) ?_ ?_
                                rotate_left
                                · intro w'
                                  go_simp
                                  with_reducible rfl
                                rotate_left
                                · simp only [Act.put, List.setIfInBounds_toArray, List.set_cons_zero, List.set_cons_succ, i64_w, i32_w]
                                  rfl
                                refine pure_ (i := 6) (N := some 68) (v := ?_) (a' := ?_) #[true, true, true, true, true, true, true, false, true, false, false] rfl rfl (any_of HT_.out (by kernel_rfl)) (fun _ _ _ h => h) (Or.inl ⟨by rfl, ?_⟩) ?_ ?_
                                rotate_left
                                · intro w'
                                  go_simp
                                  with_reducible rfl
                                rotate_left
                                · simp only [Act.put, List.setIfInBounds_toArray, List.set_cons_zero, List.set_cons_succ, i64_w, i32_w]
                                  rfl
                                refine pure_ (i := 7) (N := some 69) (v := ?_) (a' := ?_) #[true, true, true, true, true, true, true, true, true, false, false] rfl rfl (any_of HT_.out (by kernel_rfl)) (fun _ _ _ h => h) (Or.inl ⟨by rfl, ?_⟩) ?_ ?_
                                rotate_left
                                · intro w'
                                  go_simp
                                  with_reducible rfl
                                rotate_left
                                · simp only [Act.put, List.setIfInBounds_toArray, List.set_cons_zero, List.set_cons_succ, i64_w, i32_w]
                                  rfl
                                exact norm_ (by simp only [putAll, Act.put, List.setIfInBounds_toArray, List.set_cons_zero, List.set_cons_succ]) (hCont (gb586) _ ⟨hHeld, (by (with_reducible repeat (first | refine blk_drewN ?_ _ | refine blk_drew ?_ | refine blk_alloc ?_ _)); exact BK567.out), (by (with_reducible repeat (first | refine blk_drewN ?_ _ | refine blk_drew ?_ | refine blk_alloc ?_ _)); exact BK572.out), (by (with_reducible repeat (first | refine blk_drewN ?_ _ | refine blk_drew ?_ | refine blk_alloc ?_ _)); exact BK586.out), GW586.out, GE586.out, NB567_586.out, NB586_567.out, NB572_586.out, NB586_572.out, (by repeat (first | (with_reducible first | exact HB.out | apply below_alloc | apply pw_below_drewN | apply below_drew1 | refine below_set ?_ GE567.out | refine below_set ?_ GE572.out | refine below_set ?_ GE586.out) | exact HB.out))⟩)
                            rintro gb586 w49 ⟨hS_, h0_, h1_, h2_, h3_, h4_, h5_, h6_, h7_, h8_, h9_⟩
                            have n0_ : Aside0 (w49.heap[gb567]? = some (.cells #[.slice A0_0 l0_0.length c0_0, .slice A0_1 l0_1.length c0_1] 25 (0, 0))) := ⟨h0_⟩
                            have n1_ : Aside0 (w49.heap[gb572]? = some (.cells #[.string t576, .int .i64 t577] 27 (0, 0))) := ⟨h1_⟩
                            have n2_ : Aside0 (w49.heap[gb586]? = some (.cells #[.string (⟨#[]⟩ : ByteArray), .int .i64 0] 27 (0, 0))) := ⟨h2_⟩
                            have n3_ : Aside0 (w.heap.size ≤ gb586) := ⟨h3_⟩
                            have n4_ : Aside0 (w.heap.size ≤ gb586) := ⟨h4_⟩
                            have n5_ : Aside0 (gb567 ≠ gb586) := ⟨h5_⟩
                            have n6_ : Aside0 (gb586 ≠ gb567) := ⟨h6_⟩
                            have n7_ : Aside0 (gb572 ≠ gb586) := ⟨h7_⟩
                            have n8_ : Aside0 (gb586 ≠ gb572) := ⟨h8_⟩
                            have n9_ : Aside0 (Below w.heap.size w w49) := ⟨h9_⟩
                            clear BK567
                            clear BK572
                            clear HB
                            clear h0_ h1_ h2_ h3_ h4_ h5_ h6_ h7_ h8_ h9_
                            have BK567 := n0_
                            have BK572 := n1_
                            have BK586 := n2_
                            have GW586 := n3_
                            have GE586 := n4_
                            have NB567_586 := n5_
                            have NB586_567 := n6_
                            have NB572_586 := n7_
                            have NB586_572 := n8_
                            have HB := n9_
                            clear n0_ n1_ n2_ n3_ n4_ n5_ n6_ n7_ n8_ n9_
                            have hHeld : w49.cell? ⟨gb572, 0, none⟩ = some (.string t576) ∧ w49.cell? ⟨gb572, 1, none⟩ = some (.int .i64 t577) := hS_
                            refine norm_ (a' := ?_) ?_ ?_
                            rotate_left
                            · simp only [putAll, Act.put, List.setIfInBounds_toArray, List.set_cons_zero, List.set_cons_succ]
                              rfl
                            refine one_ (i := 9) (N := none) #[true, true, true, true, true, true, true, true, true, true, false] rfl rfl (one_of HT_.out (by kernel_rfl)) (by decide) (fun K hK => ?_)
                            have hs50 : w49.cell? ⟨gb586, 0, none⟩ = some (.string (⟨#[]⟩ : ByteArray)) := (blk_cell BK586.out 0).trans rfl
                            have hfs50 := blk_frozen BK586.out 0
                            have hns50_0 := NB567_586.out
                            have hns50_1 := NB572_586.out
                            have hms50_0 := NB586_567.out
                            have hms50_1 := NB586_572.out
                            have hs51 : w49.cell? ⟨gb586, 1, none⟩ = some (.int .i64 0) := (blk_cell BK586.out 1).trans rfl
                            have hfs51 := blk_frozen BK586.out 1
                            have hns51_0 := NB567_586.out
                            have hns51_1 := NB572_586.out
                            have hms51_0 := NB586_567.out
                            have hms51_1 := NB586_572.out
                            refine skip_ (w1 := ?_) (by rfl) rfl ?_ ?_
                            rotate_left
                            · go_simp
                              rfl
                            refine hK.out _ _ ⟨((cell_far (p := ⟨gb586, _, none⟩) NB572_586.out _).trans (((cell_far (p := ⟨gb586, _, none⟩) NB572_586.out _).trans (hHeld.1)))), ((cell_far (p := ⟨gb586, _, none⟩) NB572_586.out _).trans (((cell_far (p := ⟨gb586, _, none⟩) NB572_586.out _).trans (hHeld.2))))⟩ (fun hHeld => ?_)
                            clear hK K
                            refine pure_ (i := 10) (N := some 14) (v := ?_) (a' := ?_) #[true, true, true, true, true, true, true, true, true, true, true] rfl rfl (any_of HT_.out (by kernel_rfl)) (fun _ _ _ h => h) (Or.inl ⟨by rfl, ?_⟩) ?_ ?_
                            rotate_left
                            · intro w'
                              go_simp
                              with_reducible rfl
                            rotate_left
                            · simp only [Act.put, List.setIfInBounds_toArray, List.set_cons_zero, List.set_cons_succ, i64_w, i32_w]
                              rfl
                            refine done_ (done_of HT_.out (by kernel_rfl)) ?_
                            have hnb52 := NB572_586.out
                            have hnc52 := NB586_572.out
                            have hcz53_0 : w49.cell? ⟨gb572, 0, none⟩ = some (.string t576) := (blk_cell BK572.out 0).trans rfl
                            have hcz53_1 : w49.cell? ⟨gb572, 1, none⟩ = some (.int .i64 t577) := (blk_cell BK572.out 1).trans rfl
                            have hfz53_0 := blk_frozen BK572.out 0
                            have hfz53_1 := blk_frozen BK572.out 1
                            try go_wp2_with (first | ((with_reducible refine gate_callee (f := 25) rfl ?_); refine goesL_ (some 77) rfl rfl Try.func25 (by kernel_rfl) rfl #[.agg #[.string t576, .int .i64 t577], .int .i64 (wrap64 ((wrap64 (x4_2 + x3_1)) + 1)), .int .i64 x3_1] rfl (by (try simp only [List.map_toArray, List.map_cons, List.map_nil]); first | done | rfl | (simp only [List.length_drop, List.length_take]; rfl)) ?_; (with_reducible refine (bits_Get.calls k2 t576 t577 (wrap64 ((wrap64 (x4_2 + x3_1)) + 1)) x3_1 t587 t588 _ A15.out).mono ?_); rintro e w54 ⟨rfl, hb⟩; refine ⟨_, rfl, ?_⟩; have n0_ := Aside0.mk (blk_below (g := gb567) (o := .cells #[.slice A0_0 l0_0.length c0_0, .slice A0_1 l0_1.length c0_1] 25 (0, 0)) (by (with_reducible repeat (first | refine blk_drewN ?_ _ | refine blk_drew ?_ | refine blk_alloc ?_ _)); refine blk_far ?_ NB567_586.out _; (with_reducible repeat (first | refine blk_drewN ?_ _ | refine blk_drew ?_ | refine blk_alloc ?_ _)); refine blk_far ?_ NB567_586.out _; (with_reducible repeat (first | refine blk_drewN ?_ _ | refine blk_drew ?_ | refine blk_alloc ?_ _)); exact BK567.out) hb); have n1_ := Aside0.mk (blk_below (g := gb572) (o := .cells #[.string t576, .int .i64 t577] 27 (0, 0)) (by (with_reducible repeat (first | refine blk_drewN ?_ _ | refine blk_drew ?_ | refine blk_alloc ?_ _)); refine blk_far ?_ NB572_586.out _; (with_reducible repeat (first | refine blk_drewN ?_ _ | refine blk_drew ?_ | refine blk_alloc ?_ _)); refine blk_far ?_ NB572_586.out _; (with_reducible repeat (first | refine blk_drewN ?_ _ | refine blk_drew ?_ | refine blk_alloc ?_ _)); exact BK572.out) hb); have n2_ := Aside0.mk (blk_below (g := gb586) (o := .cells #[.string t583, .int .i64 t584] 27 (0, 0)) (by (with_reducible repeat (first | refine blk_drewN ?_ _ | refine blk_drew ?_ | refine blk_alloc ?_ _)); refine blk_put (cs := #[.string t583, .int .i64 0]) ?_ 1 _ rfl; (with_reducible repeat (first | refine blk_drewN ?_ _ | refine blk_drew ?_ | refine blk_alloc ?_ _)); refine blk_put (cs := #[.string (⟨#[]⟩ : ByteArray), .int .i64 0]) ?_ 0 _ rfl; (with_reducible repeat (first | refine blk_drewN ?_ _ | refine blk_drew ?_ | refine blk_alloc ?_ _)); exact BK586.out) hb); have n3_ := Aside0.mk (below_step (by repeat (first | (with_reducible first | exact HB.out | apply below_alloc | apply pw_below_drewN | apply below_drew1 | refine below_set ?_ GE567.out | refine below_set ?_ GE572.out | refine below_set ?_ GE586.out) | exact HB.out)) hb); clear BK567; clear BK572; clear BK586; clear HB; have BK567 := n0_; have BK572 := n1_; have BK586 := n2_; have HB := n3_; clear n0_ n1_ n2_ n3_; (try clear hb); (try clear hb2); (try clear hk); (try clear hi)) | ((with_reducible refine gate_callee (f := 26) rfl ?_); refine goesL_ (some 81) rfl rfl Try.func26 (by kernel_rfl) rfl #[.int .i64 t571] rfl (by (try simp only [List.map_toArray, List.map_cons, List.map_nil]); first | done | rfl | (simp only [List.length_drop, List.length_take]; rfl)) ?_; (with_reducible refine (herbariumlaw1_num.calls t571 t589 _ A16.out).mono ?_); rintro e w' ⟨rfl, ⟨nd, rfl⟩⟩; refine ⟨_, rfl, ?_⟩) | ((with_reducible refine gate_callee (f := 26) rfl ?_); refine goesL_ (some 83) rfl rfl Try.func26 (by kernel_rfl) rfl #[.int .i64 t575] rfl (by (try simp only [List.map_toArray, List.map_cons, List.map_nil]); first | done | rfl | (simp only [List.length_drop, List.length_take]; rfl)) ?_; (with_reducible refine (herbariumlaw1_num.calls t575 t590 _ A17.out).mono ?_); rintro e w' ⟨rfl, ⟨nd, rfl⟩⟩; refine ⟨_, rfl, ?_⟩) | ((with_reducible refine gate_callee (f := 26) rfl ?_); refine goesL_ (some 86) rfl rfl Try.func26 (by kernel_rfl) rfl #[.int .i64 t578] rfl (by (try simp only [List.map_toArray, List.map_cons, List.map_nil]); first | done | rfl | (simp only [List.length_drop, List.length_take]; rfl)) ?_; (with_reducible refine (herbariumlaw1_num.calls t578 t591 _ A18.out).mono ?_); rintro e w' ⟨rfl, ⟨nd, rfl⟩⟩; refine ⟨_, rfl, ?_⟩) | ((with_reducible refine gate_callee (f := 26) rfl ?_); refine goesL_ (some 89) rfl rfl Try.func26 (by kernel_rfl) rfl #[.int .i64 t580] rfl (by (try simp only [List.map_toArray, List.map_cons, List.map_nil]); first | done | rfl | (simp only [List.length_drop, List.length_take]; rfl)) ?_; (with_reducible refine (herbariumlaw1_num.calls t580 t592 _ A19.out).mono ?_); rintro e w' ⟨rfl, ⟨nd, rfl⟩⟩; refine ⟨_, rfl, ?_⟩) | ((with_reducible refine gate_callee (f := 26) rfl ?_); refine goesL_ (some 92) rfl rfl Try.func26 (by kernel_rfl) rfl #[.int .i64 t582] rfl (by (try simp only [List.map_toArray, List.map_cons, List.map_nil]); first | done | rfl | (simp only [List.length_drop, List.length_take]; rfl)) ?_; (with_reducible refine (herbariumlaw1_num.calls t582 t593 _ A20.out).mono ?_); rintro e w' ⟨rfl, ⟨nd, rfl⟩⟩; refine ⟨_, rfl, ?_⟩) | (go_at_call 26; (with_reducible refine (herbariumlaw1_num.calls t585 t594 _ A26.out).mono ?_); rintro e w' ⟨rfl, ⟨nd, rfl⟩⟩) | (go_at_call 26; (with_reducible refine (herbariumlaw1_num.calls t588 t595 _ A28.out).mono ?_); rintro e w' ⟨rfl, ⟨nd, rfl⟩⟩; have hcz55_0 : w54.cell? ⟨gb572, 0, none⟩ = some (.string t576) := (blk_cell BK572.out 0).trans rfl; have hcz55_1 : w54.cell? ⟨gb572, 1, none⟩ = some (.int .i64 t577) := (blk_cell BK572.out 1).trans rfl; have hfz55_0 := blk_frozen BK572.out 0; have hfz55_1 := blk_frozen BK572.out 1))
                            go_roundg k2
                            case measure => have := HK1.out; have := HK2.out; omega
                            case rel => exact ⟨(wrap64 (x4_2 + 1)), (by first | rfl | (simp; done) | (simp [*]; done)), H', ⟨by have := HK1.out; have := HK2.out; omega⟩, ⟨by (with_reducible repeat (first | refine blk_drewN ?_ _ | refine blk_drew ?_ | refine blk_alloc ?_ _)); exact BK567.out⟩, ⟨by repeat (first | (with_reducible first | exact HB.out | apply below_alloc | apply pw_below_drewN | apply below_drew1 | refine below_set ?_ GE567.out | refine below_set ?_ GE572.out | refine below_set ?_ GE586.out) | exact HB.out)⟩⟩
                          · rw [if_neg c30] at H
                            have c30b0 : (t577 == (wrap64 (x4_2 + (wrap64 (2 * x3_1))))) = false := beq_eq_false_iff_ne.mpr c30
                            have c30b1 : (t577 != (wrap64 (x4_2 + (wrap64 (2 * x3_1))))) = true := bne_iff_ne.mpr c30
                            exact absurd (Option.some.inj H) (by decide)
                        · rw [if_neg c29] at H
                          have c29b0 : (t595 == 9) = false := beq_eq_false_iff_ne.mpr c29
                          have c29b1 : (t595 != 9) = true := bne_iff_ne.mpr c29
                          exact absurd (Option.some.inj H) (by decide)
                      · rw [if_neg c27] at H
                        have c27b0 : (t594 == 1) = false := beq_eq_false_iff_ne.mpr c27
                        have c27b1 : (t594 != 1) = true := bne_iff_ne.mpr c27
                        exact absurd (Option.some.inj H) (by decide)
                    · rw [if_neg c25] at H
                      have c25b0 : (t581 == 0) = false := beq_eq_false_iff_ne.mpr c25
                      have c25b1 : (t581 != 0) = true := bne_iff_ne.mpr c25
                      exact absurd (Option.some.inj H) (by decide)
                  · rw [if_neg c24] at H
                    have c24b0 : (t579 == (wrap64 ((ji7) - 1))) = false := beq_eq_false_iff_ne.mpr c24
                    have c24b1 : (t579 != (wrap64 ((ji7) - 1))) = true := bne_iff_ne.mpr c24
                    exact absurd (Option.some.inj H) (by decide)
                · rw [if_neg c21] at H
                  have c21b0 : ((wrap64 ((wrap64 ((wrap64 ((wrap64 (t589 + t590)) + t591)) + t592)) + t593)) == 0) = false := beq_eq_false_iff_ne.mpr c21
                  have c21b1 : ((wrap64 ((wrap64 ((wrap64 ((wrap64 (t589 + t590)) + t591)) + t592)) + t593)) != 0) = true := bne_iff_ne.mpr c21
                  exact absurd (Option.some.inj H) (by decide)
              · rw [if_neg c6] at H
                exact absurd H (by simp)
            · rw [if_neg c4] at H
              have c4b0 : decide (x4_2 < 9) = false := decide_eq_false c4
              clear c4
              have H' := Aside0.mk H
              clear H
              go_wp2
              go_roundg k2
              case measure => have := HK1.out; have := HK2.out; omega
              case rel => exact ⟨(wrap64 (x3_1 + 1)), (by first | rfl | (simp; done) | (simp [*]; done)), H', ⟨by have := HK1.out; have := HK2.out; omega⟩, ⟨by (with_reducible repeat (first | refine blk_drewN ?_ _ | refine blk_drew ?_ | refine blk_alloc ?_ _)); exact BK567.out⟩, ⟨by repeat (first | (with_reducible first | exact HB.out | apply below_alloc | apply pw_below_drewN | apply below_drew1 | refine below_set ?_ GE567.out) | exact HB.out)⟩⟩
      · rw [if_neg c3] at H
        have c3b0 : decide (x3_1 ≤ 30) = false := decide_eq_false c3
        clear c3
        by_cases c201 : (l0_1.length : Int) ≥ 0
        · rw [if_pos c201] at H
          have c201b0 : decide (0 ≤ (l0_1.length : Int)) = true := decide_eq_true c201
          have c201b1 : decide (0 ≤ l0_1.length) = true := decide_eq_true (by omega)
          clear c201
          replace H := Option.bind_eq_some_iff.mp H
          obtain ⟨t568, A2020, H⟩ := H
          replace H : (some t568) = some true := H
          have A202 := Aside0.mk A2020
          clear A2020
          obtain rfl := Option.some.inj H
          have hcz203_0 : wr.cell? ⟨gb567, 0, none⟩ = some (.slice A0_0 l0_0.length c0_0) := (blk_cell BK567.out 0).trans rfl
          have hcz203_1 : wr.cell? ⟨gb567, 1, none⟩ = some (.slice A0_1 l0_1.length c0_1) := (blk_cell BK567.out 1).trans rfl
          have hfz203_0 := blk_frozen BK567.out 0
          have hfz203_1 := blk_frozen BK567.out 1
          go_wp2_with (first | (go_at_call 27; (with_reducible refine (herbariumlaw1_wakes.calls k1  true _ A202.out).mono ?_); rintro e w204 ⟨rfl, hb⟩; have n0_ := Aside0.mk (blk_below (g := gb567) (o := .cells #[.slice A0_0 l0_0.length c0_0, .slice A0_1 l0_1.length c0_1] 25 (0, 0)) (by (with_reducible repeat (first | refine blk_drewN ?_ _ | refine blk_drew ?_ | refine blk_alloc ?_ _)); exact BK567.out) hb); have n1_ := Aside0.mk (below_step (by repeat (first | (with_reducible first | exact HB.out | apply below_alloc | apply pw_below_drewN | apply below_drew1 | refine below_set ?_ GE567.out) | exact HB.out)) hb); clear BK567; clear HB; have BK567 := n0_; have HB := n1_; clear n0_ n1_; (try clear hb); (try clear hb2); (try clear hk); (try clear hi)))
          go_ret
          exact ⟨by first | rfl | (simp [errW_none, errW_some] <;> rfl) | (simp [*, errW_none, errW_some] <;> rfl), by repeat (first | (with_reducible first | exact HB.out | apply below_alloc | apply pw_below_drewN | apply below_drew1 | refine below_set ?_ GE567.out) | exact HB.out)⟩
        · exact absurd (show _ ≥ _ from Int.natCast_nonneg _) c201

end Go.Proofs.Ytnpghcikhpglkaa.Q
