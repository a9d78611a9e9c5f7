-- laid by a program of this session (a changed copy of the kit's print program): functions, contracts
import Derived.Test.YtnpghcikhpglkaaWi
import Derived.Test.YtnpghcikhpglkaaQ0
import Derived.Test.YtnpghcikhpglkaaQ3
import Derived.Test.YtnpghcikhpglkaaQ9
import Derived.Test.YtnpghcikhpglkaaQ23
import Derived.Test.YtnpghcikhpglkaaHa
namespace Go.Proofs.Ytnpghcikhpglkaa.Q
open Go.RowKit Go.Proofs.YtnpghcikhpglkaaW.PrintWords Go.Proofs.YtnpghcikhpglkaaW.PrintLast Go.Proofs.YtnpghcikhpglkaaW.PrintMore
attribute [local go_sem] max2_int min2_int max_two min_two max_three min_three max_four min_four   -- for this text's walks alone
set_option linter.unusedVariables false
set_option linter.unusedSimpArgs false

/-! ### herbariumlaw1_BitsZeros: function 6 -/
mutual
def herbariumlaw1_BitsZeros.j0 : Nat → Int → Bool → ByteArray → Int → Option (Bool)
  | 0, _, _, _, _ => none
  | k + 1, x3, x35, x601000, x601001 => if x35 = true then (some false) else (herbariumlaw1_BitsZeros.l0 k x3 0 x601000 x601001)
def herbariumlaw1_BitsZeros.l0 : Nat → Int → Int → ByteArray → Int → Option (Bool)
  | 0, _, _, _, _ => none
  | k + 1, x3, x7, x601000, x601001 => if x7 ≤ (wrap64 (x3 + 4)) then ((bits_Zeros.f k x601000 x601001 x7).bind fun bt610 => (if x7 ≤ x3 then ((herbariumlaw1_num.f bt610.2).bind fun t612 => (if t612 = 0 then (if bt610.1 = (wrap64 (x3 - x7)) then (if x7 > x3 then ((herbariumlaw1_num.f bt610.2).bind fun t613 => (if t613 = 9 then (herbariumlaw1_BitsZeros.l0 k x3 (wrap64 (x7 + 1)) x601000 x601001) else (some false))) else (herbariumlaw1_BitsZeros.l0 k x3 (wrap64 (x7 + 1)) x601000 x601001)) else (some false)) else (some false))) else (if x7 > x3 then ((herbariumlaw1_num.f bt610.2).bind fun t614 => (if t614 = 9 then (herbariumlaw1_BitsZeros.l0 k x3 (wrap64 (x7 + 1)) x601000 x601001) else (some false))) else (herbariumlaw1_BitsZeros.l0 k x3 (wrap64 (x7 + 1)) x601000 x601001)))) else ((bits_Zeros.f k x601000 x601001 (wrap64 (x3 + 5))).bind fun bt606 => ((herbariumlaw1_num.f bt606.2).bind fun t608 => (if t608 = 1 then ((herbariumlaw1_wakes.f k).bind fun t609 => (some t609)) else (some false))))
end
def herbariumlaw1_BitsZeros.f (k : Nat) (l0_0 : List (S27)) (l0_1 : List Int) : Option (Bool) := (bits_Put.f (⟨#[]⟩ : ByteArray) 0 1 (((l0_1.length : Int) % 30) + 1)).bind fun bt597 => ((bits_Put.f bt597.1 bt597.2.1 0 3).bind fun bt601 => ((herbariumlaw1_num.f bt597.2.2).bind fun t604 => (if t604 = 0 then ((herbariumlaw1_num.f bt601.2.2).bind fun t605 => (herbariumlaw1_BitsZeros.j0 k ((l0_1.length : Int) % 30) (t605 != 0) bt601.1 bt601.2.1)) else (herbariumlaw1_BitsZeros.j0 k ((l0_1.length : Int) % 30) true bt601.1 bt601.2.1))))
theorem herbariumlaw1_BitsZeros.mono_l : ∀ k, (∀ y0 y1 y2 y3, LeO (herbariumlaw1_BitsZeros.j0 k y0 y1 y2 y3) (herbariumlaw1_BitsZeros.j0 (k + 1) y0 y1 y2 y3)) ∧ (∀ y0 y1 y2 y3, LeO (herbariumlaw1_BitsZeros.l0 k y0 y1 y2 y3) (herbariumlaw1_BitsZeros.l0 (k + 1) y0 y1 y2 y3))
  | 0 => ⟨fun _ _ _ _ r h => by simp [herbariumlaw1_BitsZeros.j0] at h, fun _ _ _ _ r h => by simp [herbariumlaw1_BitsZeros.l0] at h⟩
  | k + 1 => by
    obtain ⟨ih0, ih1⟩ := herbariumlaw1_BitsZeros.mono_l k
    refine ⟨?_, ?_⟩
    · intro y0 y1 y2 y3
      unfold herbariumlaw1_BitsZeros.j0
      repeat' first
      | (with_reducible exact ih0 _ _ _ _)
      | (with_reducible exact ih1 _ _ _ _)
      | (with_reducible exact bits_Zeros.mono _ _ _ _)
      | (with_reducible exact herbariumlaw1_wakes.mono _)
      | (with_reducible exact LeO.refl _)
      | (with_reducible exact LeO.none _)
      | (with_reducible refine LeO.ite ?_ ?_)
      | (with_reducible refine LeO.bind ?_ (fun _ => ?_))
      | exact ih0 _ _ _ _
      | exact ih1 _ _ _ _
      | exact bits_Zeros.mono _ _ _ _
      | exact herbariumlaw1_wakes.mono _
      | exact LeO.none _
      | refine LeO.ite ?_ ?_
      | refine LeO.bind ?_ (fun _ => ?_)
    · intro y0 y1 y2 y3
      unfold herbariumlaw1_BitsZeros.l0
      repeat' first
      | (with_reducible exact ih0 _ _ _ _)
      | (with_reducible exact ih1 _ _ _ _)
      | (with_reducible exact bits_Zeros.mono _ _ _ _)
      | (with_reducible exact herbariumlaw1_wakes.mono _)
      | (with_reducible exact LeO.refl _)
      | (with_reducible exact LeO.none _)
      | (with_reducible refine LeO.ite ?_ ?_)
      | (with_reducible refine LeO.bind ?_ (fun _ => ?_))
      | exact ih0 _ _ _ _
      | exact ih1 _ _ _ _
      | exact bits_Zeros.mono _ _ _ _
      | exact herbariumlaw1_wakes.mono _
      | exact LeO.none _
      | refine LeO.ite ?_ ?_
      | refine LeO.bind ?_ (fun _ => ?_)
theorem herbariumlaw1_BitsZeros.mono : ∀ a0 a1 k, LeO (herbariumlaw1_BitsZeros.f k a0 a1) (herbariumlaw1_BitsZeros.f (k + 1) a0 a1) := by
  intro a0 a1 k
  obtain ⟨ih0, ih1⟩ := herbariumlaw1_BitsZeros.mono_l k
  unfold herbariumlaw1_BitsZeros.f
  repeat' first
      | (with_reducible exact ih0 _ _ _ _)
      | (with_reducible exact ih1 _ _ _ _)
      | (with_reducible exact bits_Zeros.mono _ _ _ _)
      | (with_reducible exact herbariumlaw1_wakes.mono _)
      | (with_reducible exact LeO.refl _)
      | (with_reducible exact LeO.none _)
      | (with_reducible refine LeO.ite ?_ ?_)
      | (with_reducible refine LeO.bind ?_ (fun _ => ?_))
      | exact ih0 _ _ _ _
      | exact ih1 _ _ _ _
      | exact bits_Zeros.mono _ _ _ _
      | exact herbariumlaw1_wakes.mono _
      | exact LeO.none _
      | refine LeO.ite ?_ ?_
      | refine LeO.bind ?_ (fun _ => ?_)
set_option maxHeartbeats 8000000 in
set_option maxRecDepth 100000 in
theorem herbariumlaw1_BitsZeros.calls (k : Nat) (A0_0 : Option Addr) (c0_0 : Nat) (l0_0 : List (S27)) (A0_1 : Option Addr) (c0_1 : Nat) (l0_1 : List Int) (r : Bool) (w : World) (hr0_0 : Kd.C k27 w A0_0 l0_0.length l0_0) (hc0_0 : l0_0.length ≤ c0_0) (hr0_1 : Kd.C (Kd.int .i64) w A0_1 l0_1.length l0_1) (hc0_1 : l0_1.length ≤ c0_1) (h : herbariumlaw1_BitsZeros.f k l0_0 l0_1 = some r) :
    Calls Try.prog 6 #[.agg #[.slice A0_0 l0_0.length c0_0, .slice A0_1 l0_1.length c0_1]] w fun e w' => e = .returned (.bool r) ∧ Below w.heap.size w w' := by
  have hu25 := Try.underlying25
  have hu27 := Try.underlying27
  have HR0_0 := Aside0.mk hr0_0
  have HC0_0 := Aside0.mk hc0_0
  clear hr0_0 hc0_0
  have HR0_1 := Aside0.mk hr0_1
  have HC0_1 := Aside0.mk hc0_1
  clear hr0_1 hc0_1
  have HB := Aside0.mk (Below.refl w.heap.size w)
  have H : ((bits_Put.f (⟨#[]⟩ : ByteArray) 0 1 (((l0_1.length : Int) % 30) + 1)).bind fun bt597 => ((bits_Put.f bt597.1 bt597.2.1 0 3).bind fun bt601 => ((herbariumlaw1_num.f bt597.2.2).bind fun t604 => (if t604 = 0 then ((herbariumlaw1_num.f bt601.2.2).bind fun t605 => (herbariumlaw1_BitsZeros.j0 k ((l0_1.length : Int) % 30) (t605 != 0) bt601.1 bt601.2.1)) else (herbariumlaw1_BitsZeros.j0 k ((l0_1.length : Int) % 30) true bt601.1 bt601.2.1))))) = some r := h
  clear h
  replace H := Option.bind_eq_some_iff.mp H
  obtain ⟨⟨t597, t598, t599⟩, A20, H⟩ := H
  replace H : ((bits_Put.f t597 t598 0 3).bind fun bt601 => ((herbariumlaw1_num.f t599).bind fun t604 => (if t604 = 0 then ((herbariumlaw1_num.f bt601.2.2).bind fun t605 => (herbariumlaw1_BitsZeros.j0 k ((l0_1.length : Int) % 30) (t605 != 0) bt601.1 bt601.2.1)) else (herbariumlaw1_BitsZeros.j0 k ((l0_1.length : Int) % 30) true bt601.1 bt601.2.1)))) = some r := H
  have A2 := Aside0.mk A20
  clear A20
  replace H := Option.bind_eq_some_iff.mp H
  obtain ⟨⟨t601, t602, t603⟩, A30, H⟩ := H
  replace H : ((herbariumlaw1_num.f t599).bind fun t604 => (if t604 = 0 then ((herbariumlaw1_num.f t603).bind fun t605 => (herbariumlaw1_BitsZeros.j0 k ((l0_1.length : Int) % 30) (t605 != 0) t601 t602)) else (herbariumlaw1_BitsZeros.j0 k ((l0_1.length : Int) % 30) true t601 t602))) = some r := H
  have A3 := Aside0.mk A30
  clear A30
  have HC4 := Aside0.mk H
  clear H
  go_enter Try.func6, Try.ntmps6
  go_upto_region 4 with (first | ((with_reducible refine gate_dst (N := 1) rfl ?_); refine box_event ?hg (N := 1) ?hd (cs := #[.slice A0_0 l0_0.length c0_0, .slice A0_1 l0_1.length c0_1]) (t := 25) ?hr ?_; (case hd => rfl); (case hg => rfl); (case hr => first | (go_simp; done) | (go_simp; rfl)); intro gb596 hg w5 hbox hb; have n0_ := Aside0.mk (below_step (by repeat (first | (with_reducible first | exact HB.out | apply below_alloc | apply pw_below_drewN | apply below_drew1) | exact HB.out)) hb); have n1_ := Aside0.mk (hbox); have n2_ := Aside0.mk ((by rw [hg]; exact (below_size (by repeat (first | (with_reducible first | exact HB.out | apply below_alloc | apply pw_below_drewN | apply below_drew1) | exact HB.out))) : w.heap.size ≤ gb596)); have n3_ := Aside0.mk ((by rw [hg]; exact (below_size (by repeat (first | (with_reducible first | exact HB.out | apply below_alloc | apply pw_below_drewN | apply below_drew1) | exact HB.out))) : w.heap.size ≤ gb596)); clear HB; have HB := n0_; have BK596 := n1_; have GW596 := n2_; have GE596 := n3_; clear n0_ n1_ n2_ n3_; clear hb hbox hg; have hcz6_0 : w5.cell? ⟨gb596, 0, none⟩ = some (.slice A0_0 l0_0.length c0_0) := (blk_cell BK596.out 0).trans rfl; have hcz6_1 : w5.cell? ⟨gb596, 1, none⟩ = some (.slice A0_1 l0_1.length c0_1) := (blk_cell BK596.out 1).trans rfl; have hfz6_0 := blk_frozen BK596.out 0; have hfz6_1 := blk_frozen BK596.out 1) | ((with_reducible refine gate_callee (f := 24) rfl ?_); refine goesL_ (some 20) rfl rfl Try.func24 (by kernel_rfl) rfl #[.agg #[.string (⟨#[]⟩ : ByteArray), .int .i64 0], .int .i64 1, .int .i64 (((l0_1.length : Int) % 30) + 1)] rfl (by (try simp only [List.map_toArray, List.map_cons, List.map_nil]); first | done | rfl | (simp only [List.length_drop, List.length_take]; rfl)) ?_; (with_reducible refine (bits_Put.calls (⟨#[]⟩ : ByteArray) 0 1 (((l0_1.length : Int) % 30) + 1) t597 t598 t599 _ A2.out).mono ?_); rintro e w7 ⟨rfl, hb⟩; refine ⟨_, rfl, ?_⟩; have n0_ := Aside0.mk (blk_below (g := gb596) (o := .cells #[.slice A0_0 l0_0.length c0_0, .slice A0_1 l0_1.length c0_1] 25 (0, 0)) (by (with_reducible repeat (first | refine blk_drewN ?_ _ | refine blk_drew ?_ | refine blk_alloc ?_ _)); exact BK596.out) hb); have n1_ := Aside0.mk (below_step (by repeat (first | (with_reducible first | exact HB.out | apply below_alloc | apply pw_below_drewN | apply below_drew1 | refine below_set ?_ GE596.out) | exact HB.out)) hb); clear BK596; clear HB; have BK596 := n0_; have HB := n1_; clear n0_ n1_; (try clear hb); (try clear hb2); (try clear hk); (try clear hi)) | ((with_reducible refine gate_dst (N := 4) rfl ?_); refine box_event ?hg (N := 4) ?hd (cs := #[.string (⟨#[]⟩ : ByteArray), .int .i64 0]) (t := 27) ?hr ?_; (case hd => rfl); (case hg => rfl); (case hr => first | (go_simp; done) | (go_simp; rfl)); intro gb600 hg w8 hbox hb; have n0_ := Aside0.mk (blk_below (g := gb596) (o := .cells #[.slice A0_0 l0_0.length c0_0, .slice A0_1 l0_1.length c0_1] 25 (0, 0)) (by (with_reducible repeat (first | refine blk_drewN ?_ _ | refine blk_drew ?_ | refine blk_alloc ?_ _)); exact BK596.out) hb); have n1_ := Aside0.mk (below_step (by repeat (first | (with_reducible first | exact HB.out | apply below_alloc | apply pw_below_drewN | apply below_drew1 | refine below_set ?_ GE596.out) | exact HB.out)) hb); have n2_ := Aside0.mk (hbox); have n3_ := Aside0.mk ((by rw [hg]; exact (below_size (by repeat (first | (with_reducible first | exact HB.out | apply below_alloc | apply pw_below_drewN | apply below_drew1 | refine below_set ?_ GE596.out) | exact HB.out))) : w.heap.size ≤ gb600)); have n4_ := Aside0.mk ((by rw [hg]; exact (below_size (by repeat (first | (with_reducible first | exact HB.out | apply below_alloc | apply pw_below_drewN | apply below_drew1 | refine below_set ?_ GE596.out) | exact HB.out))) : w.heap.size ≤ gb600)); have n5_ := Aside0.mk ((by rw [hg]; exact Nat.ne_of_lt (blk_lt (g := gb596) (o := .cells #[.slice A0_0 l0_0.length c0_0, .slice A0_1 l0_1.length c0_1] 25 (0, 0)) (by (with_reducible repeat (first | refine blk_drewN ?_ _ | refine blk_drew ?_ | refine blk_alloc ?_ _)); exact BK596.out)) : gb596 ≠ gb600)); have n6_ := Aside0.mk ((by rw [hg]; exact Nat.ne_of_gt (blk_lt (g := gb596) (o := .cells #[.slice A0_0 l0_0.length c0_0, .slice A0_1 l0_1.length c0_1] 25 (0, 0)) (by (with_reducible repeat (first | refine blk_drewN ?_ _ | refine blk_drew ?_ | refine blk_alloc ?_ _)); exact BK596.out)) : gb600 ≠ gb596)); clear BK596; clear HB; have BK596 := n0_; have HB := n1_; have BK600 := n2_; have GW600 := n3_; have GE600 := n4_; have NB596_600 := n5_; have NB600_596 := n6_; clear n0_ n1_ n2_ n3_ n4_ n5_ n6_; clear hb hbox hg; have hnb9 := NB600_596.out; have hnc9 := NB596_600.out; have hcz10_0 : w8.cell? ⟨gb600, 0, none⟩ = some (.string (⟨#[]⟩ : ByteArray)) := (blk_cell BK600.out 0).trans rfl; have hcz10_1 : w8.cell? ⟨gb600, 1, none⟩ = some (.int .i64 0) := (blk_cell BK600.out 1).trans rfl; have hfz10_0 := blk_frozen BK600.out 0; have hfz10_1 := blk_frozen BK600.out 1) | ((with_reducible refine gate_callee (f := 24) rfl ?_); refine goesL_ (some 25) rfl rfl Try.func24 (by kernel_rfl) rfl #[.agg #[.string t597, .int .i64 t598], .int .i64 0, .int .i64 3] rfl (by (try simp only [List.map_toArray, List.map_cons, List.map_nil]); first | done | rfl | (simp only [List.length_drop, List.length_take]; rfl)) ?_; (with_reducible refine (bits_Put.calls t597 t598 0 3 t601 t602 t603 _ A3.out).mono ?_); rintro e w11 ⟨rfl, hb⟩; refine ⟨_, rfl, ?_⟩; have n0_ := Aside0.mk (blk_below (g := gb596) (o := .cells #[.slice A0_0 l0_0.length c0_0, .slice A0_1 l0_1.length c0_1] 25 (0, 0)) (by (with_reducible repeat (first | refine blk_drewN ?_ _ | refine blk_drew ?_ | refine blk_alloc ?_ _)); refine blk_far ?_ NB596_600.out _; (with_reducible repeat (first | refine blk_drewN ?_ _ | refine blk_drew ?_ | refine blk_alloc ?_ _)); refine blk_far ?_ NB596_600.out _; (with_reducible repeat (first | refine blk_drewN ?_ _ | refine blk_drew ?_ | refine blk_alloc ?_ _)); exact BK596.out) hb); have n1_ := Aside0.mk (blk_below (g := gb600) (o := .cells #[.string t597, .int .i64 t598] 27 (0, 0)) (by (with_reducible repeat (first | refine blk_drewN ?_ _ | refine blk_drew ?_ | refine blk_alloc ?_ _)); refine blk_put (cs := #[.string t597, .int .i64 0]) ?_ 1 _ rfl; (with_reducible repeat (first | refine blk_drewN ?_ _ | refine blk_drew ?_ | refine blk_alloc ?_ _)); refine blk_put (cs := #[.string (⟨#[]⟩ : ByteArray), .int .i64 0]) ?_ 0 _ rfl; (with_reducible repeat (first | refine blk_drewN ?_ _ | refine blk_drew ?_ | refine blk_alloc ?_ _)); exact BK600.out) hb); have n2_ := Aside0.mk (below_step (by repeat (first | (with_reducible first | exact HB.out | apply below_alloc | apply pw_below_drewN | apply below_drew1 | refine below_set ?_ GE596.out | refine below_set ?_ GE600.out) | exact HB.out)) hb); clear BK596; clear BK600; clear HB; have BK596 := n0_; have BK600 := n1_; have HB := n2_; clear n0_ n1_ n2_; (try clear hb); (try clear hb2); (try clear hk); (try clear hi); have hcz12_0 : w11.cell? ⟨gb600, 0, none⟩ = some (.string t597) := (blk_cell BK600.out 0).trans rfl; have hcz12_1 : w11.cell? ⟨gb600, 1, none⟩ = some (.int .i64 t598) := (blk_cell BK600.out 1).trans rfl; have hfz12_0 := blk_frozen BK600.out 0; have hfz12_1 := blk_frozen BK600.out 1))
  (try simp only [Act.put, List.setIfInBounds_toArray, List.set_cons_zero, List.set_cons_succ])
  go_cut [35] (fun v35 wc => ∃ (kq : Nat) (x35_3 : Bool), v35 = .bool x35_3 ∧ Aside0 (herbariumlaw1_BitsZeros.j0 kq ((l0_1.length : Int) % 30) x35_3 t601 t602 = some r) ∧ Aside0 (kq ≤ k) ∧ Aside0 (wc.heap[gb596]? = some (.cells #[(.slice A0_0 l0_0.length c0_0), (.slice A0_1 l0_1.length c0_1)] 25 (0, 0))) ∧ Aside0 (wc.heap[gb600]? = some (.cells #[.string t601, .int .i64 t602] 27 (0, 0))) ∧ Aside0 (Below w.heap.size w wc))
  case first =>
    have H := HC4.out
    clear HC4
    replace H := Option.bind_eq_some_iff.mp H
    obtain ⟨t604, A130, H⟩ := H
    replace H : (if t604 = 0 then ((herbariumlaw1_num.f t603).bind fun t605 => (herbariumlaw1_BitsZeros.j0 k ((l0_1.length : Int) % 30) (t605 != 0) t601 t602)) else (herbariumlaw1_BitsZeros.j0 k ((l0_1.length : Int) % 30) true t601 t602)) = some r := H
    have A13 := Aside0.mk A130
    clear A130
    by_cases c14 : t604 = 0
    · rw [if_pos c14] at H
      have c14b0 : (t604 == 0) = true := beq_iff_eq.mpr c14
      have c14b1 : (t604 != 0) = false := bne_eq_false_iff_eq.mpr c14
      clear c14
      (first | rw [c14b0] | (simp only [i64_w, i32_w]; rw [c14b0]) | skip)
      replace H := Option.bind_eq_some_iff.mp H
      obtain ⟨t605, A150, H⟩ := H
      replace H : (herbariumlaw1_BitsZeros.j0 k ((l0_1.length : Int) % 30) (t605 != 0) t601 t602) = some r := H
      have A15 := Aside0.mk A150
      clear A150
      have H' := Aside0.mk H
      clear H
      go_wp2_with (first | ((with_reducible refine gate_callee (f := 26) rfl ?_); refine goesL_ (some 29) rfl rfl Try.func26 (by kernel_rfl) rfl #[.int .i64 t599] rfl (by (try simp only [List.map_toArray, List.map_cons, List.map_nil]); first | done | rfl | (simp only [List.length_drop, List.length_take]; rfl)) ?_; (with_reducible refine (herbariumlaw1_num.calls t599 t604 _ A13.out).mono ?_); rintro e w' ⟨rfl, ⟨nd, rfl⟩⟩; refine ⟨_, rfl, ?_⟩) | (go_at_call 26; (with_reducible refine (herbariumlaw1_num.calls t603 t605 _ A15.out).mono ?_); rintro e w' ⟨rfl, ⟨nd, rfl⟩⟩))
      go_meet
      case rel => exact ⟨_, ((t605 != 0)), (by first | rfl | (simp; done) | (simp [*]; done)), H', ⟨by first | omega | exact Nat.le_refl _⟩, ⟨by (with_reducible repeat (first | refine blk_drewN ?_ _ | refine blk_drew ?_ | refine blk_alloc ?_ _)); refine blk_far ?_ NB596_600.out _; (with_reducible repeat (first | refine blk_drewN ?_ _ | refine blk_drew ?_ | refine blk_alloc ?_ _)); refine blk_far ?_ NB596_600.out _; (with_reducible repeat (first | refine blk_drewN ?_ _ | refine blk_drew ?_ | refine blk_alloc ?_ _)); exact BK596.out⟩, ⟨by (with_reducible repeat (first | refine blk_drewN ?_ _ | refine blk_drew ?_ | refine blk_alloc ?_ _)); refine blk_put (cs := #[.string t601, .int .i64 t598]) ?_ 1 _ rfl; (with_reducible repeat (first | refine blk_drewN ?_ _ | refine blk_drew ?_ | refine blk_alloc ?_ _)); refine blk_put (cs := #[.string t597, .int .i64 t598]) ?_ 0 _ rfl; (with_reducible repeat (first | refine blk_drewN ?_ _ | refine blk_drew ?_ | refine blk_alloc ?_ _)); exact BK600.out⟩, ⟨by repeat (first | (with_reducible first | exact HB.out | apply below_alloc | apply pw_below_drewN | apply below_drew1 | refine below_set ?_ GE596.out | refine below_set ?_ GE600.out) | exact HB.out)⟩⟩
    · rw [if_neg c14] at H
      have c14b0 : (t604 == 0) = false := beq_eq_false_iff_ne.mpr c14
      have c14b1 : (t604 != 0) = true := bne_iff_ne.mpr c14
      (first | rw [c14b0] | (simp only [i64_w, i32_w]; rw [c14b0]) | skip)
      have H' := Aside0.mk H
      clear H
      go_wp2_with (first | ((with_reducible refine gate_callee (f := 26) rfl ?_); refine goesL_ (some 29) rfl rfl Try.func26 (by kernel_rfl) rfl #[.int .i64 t599] rfl (by (try simp only [List.map_toArray, List.map_cons, List.map_nil]); first | done | rfl | (simp only [List.length_drop, List.length_take]; rfl)) ?_; (with_reducible refine (herbariumlaw1_num.calls t599 t604 _ A13.out).mono ?_); rintro e w' ⟨rfl, ⟨nd, rfl⟩⟩; refine ⟨_, rfl, ?_⟩))
      go_meet
      case rel => exact ⟨_, (true), (by first | rfl | (simp; done) | (simp [*]; done)), H', ⟨by first | omega | exact Nat.le_refl _⟩, ⟨by (with_reducible repeat (first | refine blk_drewN ?_ _ | refine blk_drew ?_ | refine blk_alloc ?_ _)); refine blk_far ?_ NB596_600.out _; (with_reducible repeat (first | refine blk_drewN ?_ _ | refine blk_drew ?_ | refine blk_alloc ?_ _)); refine blk_far ?_ NB596_600.out _; (with_reducible repeat (first | refine blk_drewN ?_ _ | refine blk_drew ?_ | refine blk_alloc ?_ _)); exact BK596.out⟩, ⟨by (with_reducible repeat (first | refine blk_drewN ?_ _ | refine blk_drew ?_ | refine blk_alloc ?_ _)); refine blk_put (cs := #[.string t601, .int .i64 t598]) ?_ 1 _ rfl; (with_reducible repeat (first | refine blk_drewN ?_ _ | refine blk_drew ?_ | refine blk_alloc ?_ _)); refine blk_put (cs := #[.string t597, .int .i64 t598]) ?_ 0 _ rfl; (with_reducible repeat (first | refine blk_drewN ?_ _ | refine blk_drew ?_ | refine blk_alloc ?_ _)); exact BK600.out⟩, ⟨by repeat (first | (with_reducible first | exact HB.out | apply below_alloc | apply pw_below_drewN | apply below_drew1 | refine below_set ?_ GE596.out | refine below_set ?_ GE600.out) | exact HB.out)⟩⟩
  case rest =>
    clear HC4
    try clear c1
    try clear c2
    try clear p2
    try clear c6
    try clear c9
    try clear c14
    try clear c14b0
    try clear c14b1
    try clear hcz10_0
    try clear hcz10_1
    try clear hcz12_0
    try clear hcz12_1
    try clear hcz6_0
    try clear hcz6_1
    try clear hfz10_0
    try clear hfz10_1
    try clear hfz12_0
    try clear hfz12_1
    try clear hfz6_0
    try clear hfz6_1
    obtain ⟨kq, x35_3, rfl, HA, HJ3, BK596, BK600, HB⟩ := hcut
    cases kq with
    | zero => exact absurd HA.out (by simp [herbariumlaw1_BitsZeros.j0])
    | succ kj3 =>
      have H := HA.out
      clear HA
      simp only [herbariumlaw1_BitsZeros.j0] at H
      by_cases c16 : x35_3 = true
      · subst c16
        have H1 : (some false) = some r := by rw [if_pos rfl] at H; exact H
        clear H
        have H := H1
        clear H1
        obtain rfl := Option.some.inj H
        go_wp2
        go_ret
        exact ⟨by first | rfl | (simp [errW_none, errW_some] <;> rfl) | (simp [*, errW_none, errW_some] <;> rfl), by repeat (first | (with_reducible first | exact HB.out | apply below_alloc | apply pw_below_drewN | apply below_drew1 | refine below_set ?_ GE596.out | refine below_set ?_ GE600.out) | exact HB.out)⟩
      · replace c16 := Bool.eq_false_iff.mpr c16
        subst c16
        have H1 : (herbariumlaw1_BitsZeros.l0 kj3 ((l0_1.length : Int) % 30) 0 t601 t602) = some r := by rw [if_neg (show ¬ (false = true) by decide)] at H; exact H
        clear H
        have H := H1
        clear H1
        have H' := Aside0.mk H
        clear H
        go_wp2
        go_loopg [7] kj3 (fun kq v7 w' => ∃ (x7_2 : Int), v7 = .int .i64 x7_2 ∧ Aside0 (herbariumlaw1_BitsZeros.l0 kq ((l0_1.length : Int) % 30) x7_2 t601 t602 = some r) ∧ Aside0 (kq ≤ kj3) ∧ Aside0 (w'.heap[gb596]? = some (.cells #[(.slice A0_0 l0_0.length c0_0), (.slice A0_1 l0_1.length c0_1)] 25 (0, 0))) ∧ Aside0 (w'.heap[gb600]? = some (.cells #[.string t601, .int .i64 t602] 27 (0, 0))) ∧ Aside0 (Below w.heap.size w w'))
        case atStart => exact ⟨(0), (by first | rfl | (simp; done) | (simp [*]; done)), H', ⟨Nat.le_refl _⟩, ⟨by (with_reducible repeat (first | refine blk_drewN ?_ _ | refine blk_drew ?_ | refine blk_alloc ?_ _)); exact BK596.out⟩, ⟨by (with_reducible repeat (first | refine blk_drewN ?_ _ | refine blk_drew ?_ | refine blk_alloc ?_ _)); exact BK600.out⟩, ⟨by repeat (first | (with_reducible first | exact HB.out | apply below_alloc | apply pw_below_drewN | apply below_drew1 | refine below_set ?_ GE596.out | refine below_set ?_ GE600.out) | exact HB.out)⟩⟩
        case round =>
          clear H'
          try clear c1
          try clear c2
          try clear p2
          try clear c6
          try clear c9
          try clear c14
          try clear c14b0
          try clear c14b1
          try clear c16
          try clear hcz10_0
          try clear hcz10_1
          try clear hcz12_0
          try clear hcz12_1
          try clear hcz6_0
          try clear hcz6_1
          try clear hfz10_0
          try clear hfz10_1
          try clear hfz12_0
          try clear hfz12_1
          try clear hfz6_0
          try clear hfz6_1
          try clear p2
          obtain ⟨x7_2, rfl, HA, HK2, BK596, BK600, HB⟩ := hrel
          cases gk with
          | zero => exact absurd HA.out (by simp [herbariumlaw1_BitsZeros.l0])
          | succ k2 =>
            have H := HA.out
            clear HA
            simp only [herbariumlaw1_BitsZeros.l0] at H
            by_cases c17 : x7_2 ≤ (wrap64 (((l0_1.length : Int) % 30) + 4))
            · rw [if_pos c17] at H
              have c17b0 : decide (x7_2 ≤ (wrap64 (((l0_1.length : Int) % 30) + 4))) = true := decide_eq_true c17
              (try (have c17b0w := c17b0; simp (disch := omega) only [wrap_in] at c17b0w))
              clear c17
              replace H := Option.bind_eq_some_iff.mp H
              obtain ⟨⟨t610, t611⟩, A180, H⟩ := H
              replace H : (if x7_2 ≤ ((l0_1.length : Int) % 30) then ((herbariumlaw1_num.f t611).bind fun t612 => (if t612 = 0 then (if t610 = (wrap64 (((l0_1.length : Int) % 30) - x7_2)) then (if x7_2 > ((l0_1.length : Int) % 30) then ((herbariumlaw1_num.f t611).bind fun t613 => (if t613 = 9 then (herbariumlaw1_BitsZeros.l0 k2 ((l0_1.length : Int) % 30) (wrap64 (x7_2 + 1)) t601 t602) else (some false))) else (herbariumlaw1_BitsZeros.l0 k2 ((l0_1.length : Int) % 30) (wrap64 (x7_2 + 1)) t601 t602)) else (some false)) else (some false))) else (if x7_2 > ((l0_1.length : Int) % 30) then ((herbariumlaw1_num.f t611).bind fun t614 => (if t614 = 9 then (herbariumlaw1_BitsZeros.l0 k2 ((l0_1.length : Int) % 30) (wrap64 (x7_2 + 1)) t601 t602) else (some false))) else (herbariumlaw1_BitsZeros.l0 k2 ((l0_1.length : Int) % 30) (wrap64 (x7_2 + 1)) t601 t602))) = some r := H
              have A18 := Aside0.mk A180
              clear A180
              by_cases c19 : x7_2 ≤ ((l0_1.length : Int) % 30)
              · rw [if_pos c19] at H
                have c19b0 : decide (x7_2 ≤ ((l0_1.length : Int) % 30)) = true := decide_eq_true c19
                clear c19
                replace H := Option.bind_eq_some_iff.mp H
                obtain ⟨t612, A200, H⟩ := H
                replace H : (if t612 = 0 then (if t610 = (wrap64 (((l0_1.length : Int) % 30) - x7_2)) then (if x7_2 > ((l0_1.length : Int) % 30) then ((herbariumlaw1_num.f t611).bind fun t613 => (if t613 = 9 then (herbariumlaw1_BitsZeros.l0 k2 ((l0_1.length : Int) % 30) (wrap64 (x7_2 + 1)) t601 t602) else (some false))) else (herbariumlaw1_BitsZeros.l0 k2 ((l0_1.length : Int) % 30) (wrap64 (x7_2 + 1)) t601 t602)) else (some false)) else (some false)) = some r := H
                have A20 := Aside0.mk A200
                clear A200
                by_cases c21 : t612 = 0
                · rw [if_pos c21] at H
                  have c21b0 : (t612 == 0) = true := beq_iff_eq.mpr c21
                  have c21b1 : (t612 != 0) = false := bne_eq_false_iff_eq.mpr c21
                  clear c21
                  by_cases c22 : t610 = (wrap64 (((l0_1.length : Int) % 30) - x7_2))
                  · rw [if_pos c22] at H
                    have c22b0 : (t610 == (wrap64 (((l0_1.length : Int) % 30) - x7_2))) = true := beq_iff_eq.mpr c22
                    (try (have c22b0w := c22b0; simp (disch := omega) only [wrap_in] at c22b0w))
                    have c22b1 : (t610 != (wrap64 (((l0_1.length : Int) % 30) - x7_2))) = false := bne_eq_false_iff_eq.mpr c22
                    (try (have c22b1w := c22b1; simp (disch := omega) only [wrap_in] at c22b1w))
                    clear c22
                    by_cases c23 : x7_2 > ((l0_1.length : Int) % 30)
                    · exact absurd (of_decide_eq_true c19b0) (by omega)
                    · rw [if_neg c23] at H
                      have c23b0 : decide (((l0_1.length : Int) % 30) < x7_2) = false := decide_eq_false c23
                      clear c23
                      have H' := Aside0.mk H
                      clear H
                      have hnb32 := NB600_596.out
                      have hnc32 := NB596_600.out
                      have hcz33_0 : wr.cell? ⟨gb600, 0, none⟩ = some (.string t601) := (blk_cell BK600.out 0).trans rfl
                      have hcz33_1 : wr.cell? ⟨gb600, 1, none⟩ = some (.int .i64 t602) := (blk_cell BK600.out 1).trans rfl
                      have hfz33_0 := blk_frozen BK600.out 0
                      have hfz33_1 := blk_frozen BK600.out 1
                      go_wp2_with (first | ((with_reducible refine gate_callee (f := 35) rfl ?_); refine goesL_ (some 45) rfl rfl Try.func35 (by kernel_rfl) rfl #[.agg #[.string t601, .int .i64 t602], .int .i64 x7_2] rfl (by (try simp only [List.map_toArray, List.map_cons, List.map_nil]); first | done | rfl | (simp only [List.length_drop, List.length_take]; rfl)) ?_; (with_reducible refine (bits_Zeros.calls k2 t601 t602 x7_2 t610 t611 _ A18.out).mono ?_); rintro e w34 ⟨rfl, hb⟩; refine ⟨_, rfl, ?_⟩; have n0_ := Aside0.mk (blk_below (g := gb596) (o := .cells #[.slice A0_0 l0_0.length c0_0, .slice A0_1 l0_1.length c0_1] 25 (0, 0)) (by (with_reducible repeat (first | refine blk_drewN ?_ _ | refine blk_drew ?_ | refine blk_alloc ?_ _)); exact BK596.out) hb); have n1_ := Aside0.mk (blk_below (g := gb600) (o := .cells #[.string t601, .int .i64 t602] 27 (0, 0)) (by (with_reducible repeat (first | refine blk_drewN ?_ _ | refine blk_drew ?_ | refine blk_alloc ?_ _)); exact BK600.out) hb); have n2_ := Aside0.mk (below_step (by repeat (first | (with_reducible first | exact HB.out | apply below_alloc | apply pw_below_drewN | apply below_drew1 | refine below_set ?_ GE596.out | refine below_set ?_ GE600.out) | exact HB.out)) hb); clear BK596; clear BK600; clear HB; have BK596 := n0_; have BK600 := n1_; have HB := n2_; clear n0_ n1_ n2_; (try clear hb); (try clear hb2); (try clear hk); (try clear hi)) | (go_at_call 26; (with_reducible refine (herbariumlaw1_num.calls t611 t612 _ A20.out).mono ?_); rintro e w' ⟨rfl, ⟨nd, rfl⟩⟩))
                      go_roundg k2
                      case measure => have := HJ3.out; have := HK2.out; omega
                      case rel => exact ⟨(wrap64 (x7_2 + 1)), (by first | rfl | (simp; done) | (simp [*]; done)), H', ⟨by have := HJ3.out; have := HK2.out; omega⟩, ⟨by (with_reducible repeat (first | refine blk_drewN ?_ _ | refine blk_drew ?_ | refine blk_alloc ?_ _)); exact BK596.out⟩, ⟨by (with_reducible repeat (first | refine blk_drewN ?_ _ | refine blk_drew ?_ | refine blk_alloc ?_ _)); exact BK600.out⟩, ⟨by repeat (first | (with_reducible first | exact HB.out | apply below_alloc | apply pw_below_drewN | apply below_drew1 | refine below_set ?_ GE596.out | refine below_set ?_ GE600.out) | exact HB.out)⟩⟩
                  · rw [if_neg c22] at H
                    have c22b0 : (t610 == (wrap64 (((l0_1.length : Int) % 30) - x7_2))) = false := beq_eq_false_iff_ne.mpr c22
                    (try (have c22b0w := c22b0; simp (disch := omega) only [wrap_in] at c22b0w))
                    have c22b1 : (t610 != (wrap64 (((l0_1.length : Int) % 30) - x7_2))) = true := bne_iff_ne.mpr c22
                    (try (have c22b1w := c22b1; simp (disch := omega) only [wrap_in] at c22b1w))
                    obtain rfl := Option.some.inj H
                    have hnb35 := NB600_596.out
                    have hnc35 := NB596_600.out
                    have hcz36_0 : wr.cell? ⟨gb600, 0, none⟩ = some (.string t601) := (blk_cell BK600.out 0).trans rfl
                    have hcz36_1 : wr.cell? ⟨gb600, 1, none⟩ = some (.int .i64 t602) := (blk_cell BK600.out 1).trans rfl
                    have hfz36_0 := blk_frozen BK600.out 0
                    have hfz36_1 := blk_frozen BK600.out 1
                    go_wp2_with (first | ((with_reducible refine gate_callee (f := 35) rfl ?_); refine goesL_ (some 45) rfl rfl Try.func35 (by kernel_rfl) rfl #[.agg #[.string t601, .int .i64 t602], .int .i64 x7_2] rfl (by (try simp only [List.map_toArray, List.map_cons, List.map_nil]); first | done | rfl | (simp only [List.length_drop, List.length_take]; rfl)) ?_; (with_reducible refine (bits_Zeros.calls k2 t601 t602 x7_2 t610 t611 _ A18.out).mono ?_); rintro e w37 ⟨rfl, hb⟩; refine ⟨_, rfl, ?_⟩; have n0_ := Aside0.mk (blk_below (g := gb596) (o := .cells #[.slice A0_0 l0_0.length c0_0, .slice A0_1 l0_1.length c0_1] 25 (0, 0)) (by (with_reducible repeat (first | refine blk_drewN ?_ _ | refine blk_drew ?_ | refine blk_alloc ?_ _)); exact BK596.out) hb); have n1_ := Aside0.mk (blk_below (g := gb600) (o := .cells #[.string t601, .int .i64 t602] 27 (0, 0)) (by (with_reducible repeat (first | refine blk_drewN ?_ _ | refine blk_drew ?_ | refine blk_alloc ?_ _)); exact BK600.out) hb); have n2_ := Aside0.mk (below_step (by repeat (first | (with_reducible first | exact HB.out | apply below_alloc | apply pw_below_drewN | apply below_drew1 | refine below_set ?_ GE596.out | refine below_set ?_ GE600.out) | exact HB.out)) hb); clear BK596; clear BK600; clear HB; have BK596 := n0_; have BK600 := n1_; have HB := n2_; clear n0_ n1_ n2_; (try clear hb); (try clear hb2); (try clear hk); (try clear hi)) | (go_at_call 26; (with_reducible refine (herbariumlaw1_num.calls t611 t612 _ A20.out).mono ?_); rintro e w' ⟨rfl, ⟨nd, rfl⟩⟩))
                    go_ret
                    exact ⟨by first | rfl | (simp [errW_none, errW_some] <;> rfl) | (simp [*, errW_none, errW_some] <;> rfl), by repeat (first | (with_reducible first | exact HB.out | apply below_alloc | apply pw_below_drewN | apply below_drew1 | refine below_set ?_ GE596.out | refine below_set ?_ GE600.out) | exact HB.out)⟩
                · rw [if_neg c21] at H
                  have c21b0 : (t612 == 0) = false := beq_eq_false_iff_ne.mpr c21
                  have c21b1 : (t612 != 0) = true := bne_iff_ne.mpr c21
                  obtain rfl := Option.some.inj H
                  have hnb38 := NB600_596.out
                  have hnc38 := NB596_600.out
                  have hcz39_0 : wr.cell? ⟨gb600, 0, none⟩ = some (.string t601) := (blk_cell BK600.out 0).trans rfl
                  have hcz39_1 : wr.cell? ⟨gb600, 1, none⟩ = some (.int .i64 t602) := (blk_cell BK600.out 1).trans rfl
                  have hfz39_0 := blk_frozen BK600.out 0
                  have hfz39_1 := blk_frozen BK600.out 1
                  go_wp2_with (first | ((with_reducible refine gate_callee (f := 35) rfl ?_); refine goesL_ (some 45) rfl rfl Try.func35 (by kernel_rfl) rfl #[.agg #[.string t601, .int .i64 t602], .int .i64 x7_2] rfl (by (try simp only [List.map_toArray, List.map_cons, List.map_nil]); first | done | rfl | (simp only [List.length_drop, List.length_take]; rfl)) ?_; (with_reducible refine (bits_Zeros.calls k2 t601 t602 x7_2 t610 t611 _ A18.out).mono ?_); rintro e w40 ⟨rfl, hb⟩; refine ⟨_, rfl, ?_⟩; have n0_ := Aside0.mk (blk_below (g := gb596) (o := .cells #[.slice A0_0 l0_0.length c0_0, .slice A0_1 l0_1.length c0_1] 25 (0, 0)) (by (with_reducible repeat (first | refine blk_drewN ?_ _ | refine blk_drew ?_ | refine blk_alloc ?_ _)); exact BK596.out) hb); have n1_ := Aside0.mk (blk_below (g := gb600) (o := .cells #[.string t601, .int .i64 t602] 27 (0, 0)) (by (with_reducible repeat (first | refine blk_drewN ?_ _ | refine blk_drew ?_ | refine blk_alloc ?_ _)); exact BK600.out) hb); have n2_ := Aside0.mk (below_step (by repeat (first | (with_reducible first | exact HB.out | apply below_alloc | apply pw_below_drewN | apply below_drew1 | refine below_set ?_ GE596.out | refine below_set ?_ GE600.out) | exact HB.out)) hb); clear BK596; clear BK600; clear HB; have BK596 := n0_; have BK600 := n1_; have HB := n2_; clear n0_ n1_ n2_; (try clear hb); (try clear hb2); (try clear hk); (try clear hi)) | (go_at_call 26; (with_reducible refine (herbariumlaw1_num.calls t611 t612 _ A20.out).mono ?_); rintro e w' ⟨rfl, ⟨nd, rfl⟩⟩))
                  go_ret
                  exact ⟨by first | rfl | (simp [errW_none, errW_some] <;> rfl) | (simp [*, errW_none, errW_some] <;> rfl), by repeat (first | (with_reducible first | exact HB.out | apply below_alloc | apply pw_below_drewN | apply below_drew1 | refine below_set ?_ GE596.out | refine below_set ?_ GE600.out) | exact HB.out)⟩
              · rw [if_neg c19] at H
                have c19b0 : decide (x7_2 ≤ ((l0_1.length : Int) % 30)) = false := decide_eq_false c19
                clear c19
                by_cases c41 : x7_2 > ((l0_1.length : Int) % 30)
                · rw [if_pos c41] at H
                  have c41b0 : decide (((l0_1.length : Int) % 30) < x7_2) = true := decide_eq_true c41
                  clear c41
                  replace H := Option.bind_eq_some_iff.mp H
                  obtain ⟨t614, A420, H⟩ := H
                  replace H : (if t614 = 9 then (herbariumlaw1_BitsZeros.l0 k2 ((l0_1.length : Int) % 30) (wrap64 (x7_2 + 1)) t601 t602) else (some false)) = some r := H
                  have A42 := Aside0.mk A420
                  clear A420
                  by_cases c43 : t614 = 9
                  · rw [if_pos c43] at H
                    have c43b0 : (t614 == 9) = true := beq_iff_eq.mpr c43
                    have c43b1 : (t614 != 9) = false := bne_eq_false_iff_eq.mpr c43
                    clear c43
                    have H' := Aside0.mk H
                    clear H
                    have hnb44 := NB600_596.out
                    have hnc44 := NB596_600.out
                    have hcz45_0 : wr.cell? ⟨gb600, 0, none⟩ = some (.string t601) := (blk_cell BK600.out 0).trans rfl
                    have hcz45_1 : wr.cell? ⟨gb600, 1, none⟩ = some (.int .i64 t602) := (blk_cell BK600.out 1).trans rfl
                    have hfz45_0 := blk_frozen BK600.out 0
                    have hfz45_1 := blk_frozen BK600.out 1
                    go_wp2_with (first | ((with_reducible refine gate_callee (f := 35) rfl ?_); refine goesL_ (some 45) rfl rfl Try.func35 (by kernel_rfl) rfl #[.agg #[.string t601, .int .i64 t602], .int .i64 x7_2] rfl (by (try simp only [List.map_toArray, List.map_cons, List.map_nil]); first | done | rfl | (simp only [List.length_drop, List.length_take]; rfl)) ?_; (with_reducible refine (bits_Zeros.calls k2 t601 t602 x7_2 t610 t611 _ A18.out).mono ?_); rintro e w46 ⟨rfl, hb⟩; refine ⟨_, rfl, ?_⟩; have n0_ := Aside0.mk (blk_below (g := gb596) (o := .cells #[.slice A0_0 l0_0.length c0_0, .slice A0_1 l0_1.length c0_1] 25 (0, 0)) (by (with_reducible repeat (first | refine blk_drewN ?_ _ | refine blk_drew ?_ | refine blk_alloc ?_ _)); exact BK596.out) hb); have n1_ := Aside0.mk (blk_below (g := gb600) (o := .cells #[.string t601, .int .i64 t602] 27 (0, 0)) (by (with_reducible repeat (first | refine blk_drewN ?_ _ | refine blk_drew ?_ | refine blk_alloc ?_ _)); exact BK600.out) hb); have n2_ := Aside0.mk (below_step (by repeat (first | (with_reducible first | exact HB.out | apply below_alloc | apply pw_below_drewN | apply below_drew1 | refine below_set ?_ GE596.out | refine below_set ?_ GE600.out) | exact HB.out)) hb); clear BK596; clear BK600; clear HB; have BK596 := n0_; have BK600 := n1_; have HB := n2_; clear n0_ n1_ n2_; (try clear hb); (try clear hb2); (try clear hk); (try clear hi)) | (go_at_call 26; (with_reducible refine (herbariumlaw1_num.calls t611 t614 _ A42.out).mono ?_); rintro e w' ⟨rfl, ⟨nd, rfl⟩⟩))
                    go_roundg k2
                    case measure => have := HJ3.out; have := HK2.out; omega
                    case rel => exact ⟨(wrap64 (x7_2 + 1)), (by first | rfl | (simp; done) | (simp [*]; done)), H', ⟨by have := HJ3.out; have := HK2.out; omega⟩, ⟨by (with_reducible repeat (first | refine blk_drewN ?_ _ | refine blk_drew ?_ | refine blk_alloc ?_ _)); exact BK596.out⟩, ⟨by (with_reducible repeat (first | refine blk_drewN ?_ _ | refine blk_drew ?_ | refine blk_alloc ?_ _)); exact BK600.out⟩, ⟨by repeat (first | (with_reducible first | exact HB.out | apply below_alloc | apply pw_below_drewN | apply below_drew1 | refine below_set ?_ GE596.out | refine below_set ?_ GE600.out) | exact HB.out)⟩⟩
                  · rw [if_neg c43] at H
                    have c43b0 : (t614 == 9) = false := beq_eq_false_iff_ne.mpr c43
                    have c43b1 : (t614 != 9) = true := bne_iff_ne.mpr c43
                    obtain rfl := Option.some.inj H
                    have hnb47 := NB600_596.out
                    have hnc47 := NB596_600.out
                    have hcz48_0 : wr.cell? ⟨gb600, 0, none⟩ = some (.string t601) := (blk_cell BK600.out 0).trans rfl
                    have hcz48_1 : wr.cell? ⟨gb600, 1, none⟩ = some (.int .i64 t602) := (blk_cell BK600.out 1).trans rfl
                    have hfz48_0 := blk_frozen BK600.out 0
                    have hfz48_1 := blk_frozen BK600.out 1
                    go_wp2_with (first | ((with_reducible refine gate_callee (f := 35) rfl ?_); refine goesL_ (some 45) rfl rfl Try.func35 (by kernel_rfl) rfl #[.agg #[.string t601, .int .i64 t602], .int .i64 x7_2] rfl (by (try simp only [List.map_toArray, List.map_cons, List.map_nil]); first | done | rfl | (simp only [List.length_drop, List.length_take]; rfl)) ?_; (with_reducible refine (bits_Zeros.calls k2 t601 t602 x7_2 t610 t611 _ A18.out).mono ?_); rintro e w49 ⟨rfl, hb⟩; refine ⟨_, rfl, ?_⟩; have n0_ := Aside0.mk (blk_below (g := gb596) (o := .cells #[.slice A0_0 l0_0.length c0_0, .slice A0_1 l0_1.length c0_1] 25 (0, 0)) (by (with_reducible repeat (first | refine blk_drewN ?_ _ | refine blk_drew ?_ | refine blk_alloc ?_ _)); exact BK596.out) hb); have n1_ := Aside0.mk (blk_below (g := gb600) (o := .cells #[.string t601, .int .i64 t602] 27 (0, 0)) (by (with_reducible repeat (first | refine blk_drewN ?_ _ | refine blk_drew ?_ | refine blk_alloc ?_ _)); exact BK600.out) hb); have n2_ := Aside0.mk (below_step (by repeat (first | (with_reducible first | exact HB.out | apply below_alloc | apply pw_below_drewN | apply below_drew1 | refine below_set ?_ GE596.out | refine below_set ?_ GE600.out) | exact HB.out)) hb); clear BK596; clear BK600; clear HB; have BK596 := n0_; have BK600 := n1_; have HB := n2_; clear n0_ n1_ n2_; (try clear hb); (try clear hb2); (try clear hk); (try clear hi)) | (go_at_call 26; (with_reducible refine (herbariumlaw1_num.calls t611 t614 _ A42.out).mono ?_); rintro e w' ⟨rfl, ⟨nd, rfl⟩⟩))
                    go_ret
                    exact ⟨by first | rfl | (simp [errW_none, errW_some] <;> rfl) | (simp [*, errW_none, errW_some] <;> rfl), by repeat (first | (with_reducible first | exact HB.out | apply below_alloc | apply pw_below_drewN | apply below_drew1 | refine below_set ?_ GE596.out | refine below_set ?_ GE600.out) | exact HB.out)⟩
                · rw [if_neg c41] at H
                  have c41b0 : decide (((l0_1.length : Int) % 30) < x7_2) = false := decide_eq_false c41
                  clear c41
                  have H' := Aside0.mk H
                  clear H
                  have hnb50 := NB600_596.out
                  have hnc50 := NB596_600.out
                  have hcz51_0 : wr.cell? ⟨gb600, 0, none⟩ = some (.string t601) := (blk_cell BK600.out 0).trans rfl
                  have hcz51_1 : wr.cell? ⟨gb600, 1, none⟩ = some (.int .i64 t602) := (blk_cell BK600.out 1).trans rfl
                  have hfz51_0 := blk_frozen BK600.out 0
                  have hfz51_1 := blk_frozen BK600.out 1
                  go_wp2_with (first | ((with_reducible refine gate_callee (f := 35) rfl ?_); refine goesL_ (some 45) rfl rfl Try.func35 (by kernel_rfl) rfl #[.agg #[.string t601, .int .i64 t602], .int .i64 x7_2] rfl (by (try simp only [List.map_toArray, List.map_cons, List.map_nil]); first | done | rfl | (simp only [List.length_drop, List.length_take]; rfl)) ?_; (with_reducible refine (bits_Zeros.calls k2 t601 t602 x7_2 t610 t611 _ A18.out).mono ?_); rintro e w52 ⟨rfl, hb⟩; refine ⟨_, rfl, ?_⟩; have n0_ := Aside0.mk (blk_below (g := gb596) (o := .cells #[.slice A0_0 l0_0.length c0_0, .slice A0_1 l0_1.length c0_1] 25 (0, 0)) (by (with_reducible repeat (first | refine blk_drewN ?_ _ | refine blk_drew ?_ | refine blk_alloc ?_ _)); exact BK596.out) hb); have n1_ := Aside0.mk (blk_below (g := gb600) (o := .cells #[.string t601, .int .i64 t602] 27 (0, 0)) (by (with_reducible repeat (first | refine blk_drewN ?_ _ | refine blk_drew ?_ | refine blk_alloc ?_ _)); exact BK600.out) hb); have n2_ := Aside0.mk (below_step (by repeat (first | (with_reducible first | exact HB.out | apply below_alloc | apply pw_below_drewN | apply below_drew1 | refine below_set ?_ GE596.out | refine below_set ?_ GE600.out) | exact HB.out)) hb); clear BK596; clear BK600; clear HB; have BK596 := n0_; have BK600 := n1_; have HB := n2_; clear n0_ n1_ n2_; (try clear hb); (try clear hb2); (try clear hk); (try clear hi)))
                  go_roundg k2
                  case measure => have := HJ3.out; have := HK2.out; omega
                  case rel => exact ⟨(wrap64 (x7_2 + 1)), (by first | rfl | (simp; done) | (simp [*]; done)), H', ⟨by have := HJ3.out; have := HK2.out; omega⟩, ⟨by (with_reducible repeat (first | refine blk_drewN ?_ _ | refine blk_drew ?_ | refine blk_alloc ?_ _)); exact BK596.out⟩, ⟨by (with_reducible repeat (first | refine blk_drewN ?_ _ | refine blk_drew ?_ | refine blk_alloc ?_ _)); exact BK600.out⟩, ⟨by repeat (first | (with_reducible first | exact HB.out | apply below_alloc | apply pw_below_drewN | apply below_drew1 | refine below_set ?_ GE596.out | refine below_set ?_ GE600.out) | exact HB.out)⟩⟩
            · rw [if_neg c17] at H
              have c17b0 : decide (x7_2 ≤ (wrap64 (((l0_1.length : Int) % 30) + 4))) = false := decide_eq_false c17
              (try (have c17b0w := c17b0; simp (disch := omega) only [wrap_in] at c17b0w))
              clear c17
              replace H := Option.bind_eq_some_iff.mp H
              obtain ⟨⟨t606, t607⟩, A530, H⟩ := H
              replace H : ((herbariumlaw1_num.f t607).bind fun t608 => (if t608 = 1 then ((herbariumlaw1_wakes.f k2).bind fun t609 => (some t609)) else (some false))) = some r := H
              have A53 := Aside0.mk A530
              rw [wrap_in (((l0_1.length : Int) % 30) + 5) (by omega) (by omega)] at A53
              clear A530
              replace H := Option.bind_eq_some_iff.mp H
              obtain ⟨t608, A540, H⟩ := H
              replace H : (if t608 = 1 then ((herbariumlaw1_wakes.f k2).bind fun t609 => (some t609)) else (some false)) = some r := H
              have A54 := Aside0.mk A540
              clear A540
              by_cases c55 : t608 = 1
              · rw [if_pos c55] at H
                have c55b0 : (t608 == 1) = true := beq_iff_eq.mpr c55
                have c55b1 : (t608 != 1) = false := bne_eq_false_iff_eq.mpr c55
                clear c55
                replace H := Option.bind_eq_some_iff.mp H
                obtain ⟨t609, A560, H⟩ := H
                replace H : (some t609) = some r := H
                have A56 := Aside0.mk A560
                clear A560
                obtain rfl := Option.some.inj H
                have hnb57 := NB600_596.out
                have hnc57 := NB596_600.out
                have hcz58_0 : wr.cell? ⟨gb600, 0, none⟩ = some (.string t601) := (blk_cell BK600.out 0).trans rfl
                have hcz58_1 : wr.cell? ⟨gb600, 1, none⟩ = some (.int .i64 t602) := (blk_cell BK600.out 1).trans rfl
                have hfz58_0 := blk_frozen BK600.out 0
                have hfz58_1 := blk_frozen BK600.out 1
                go_wp2_with (first | ((with_reducible refine gate_callee (f := 35) rfl ?_); refine goesL_ (some 77) rfl rfl Try.func35 (by kernel_rfl) rfl #[.agg #[.string t601, .int .i64 t602], .int .i64 (((l0_1.length : Int) % 30) + 5)] rfl (by (try simp only [List.map_toArray, List.map_cons, List.map_nil]); first | done | rfl | (simp only [List.length_drop, List.length_take]; rfl)) ?_; (with_reducible refine (bits_Zeros.calls k2 t601 t602 (((l0_1.length : Int) % 30) + 5) t606 t607 _ A53.out).mono ?_); rintro e w59 ⟨rfl, hb⟩; refine ⟨_, rfl, ?_⟩; have n0_ := Aside0.mk (blk_below (g := gb596) (o := .cells #[.slice A0_0 l0_0.length c0_0, .slice A0_1 l0_1.length c0_1] 25 (0, 0)) (by (with_reducible repeat (first | refine blk_drewN ?_ _ | refine blk_drew ?_ | refine blk_alloc ?_ _)); exact BK596.out) hb); have n1_ := Aside0.mk (blk_below (g := gb600) (o := .cells #[.string t601, .int .i64 t602] 27 (0, 0)) (by (with_reducible repeat (first | refine blk_drewN ?_ _ | refine blk_drew ?_ | refine blk_alloc ?_ _)); exact BK600.out) hb); have n2_ := Aside0.mk (below_step (by repeat (first | (with_reducible first | exact HB.out | apply below_alloc | apply pw_below_drewN | apply below_drew1 | refine below_set ?_ GE596.out | refine below_set ?_ GE600.out) | exact HB.out)) hb); clear BK596; clear BK600; clear HB; have BK596 := n0_; have BK600 := n1_; have HB := n2_; clear n0_ n1_ n2_; (try clear hb); (try clear hb2); (try clear hk); (try clear hi)) | ((with_reducible refine gate_callee (f := 26) rfl ?_); refine goesL_ (some 81) rfl rfl Try.func26 (by kernel_rfl) rfl #[.int .i64 t607] rfl (by (try simp only [List.map_toArray, List.map_cons, List.map_nil]); first | done | rfl | (simp only [List.length_drop, List.length_take]; rfl)) ?_; (with_reducible refine (herbariumlaw1_num.calls t607 t608 _ A54.out).mono ?_); rintro e w' ⟨rfl, ⟨nd, rfl⟩⟩; refine ⟨_, rfl, ?_⟩) | (go_at_call 27; (with_reducible refine (herbariumlaw1_wakes.calls k2  t609 _ A56.out).mono ?_); rintro e w60 ⟨rfl, hb⟩; have n0_ := Aside0.mk (blk_below (g := gb596) (o := .cells #[.slice A0_0 l0_0.length c0_0, .slice A0_1 l0_1.length c0_1] 25 (0, 0)) (by (with_reducible repeat (first | refine blk_drewN ?_ _ | refine blk_drew ?_ | refine blk_alloc ?_ _)); exact BK596.out) hb); have n1_ := Aside0.mk (blk_below (g := gb600) (o := .cells #[.string t601, .int .i64 t602] 27 (0, 0)) (by (with_reducible repeat (first | refine blk_drewN ?_ _ | refine blk_drew ?_ | refine blk_alloc ?_ _)); exact BK600.out) hb); have n2_ := Aside0.mk (below_step (by repeat (first | (with_reducible first | exact HB.out | apply below_alloc | apply pw_below_drewN | apply below_drew1 | refine below_set ?_ GE596.out | refine below_set ?_ GE600.out) | exact HB.out)) hb); clear BK596; clear BK600; clear HB; have BK596 := n0_; have BK600 := n1_; have HB := n2_; clear n0_ n1_ n2_; (try clear hb); (try clear hb2); (try clear hk); (try clear hi)))
                go_ret
                exact ⟨by first | rfl | (simp [errW_none, errW_some] <;> rfl) | (simp [*, errW_none, errW_some] <;> rfl), by repeat (first | (with_reducible first | exact HB.out | apply below_alloc | apply pw_below_drewN | apply below_drew1 | refine below_set ?_ GE596.out | refine below_set ?_ GE600.out) | exact HB.out)⟩
              · rw [if_neg c55] at H
                have c55b0 : (t608 == 1) = false := beq_eq_false_iff_ne.mpr c55
                have c55b1 : (t608 != 1) = true := bne_iff_ne.mpr c55
                obtain rfl := Option.some.inj H
                have hnb61 := NB600_596.out
                have hnc61 := NB596_600.out
                have hcz62_0 : wr.cell? ⟨gb600, 0, none⟩ = some (.string t601) := (blk_cell BK600.out 0).trans rfl
                have hcz62_1 : wr.cell? ⟨gb600, 1, none⟩ = some (.int .i64 t602) := (blk_cell BK600.out 1).trans rfl
                have hfz62_0 := blk_frozen BK600.out 0
                have hfz62_1 := blk_frozen BK600.out 1
                go_wp2_with (first | ((with_reducible refine gate_callee (f := 35) rfl ?_); refine goesL_ (some 77) rfl rfl Try.func35 (by kernel_rfl) rfl #[.agg #[.string t601, .int .i64 t602], .int .i64 (((l0_1.length : Int) % 30) + 5)] rfl (by (try simp only [List.map_toArray, List.map_cons, List.map_nil]); first | done | rfl | (simp only [List.length_drop, List.length_take]; rfl)) ?_; (with_reducible refine (bits_Zeros.calls k2 t601 t602 (((l0_1.length : Int) % 30) + 5) t606 t607 _ A53.out).mono ?_); rintro e w63 ⟨rfl, hb⟩; refine ⟨_, rfl, ?_⟩; have n0_ := Aside0.mk (blk_below (g := gb596) (o := .cells #[.slice A0_0 l0_0.length c0_0, .slice A0_1 l0_1.length c0_1] 25 (0, 0)) (by (with_reducible repeat (first | refine blk_drewN ?_ _ | refine blk_drew ?_ | refine blk_alloc ?_ _)); exact BK596.out) hb); have n1_ := Aside0.mk (blk_below (g := gb600) (o := .cells #[.string t601, .int .i64 t602] 27 (0, 0)) (by (with_reducible repeat (first | refine blk_drewN ?_ _ | refine blk_drew ?_ | refine blk_alloc ?_ _)); exact BK600.out) hb); have n2_ := Aside0.mk (below_step (by repeat (first | (with_reducible first | exact HB.out | apply below_alloc | apply pw_below_drewN | apply below_drew1 | refine below_set ?_ GE596.out | refine below_set ?_ GE600.out) | exact HB.out)) hb); clear BK596; clear BK600; clear HB; have BK596 := n0_; have BK600 := n1_; have HB := n2_; clear n0_ n1_ n2_; (try clear hb); (try clear hb2); (try clear hk); (try clear hi)) | ((with_reducible refine gate_callee (f := 26) rfl ?_); refine goesL_ (some 81) rfl rfl Try.func26 (by kernel_rfl) rfl #[.int .i64 t607] rfl (by (try simp only [List.map_toArray, List.map_cons, List.map_nil]); first | done | rfl | (simp only [List.length_drop, List.length_take]; rfl)) ?_; (with_reducible refine (herbariumlaw1_num.calls t607 t608 _ A54.out).mono ?_); rintro e w' ⟨rfl, ⟨nd, rfl⟩⟩; refine ⟨_, rfl, ?_⟩))
                go_ret
                exact ⟨by first | rfl | (simp [errW_none, errW_some] <;> rfl) | (simp [*, errW_none, errW_some] <;> rfl), by repeat (first | (with_reducible first | exact HB.out | apply below_alloc | apply pw_below_drewN | apply below_drew1 | refine below_set ?_ GE596.out | refine below_set ?_ GE600.out) | exact HB.out)⟩

end Go.Proofs.Ytnpghcikhpglkaa.Q
