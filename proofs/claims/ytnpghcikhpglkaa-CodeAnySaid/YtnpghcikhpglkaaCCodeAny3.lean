/- What the row of CodeAny rests on, part 4 of 6: functions, contracts, plain laws. -/
import Derived.Test.YtnpghcikhpglkaaCCodeAny2
import Derived.Lib.ItoaNum
namespace Go.Proofs.Ytnpghcikhpglkaa.Q
open Go.RowKit Go.Proofs.YtnpghcikhpglkaaW.PrintWords Go.Proofs.YtnpghcikhpglkaaW.PrintLast Go.Proofs.YtnpghcikhpglkaaW.PrintMore
attribute [local go_sem] max2_int min2_int max_two min_two max_three min_three max_four min_four   -- for this text's walks alone
set_option linter.unusedVariables false
set_option linter.unusedSimpArgs false

/-! ### code_Take: function 61 -/
def code_Take.j0 : Nat → Int → Int → Bool → ByteArray → Int → Option (Int × Int × Int)
 | 0, _, _, _, _, _ => none
 | k + 1, x1, x2, x27, x780000, x780001 => if x27 = true then (some (0, 0, 1)) else ((code_Read.f x780000 x780001 x1 x2).bind fun bt782 => (if bt782.2.2 = true then (some (bt782.1, bt782.2.1, 0)) else (some (0, 0, 9))))
def code_Take.f (k : Nat) (a0_0 : ByteArray) (a0_1 : Int) (a1 : Int) (a2 : Int) : Option (Int × Int × Int) := (bits_May.f a0_0 a0_1).bind fun t780 => (if t780 = true then ((code_Is.f a2).bind fun t781 => (if t781 = true then (if a1 < 0 then (code_Take.j0 k a1 a2 true a0_0 a0_1) else (code_Take.j0 k a1 a2 (decide (a1 > a0_1)) a0_0 a0_1)) else (code_Take.j0 k a1 a2 true a0_0 a0_1))) else (code_Take.j0 k a1 a2 true a0_0 a0_1))
theorem code_Take.mono_l : ∀ k, (∀ y0 y1 y2 y3 y4, LeO (code_Take.j0 k y0 y1 y2 y3 y4) (code_Take.j0 (k + 1) y0 y1 y2 y3 y4))
 | 0 => fun _ _ _ _ _ r h => by simp [code_Take.j0] at h
 | k + 1 => by
  have ih0 := code_Take.mono_l k
  ·
   intro y0 y1 y2 y3 y4
   unfold code_Take.j0
   repeat' first
   | (with_reducible exact ih0 _ _ _ _ _)
   | (with_reducible exact LeO.refl _)
   | (with_reducible exact LeO.none _)
   | (with_reducible refine LeO.ite ?_ ?_)
   | (with_reducible refine LeO.bind ?_ (fun _ => ?_))
   | exact ih0 _ _ _ _ _
   | exact LeO.none _
   | refine LeO.ite ?_ ?_
   | refine LeO.bind ?_ (fun _ => ?_)
theorem code_Take.mono : ∀ a0 a1 a2 a3 k, LeO (code_Take.f k a0 a1 a2 a3) (code_Take.f (k + 1) a0 a1 a2 a3) := by
 intro a0 a1 a2 a3 k
 have ih0 := code_Take.mono_l k
 unfold code_Take.f
 repeat' first
   | (with_reducible exact ih0 _ _ _ _ _)
   | (with_reducible exact LeO.refl _)
   | (with_reducible exact LeO.none _)
   | (with_reducible refine LeO.ite ?_ ?_)
   | (with_reducible refine LeO.bind ?_ (fun _ => ?_))
   | exact ih0 _ _ _ _ _
   | exact LeO.none _
   | refine LeO.ite ?_ ?_
   | refine LeO.bind ?_ (fun _ => ?_)
set_option maxHeartbeats 8000000 in
set_option maxRecDepth 100000 in
theorem code_Take.calls (k : Nat) (a0_0 : ByteArray) (a0_1 : Int) (a1 : Int) (a2 : Int) (r1 : Int) (r2 : Int) (r3 : Int) (w : World) (h : code_Take.f k a0_0 a0_1 a1 a2 = some (r1, r2, r3)) :
  Calls Try.prog 61 #[.agg #[.string a0_0, .int .i64 a0_1], .int .i64 a1, .int .i64 a2] w fun e w' => e = .returned (.tuple #[.int .i64 r1, .int .i64 r2, .int .i64 r3]) ∧ Below w.heap.size w w' := by
 have hu27 := Try.underlying27
 have HB := Aside0.mk (Below.refl w.heap.size w)
 have H : ((bits_May.f a0_0 a0_1).bind fun t780 => (if t780 = true then ((code_Is.f a2).bind fun t781 => (if t781 = true then (if a1 < 0 then (code_Take.j0 k a1 a2 true a0_0 a0_1) else (code_Take.j0 k a1 a2 (decide (a1 > a0_1)) a0_0 a0_1)) else (code_Take.j0 k a1 a2 true a0_0 a0_1))) else (code_Take.j0 k a1 a2 true a0_0 a0_1))) = some (r1, r2, r3) := h
 clear h
 have HC4 := Aside0.mk H
 clear H
 go_enter Try.func61, Try.ntmps61
 go_upto_region 1 with (first | ((with_reducible refine gate_dst (N := 3) rfl ?_); refine box_event ?hg (N := 3) ?hd (cs := #[.string a0_0, .int .i64 a0_1]) (t := 27) ?hr ?_; (case hd => rfl); (case hg => rfl); (case hr => first | (go_simp; done) | (go_simp; rfl)); intro gb779 hg w5 hbox hb; have n0_ := Aside0.mk (below_step (by repeat (first | (with_reducible first | exact HB.out | apply below_alloc | apply pw_below_drewN | apply below_drew1) | exact HB.out)) hb); have n1_ := Aside0.mk (hbox); have n2_ := Aside0.mk ((by rw [hg]; exact (below_size (by repeat (first | (with_reducible first | exact HB.out | apply below_alloc | apply pw_below_drewN | apply below_drew1) | exact HB.out))) : w.heap.size ≤ gb779)); have n3_ := Aside0.mk ((by rw [hg]; exact (below_size (by repeat (first | (with_reducible first | exact HB.out | apply below_alloc | apply pw_below_drewN | apply below_drew1) | exact HB.out))) : w.heap.size ≤ gb779)); clear HB; have HB := n0_; have BK779 := n1_; have GW779 := n2_; have GE779 := n3_; clear n0_ n1_ n2_ n3_; clear hb hbox hg))
 (try simp only [Act.put, List.setIfInBounds_toArray, List.set_cons_zero, List.set_cons_succ])
 go_cut [27] (fun v27 wc => ∃ (kq : Nat) (x27_3 : Bool), v27 = .bool x27_3 ∧ Aside0 (code_Take.j0 kq a1 a2 x27_3 a0_0 a0_1 = some (r1, r2, r3)) ∧ Aside0 (kq ≤ k) ∧ Aside0 (wc.heap[gb779]? = some (.cells #[.string a0_0, .int .i64 a0_1] 27 (0, 0))) ∧ Aside0 (Below w.heap.size w wc))
 case first =>
  have H := HC4.out
  clear HC4
  replace H := Option.bind_eq_some_iff.mp H
  obtain ⟨t780, A60, H⟩ := H
  replace H : (if t780 = true then ((code_Is.f a2).bind fun t781 => (if t781 = true then (if a1 < 0 then (code_Take.j0 k a1 a2 true a0_0 a0_1) else (code_Take.j0 k a1 a2 (decide (a1 > a0_1)) a0_0 a0_1)) else (code_Take.j0 k a1 a2 true a0_0 a0_1))) else (code_Take.j0 k a1 a2 true a0_0 a0_1)) = some (r1, r2, r3) := H
  have A6 := Aside0.mk A60
  clear A60
  by_cases c7 : t780 = true
  ·
   subst c7
   have H1 : ((code_Is.f a2).bind fun t781 => (if t781 = true then (if a1 < 0 then (code_Take.j0 k a1 a2 true a0_0 a0_1) else (code_Take.j0 k a1 a2 (decide (a1 > a0_1)) a0_0 a0_1)) else (code_Take.j0 k a1 a2 true a0_0 a0_1))) = some (r1, r2, r3) := by rw [if_pos rfl] at H; exact H
   clear H
   have H := H1
   clear H1
   replace H := Option.bind_eq_some_iff.mp H
   obtain ⟨t781, A80, H⟩ := H
   replace H : (if t781 = true then (if a1 < 0 then (code_Take.j0 k a1 a2 true a0_0 a0_1) else (code_Take.j0 k a1 a2 (decide (a1 > a0_1)) a0_0 a0_1)) else (code_Take.j0 k a1 a2 true a0_0 a0_1)) = some (r1, r2, r3) := H
   have A8 := Aside0.mk A80
   clear A80
   by_cases c9 : t781 = true
   ·
    subst c9
    have H1 : (if a1 < 0 then (code_Take.j0 k a1 a2 true a0_0 a0_1) else (code_Take.j0 k a1 a2 (decide (a1 > a0_1)) a0_0 a0_1)) = some (r1, r2, r3) := by rw [if_pos rfl] at H; exact H
    clear H
    have H := H1
    clear H1
    by_cases c10 : a1 < 0
    ·
     rw [if_pos c10] at H
     have c10b0 : decide (a1 < 0) = true := decide_eq_true c10
     clear c10
     (first | rw [c10b0] | (simp only [i64_w, i32_w]; rw [c10b0]) | skip)
     have H' := Aside0.mk H
     clear H
     have hcz11_0 : w5.cell? ⟨gb779, 0, none⟩ = some (.string a0_0) := (blk_cell BK779.out 0).trans rfl
     have hcz11_1 : w5.cell? ⟨gb779, 1, none⟩ = some (.int .i64 a0_1) := (blk_cell BK779.out 1).trans rfl
     have hfz11_0 := blk_frozen BK779.out 0
     have hfz11_1 := blk_frozen BK779.out 1
     go_wp2_with (first | ((with_reducible refine gate_callee (f := 86) rfl ?_); refine goesL_ (some 11) rfl rfl Try.func86 (by kernel_rfl) rfl #[.agg #[.string a0_0, .int .i64 a0_1]] rfl (by (try simp only [List.map_toArray, List.map_cons, List.map_nil]); first | done | rfl | (simp only [List.length_drop, List.length_take]; rfl)) ?_; (with_reducible refine (bits_May.calls a0_0 a0_1 true _ A6.out).mono ?_); rintro e w12 ⟨rfl, hb⟩; refine ⟨_, rfl, ?_⟩; have n0_ := Aside0.mk (blk_below (g := gb779) (o := .cells #[.string a0_0, .int .i64 a0_1] 27 (0, 0)) (by (with_reducible repeat (first | refine blk_drewN ?_ _ | refine blk_drew ?_ | refine blk_alloc ?_ _)); exact BK779.out) hb); have n1_ := Aside0.mk (below_step (by repeat (first | (with_reducible first | exact HB.out | apply below_alloc | apply pw_below_drewN | apply below_drew1 | refine below_set ?_ GE779.out) | exact HB.out)) hb); clear BK779; clear HB; have BK779 := n0_; have HB := n1_; clear n0_ n1_; (try clear hb); (try clear hb2); (try clear hk); (try clear hi)) | (go_at_call 102; (with_reducible refine (code_Is.calls a2 true _ A8.out).mono ?_); rintro e w' ⟨rfl, ⟨nd, rfl⟩⟩))
     go_meet
     case rel => exact ⟨_, (true), (by first | rfl | (simp; done) | (simp [*]; done)), H', ⟨by first | omega | exact Nat.le_refl _⟩, ⟨by (with_reducible repeat (first | refine blk_drewN ?_ _ | refine blk_drew ?_ | refine blk_alloc ?_ _)); exact BK779.out⟩, ⟨by repeat (first | (with_reducible first | exact HB.out | apply below_alloc | apply pw_below_drewN | apply below_drew1 | refine below_set ?_ GE779.out) | exact HB.out)⟩⟩
    ·
     rw [if_neg c10] at H
     have c10b0 : decide (a1 < 0) = false := decide_eq_false c10
     clear c10
     (first | rw [c10b0] | (simp only [i64_w, i32_w]; rw [c10b0]) | skip)
     have H' := Aside0.mk H
     clear H
     have hcz13_0 : w5.cell? ⟨gb779, 0, none⟩ = some (.string a0_0) := (blk_cell BK779.out 0).trans rfl
     have hcz13_1 : w5.cell? ⟨gb779, 1, none⟩ = some (.int .i64 a0_1) := (blk_cell BK779.out 1).trans rfl
     have hfz13_0 := blk_frozen BK779.out 0
     have hfz13_1 := blk_frozen BK779.out 1
     go_wp2_with (first | ((with_reducible refine gate_callee (f := 86) rfl ?_); refine goesL_ (some 11) rfl rfl Try.func86 (by kernel_rfl) rfl #[.agg #[.string a0_0, .int .i64 a0_1]] rfl (by (try simp only [List.map_toArray, List.map_cons, List.map_nil]); first | done | rfl | (simp only [List.length_drop, List.length_take]; rfl)) ?_; (with_reducible refine (bits_May.calls a0_0 a0_1 true _ A6.out).mono ?_); rintro e w14 ⟨rfl, hb⟩; refine ⟨_, rfl, ?_⟩; have n0_ := Aside0.mk (blk_below (g := gb779) (o := .cells #[.string a0_0, .int .i64 a0_1] 27 (0, 0)) (by (with_reducible repeat (first | refine blk_drewN ?_ _ | refine blk_drew ?_ | refine blk_alloc ?_ _)); exact BK779.out) hb); have n1_ := Aside0.mk (below_step (by repeat (first | (with_reducible first | exact HB.out | apply below_alloc | apply pw_below_drewN | apply below_drew1 | refine below_set ?_ GE779.out) | exact HB.out)) hb); clear BK779; clear HB; have BK779 := n0_; have HB := n1_; clear n0_ n1_; (try clear hb); (try clear hb2); (try clear hk); (try clear hi)) | (go_at_call 102; (with_reducible refine (code_Is.calls a2 true _ A8.out).mono ?_); rintro e w' ⟨rfl, ⟨nd, rfl⟩⟩; have hcz15_0 : w14.cell? ⟨gb779, 0, none⟩ = some (.string a0_0) := (blk_cell BK779.out 0).trans rfl; have hcz15_1 : w14.cell? ⟨gb779, 1, none⟩ = some (.int .i64 a0_1) := (blk_cell BK779.out 1).trans rfl; have hfz15_0 := blk_frozen BK779.out 0; have hfz15_1 := blk_frozen BK779.out 1))
     go_meet
     case rel => exact ⟨_, (decide (a1 > a0_1)), (by first | rfl | (simp; done) | (simp [*]; done)), H', ⟨by first | omega | exact Nat.le_refl _⟩, ⟨by (with_reducible repeat (first | refine blk_drewN ?_ _ | refine blk_drew ?_ | refine blk_alloc ?_ _)); exact BK779.out⟩, ⟨by repeat (first | (with_reducible first | exact HB.out | apply below_alloc | apply pw_below_drewN | apply below_drew1 | refine below_set ?_ GE779.out) | exact HB.out)⟩⟩
   ·
    replace c9 := Bool.eq_false_iff.mpr c9
    subst c9
    have H1 : (code_Take.j0 k a1 a2 true a0_0 a0_1) = some (r1, r2, r3) := by rw [if_neg (show ¬ (false = true) by decide)] at H; exact H
    clear H
    have H := H1
    clear H1
    have H' := Aside0.mk H
    clear H
    have hcz16_0 : w5.cell? ⟨gb779, 0, none⟩ = some (.string a0_0) := (blk_cell BK779.out 0).trans rfl
    have hcz16_1 : w5.cell? ⟨gb779, 1, none⟩ = some (.int .i64 a0_1) := (blk_cell BK779.out 1).trans rfl
    have hfz16_0 := blk_frozen BK779.out 0
    have hfz16_1 := blk_frozen BK779.out 1
    go_wp2_with (first | ((with_reducible refine gate_callee (f := 86) rfl ?_); refine goesL_ (some 11) rfl rfl Try.func86 (by kernel_rfl) rfl #[.agg #[.string a0_0, .int .i64 a0_1]] rfl (by (try simp only [List.map_toArray, List.map_cons, List.map_nil]); first | done | rfl | (simp only [List.length_drop, List.length_take]; rfl)) ?_; (with_reducible refine (bits_May.calls a0_0 a0_1 true _ A6.out).mono ?_); rintro e w17 ⟨rfl, hb⟩; refine ⟨_, rfl, ?_⟩; have n0_ := Aside0.mk (blk_below (g := gb779) (o := .cells #[.string a0_0, .int .i64 a0_1] 27 (0, 0)) (by (with_reducible repeat (first | refine blk_drewN ?_ _ | refine blk_drew ?_ | refine blk_alloc ?_ _)); exact BK779.out) hb); have n1_ := Aside0.mk (below_step (by repeat (first | (with_reducible first | exact HB.out | apply below_alloc | apply pw_below_drewN | apply below_drew1 | refine below_set ?_ GE779.out) | exact HB.out)) hb); clear BK779; clear HB; have BK779 := n0_; have HB := n1_; clear n0_ n1_; (try clear hb); (try clear hb2); (try clear hk); (try clear hi)) | (go_at_call 102; (with_reducible refine (code_Is.calls a2 false _ A8.out).mono ?_); rintro e w' ⟨rfl, ⟨nd, rfl⟩⟩))
    go_meet
    case rel => exact ⟨_, (true), (by first | rfl | (simp; done) | (simp [*]; done)), H', ⟨by first | omega | exact Nat.le_refl _⟩, ⟨by (with_reducible repeat (first | refine blk_drewN ?_ _ | refine blk_drew ?_ | refine blk_alloc ?_ _)); exact BK779.out⟩, ⟨by repeat (first | (with_reducible first | exact HB.out | apply below_alloc | apply pw_below_drewN | apply below_drew1 | refine below_set ?_ GE779.out) | exact HB.out)⟩⟩
  ·
   replace c7 := Bool.eq_false_iff.mpr c7
   subst c7
   have H1 : (code_Take.j0 k a1 a2 true a0_0 a0_1) = some (r1, r2, r3) := by rw [if_neg (show ¬ (false = true) by decide)] at H; exact H
   clear H
   have H := H1
   clear H1
   have H' := Aside0.mk H
   clear H
   have hcz18_0 : w5.cell? ⟨gb779, 0, none⟩ = some (.string a0_0) := (blk_cell BK779.out 0).trans rfl
   have hcz18_1 : w5.cell? ⟨gb779, 1, none⟩ = some (.int .i64 a0_1) := (blk_cell BK779.out 1).trans rfl
   have hfz18_0 := blk_frozen BK779.out 0
   have hfz18_1 := blk_frozen BK779.out 1
   go_wp2_with (first | ((with_reducible refine gate_callee (f := 86) rfl ?_); refine goesL_ (some 11) rfl rfl Try.func86 (by kernel_rfl) rfl #[.agg #[.string a0_0, .int .i64 a0_1]] rfl (by (try simp only [List.map_toArray, List.map_cons, List.map_nil]); first | done | rfl | (simp only [List.length_drop, List.length_take]; rfl)) ?_; (with_reducible refine (bits_May.calls a0_0 a0_1 false _ A6.out).mono ?_); rintro e w19 ⟨rfl, hb⟩; refine ⟨_, rfl, ?_⟩; have n0_ := Aside0.mk (blk_below (g := gb779) (o := .cells #[.string a0_0, .int .i64 a0_1] 27 (0, 0)) (by (with_reducible repeat (first | refine blk_drewN ?_ _ | refine blk_drew ?_ | refine blk_alloc ?_ _)); exact BK779.out) hb); have n1_ := Aside0.mk (below_step (by repeat (first | (with_reducible first | exact HB.out | apply below_alloc | apply pw_below_drewN | apply below_drew1 | refine below_set ?_ GE779.out) | exact HB.out)) hb); clear BK779; clear HB; have BK779 := n0_; have HB := n1_; clear n0_ n1_; (try clear hb); (try clear hb2); (try clear hk); (try clear hi)))
   go_meet
   case rel => exact ⟨_, (true), (by first | rfl | (simp; done) | (simp [*]; done)), H', ⟨by first | omega | exact Nat.le_refl _⟩, ⟨by (with_reducible repeat (first | refine blk_drewN ?_ _ | refine blk_drew ?_ | refine blk_alloc ?_ _)); exact BK779.out⟩, ⟨by repeat (first | (with_reducible first | exact HB.out | apply below_alloc | apply pw_below_drewN | apply below_drew1 | refine below_set ?_ GE779.out) | exact HB.out)⟩⟩
 case rest =>
  clear HC4
  (try clear c1); (try clear p2); (try clear c6); (try clear c7); (try clear c8); (try clear c9); (try clear c10); (try clear c10b0); (try clear hcz11_0); (try clear hcz11_1); (try clear hcz13_0); (try clear hcz13_1); (try clear hcz15_0); (try clear hcz15_1); (try clear hcz16_0); (try clear hcz16_1); (try clear hcz18_0); (try clear hcz18_1); (try clear hfz11_0); (try clear hfz11_1); (try clear hfz13_0); (try clear hfz13_1); (try clear hfz15_0); (try clear hfz15_1); (try clear hfz16_0); (try clear hfz16_1); (try clear hfz18_0); (try clear hfz18_1)
  obtain ⟨kq, x27_3, rfl, HA, HJ3, BK779, HB⟩ := hcut
  cases kq with
  | zero => exact absurd HA.out (by simp [code_Take.j0])
  | succ kj3 =>
   have H := HA.out
   clear HA
   simp only [code_Take.j0] at H
   by_cases c20 : x27_3 = true
   ·
    subst c20
    have H1 : (some (0, 0, 1)) = some (r1, r2, r3) := by rw [if_pos rfl] at H; exact H
    clear H
    have H := H1
    clear H1
    simp only [Option.some.injEq, Prod.mk.injEq] at H
    obtain ⟨rfl, rfl, rfl⟩ := H
    go_wp2
    go_ret3
    exact ⟨by first | rfl | (simp [errW_none, errW_some] <;> rfl) | (simp [*, errW_none, errW_some] <;> rfl), by repeat (first | (with_reducible first | exact HB.out | apply below_alloc | apply pw_below_drewN | apply below_drew1 | refine below_set ?_ GE779.out) | exact HB.out)⟩
   ·
    replace c20 := Bool.eq_false_iff.mpr c20
    subst c20
    have H1 : ((code_Read.f a0_0 a0_1 a1 a2).bind fun bt782 => (if bt782.2.2 = true then (some (bt782.1, bt782.2.1, 0)) else (some (0, 0, 9)))) = some (r1, r2, r3) := by rw [if_neg (show ¬ (false = true) by decide)] at H; exact H
    clear H
    have H := H1
    clear H1
    replace H := Option.bind_eq_some_iff.mp H
    obtain ⟨⟨t782, t783, t784⟩, A210, H⟩ := H
    replace H : (if t784 = true then (some (t782, t783, 0)) else (some (0, 0, 9))) = some (r1, r2, r3) := H
    have A21 := Aside0.mk A210
    clear A210
    by_cases c22 : t784 = true
    ·
     subst c22
     have H1 : (some (t782, t783, 0)) = some (r1, r2, r3) := by rw [if_pos rfl] at H; exact H
     clear H
     have H := H1
     clear H1
     simp only [Option.some.injEq, Prod.mk.injEq] at H
     obtain ⟨rfl, rfl, rfl⟩ := H
     have hcz23_0 : wc.cell? ⟨gb779, 0, none⟩ = some (.string a0_0) := (blk_cell BK779.out 0).trans rfl
     have hcz23_1 : wc.cell? ⟨gb779, 1, none⟩ = some (.int .i64 a0_1) := (blk_cell BK779.out 1).trans rfl
     have hfz23_0 := blk_frozen BK779.out 0
     have hfz23_1 := blk_frozen BK779.out 1
     go_wp2_with (first | ((with_reducible refine gate_callee (f := 105) rfl ?_); refine goesL_ (some 32) rfl rfl Try.func105 (by kernel_rfl) rfl #[.agg #[.string a0_0, .int .i64 a0_1], .int .i64 a1, .int .i64 a2] rfl (by (try simp only [List.map_toArray, List.map_cons, List.map_nil]); first | done | rfl | (simp only [List.length_drop, List.length_take]; rfl)) ?_; (with_reducible refine (code_Read.calls a0_0 a0_1 a1 a2 t782 t783 true _ A21.out).mono ?_); rintro e w24 ⟨rfl, hb⟩; refine ⟨_, rfl, ?_⟩; have n0_ := Aside0.mk (blk_below (g := gb779) (o := .cells #[.string a0_0, .int .i64 a0_1] 27 (0, 0)) (by (with_reducible repeat (first | refine blk_drewN ?_ _ | refine blk_drew ?_ | refine blk_alloc ?_ _)); exact BK779.out) hb); have n1_ := Aside0.mk (below_step (by repeat (first | (with_reducible first | exact HB.out | apply below_alloc | apply pw_below_drewN | apply below_drew1 | refine below_set ?_ GE779.out) | exact HB.out)) hb); clear BK779; clear HB; have BK779 := n0_; have HB := n1_; clear n0_ n1_; (try clear hb); (try clear hb2); (try clear hk); (try clear hi)))
     go_ret3
     exact ⟨by first | rfl | (simp [errW_none, errW_some] <;> rfl) | (simp [*, errW_none, errW_some] <;> rfl), by repeat (first | (with_reducible first | exact HB.out | apply below_alloc | apply pw_below_drewN | apply below_drew1 | refine below_set ?_ GE779.out) | exact HB.out)⟩
    ·
     replace c22 := Bool.eq_false_iff.mpr c22
     subst c22
     have H1 : (some (0, 0, 9)) = some (r1, r2, r3) := by rw [if_neg (show ¬ (false = true) by decide)] at H; exact H
     clear H
     have H := H1
     clear H1
     simp only [Option.some.injEq, Prod.mk.injEq] at H
     obtain ⟨rfl, rfl, rfl⟩ := H
     have hcz25_0 : wc.cell? ⟨gb779, 0, none⟩ = some (.string a0_0) := (blk_cell BK779.out 0).trans rfl
     have hcz25_1 : wc.cell? ⟨gb779, 1, none⟩ = some (.int .i64 a0_1) := (blk_cell BK779.out 1).trans rfl
     have hfz25_0 := blk_frozen BK779.out 0
     have hfz25_1 := blk_frozen BK779.out 1
     go_wp2_with (first | ((with_reducible refine gate_callee (f := 105) rfl ?_); refine goesL_ (some 32) rfl rfl Try.func105 (by kernel_rfl) rfl #[.agg #[.string a0_0, .int .i64 a0_1], .int .i64 a1, .int .i64 a2] rfl (by (try simp only [List.map_toArray, List.map_cons, List.map_nil]); first | done | rfl | (simp only [List.length_drop, List.length_take]; rfl)) ?_; (with_reducible refine (code_Read.calls a0_0 a0_1 a1 a2 t782 t783 false _ A21.out).mono ?_); rintro e w26 ⟨rfl, hb⟩; refine ⟨_, rfl, ?_⟩; have n0_ := Aside0.mk (blk_below (g := gb779) (o := .cells #[.string a0_0, .int .i64 a0_1] 27 (0, 0)) (by (with_reducible repeat (first | refine blk_drewN ?_ _ | refine blk_drew ?_ | refine blk_alloc ?_ _)); exact BK779.out) hb); have n1_ := Aside0.mk (below_step (by repeat (first | (with_reducible first | exact HB.out | apply below_alloc | apply pw_below_drewN | apply below_drew1 | refine below_set ?_ GE779.out) | exact HB.out)) hb); clear BK779; clear HB; have BK779 := n0_; have HB := n1_; clear n0_ n1_; (try clear hb); (try clear hb2); (try clear hk); (try clear hi)))
     go_ret3
     exact ⟨by first | rfl | (simp [errW_none, errW_some] <;> rfl) | (simp [*, errW_none, errW_some] <;> rfl), by repeat (first | (with_reducible first | exact HB.out | apply below_alloc | apply pw_below_drewN | apply below_drew1 | refine below_set ?_ GE779.out) | exact HB.out)⟩
end Go.Proofs.Ytnpghcikhpglkaa.Q
namespace Go.Proofs.Ytnpghcikhpglkaa.Q
open Go.RowKit Go.Proofs.YtnpghcikhpglkaaW.PrintWords Go.Proofs.YtnpghcikhpglkaaW.PrintLast Go.Proofs.YtnpghcikhpglkaaW.PrintMore Go.Proofs.Ytnpghcikhpglkaa.Hand Go.Proofs.Ytnpghcikhpglkaa.Pu
set_option linter.unusedVariables false
set_option linter.unusedSimpArgs false
/-- Bits of a text, one by one behind a row. -/
def rowSeq (s : ByteArray) : Nat → Int → List Int × Int → List Int × Int
  | 0, _, st => st
  | k + 1, i, st => rowSeq s k (i + 1) (rowPut 1 st (bitOf s i))
theorem row_put1 (W : World) (base p : Nat) (bs : List Int) (n v : Int) (hrow : RowIs W base p bs n) (hn : 0 ≤ n) (hlen : (bs.length : Int) = (n + 7) / 8) (hbd : n + 1 ≤ 1073741824) (hbase : base ≤ W.heap.size) :
    Calls Try.prog 89 #[.pointer (some ⟨p, 0, none⟩), .int .i64 v, .int .i64 1] W fun e w' => e = .returned (.tuple #[]) ∧ RowIs w' base p (rowPut 1 (bs, n) v).1 (rowPut 1 (bs, n) v).2 ∧ Below base W w' :=
  row_put W base p bs n v 1 hrow hn hlen hbd hbase
theorem rowPut1_len (st : List Int × Int) (v : Int) (h0 : 0 ≤ st.2) (hl : (st.1.length : Int) = (st.2 + 7) / 8) : ((rowPut 1 st v).1.length : Int) = ((rowPut 1 st v).2 + 7) / 8 :=
  rowBit_len st v 0 h0 hl
theorem start3 (w : World) (o1 o2 o3 : Obj) : (((w.alloc o1).alloc o2).alloc o3).heap[w.heap.size]? = some o1 ∧ (((w.alloc o1).alloc o2).alloc o3).heap[w.heap.size + 1]? = some o2 ∧ (((w.alloc o1).alloc o2).alloc o3).heap[w.heap.size + 2]? = some o3 ∧
    Below w.heap.size w (((w.alloc o1).alloc o2).alloc o3) ∧ (((w.alloc o1).alloc o2).alloc o3).heap.size = w.heap.size + 3 := by
  obtain ⟨h1, h2, h3, h4⟩ := start2 w o1 o2
  have hs : ((w.alloc o1).alloc o2).heap.size = w.heap.size + 2 := by simp
  refine ⟨(Below.heap_alloc _ _ _ (by omega)).trans h1, (Below.heap_alloc _ _ _ (by omega)).trans h2, ?_, h3.alloc (by omega) o3, by simp⟩
  have := heap_alloc_new ((w.alloc o1).alloc o2) o3
  rw [hs] at this
  exact this
set_option maxHeartbeats 4000000 in
set_option maxRecDepth 100000 in
theorem part_walk (s : ByteArray) (n a b : Int) (w : World) (ha : 0 ≤ a) (hb : b ≤ 8 * s.size) (hb2 : b ≤ 1073741824) :
    Calls Try.prog 99 #[.agg #[.string s, .int .i64 n], .int .i64 a, .int .i64 b] w fun e w' => e = .returned (.agg #[.string (strOfNums (rowSeq s (b - a).toNat a ([], 0)).1), .int .i64 (rowSeq s (b - a).toNat a ([], 0)).2]) ∧ Below w.heap.size w w' := by
  have hu := Try.underlying27
  have hu2 := Try.underlying116
  have HS := Aside0.mk (start3 w (.cells #[.string s, .int .i64 n] 27) (.cells #[.string ⟨#[]⟩, .int .i64 0] 27) (.cells #[.slice none 0 0, .int .i64 0] 116))
  go_enter Try.func99, Try.ntmps99
  go_wp2
  go_loopw [8] (fun i wr => ∃ (c : Nat) (st : List Int × Int), i = .int .i64 (a + c) ∧ Aside0 (rowSeq s ((b - a).toNat - c) (a + c) st = rowSeq s (b - a).toNat a ([], 0)) ∧ Aside0 (RowIs wr (w.heap.size + 2) (w.heap.size + 2) st.1 st.2) ∧ Aside0 (st.2 = c) ∧ Aside0 ((st.1.length : Int) = (st.2 + 7) / 8) ∧ c ≤ (b - a).toNat ∧ Aside0 (wr.heap[w.heap.size]? = some (.cells #[.string s, .int .i64 n] 27 (0, 0))) ∧ Aside0 (wr.heap[w.heap.size + 1]? = some (.cells #[.string ⟨#[]⟩, .int .i64 0] 27 (0, 0))) ∧ Aside0 (Below w.heap.size w wr))
    (fun i wr => (b - intOf i).toNat)
  case atStart => exact ⟨0, ([], 0), by go_num, ⟨by simp⟩, ⟨⟨_, HS.out.2.2.1, OwnB.nil _ _, Nat.le_refl _⟩⟩, ⟨rfl⟩, ⟨rfl⟩, Nat.zero_le _, ⟨HS.out.1⟩, ⟨HS.out.2.1⟩, ⟨HS.out.2.2.2.1⟩⟩
  case round =>
    obtain ⟨c, ⟨bs, m⟩, rfl, HSEQ, HROW, HM, HLEN, hc, HA, HR, HB⟩ := hrel
    have hm : Aside0 (m = c) := HM
    obtain ⟨a0, a1, g0, g1⟩ := two_cells HA.out
    obtain ⟨c0, c1, f0, f1⟩ := two_cells HR.out
    by_cases hlt : a + c < b
    · have HBIT := Aside0.mk (bit_some s n (a + c) (by omega) (by omega) (by omega))
      have hc2 : (c : Int) < 1073741824 := by omega
      go_wp2_with (first | (go_at_call 100; ((with_reducible refine (bits_bit.calls s n (a + c) (bitOf s (a + c)) _ HBIT.out).mono ?_); rintro e w2 ⟨rfl, hb3⟩); have HROW2 := Aside0.mk (HROW.out.below hb3); have HBB := Aside0.mk hb3; clear hb3) | (go_at_call 89; ((with_reducible refine (row_put1 _ (w.heap.size + 2) (w.heap.size + 2) bs m (bitOf s (a + c)) HROW2.out ?e1 ?e2 ?e3 ?e4).mono ?_); (case e1 => rw [hm.out]; omega); (case e2 => exact HLEN.out); (case e3 => rw [hm.out]; omega); (case e4 => exact Nat.le_trans (by have := blk_lt HR.out; omega) HBB.out.size); rintro e w3 ⟨rfl, hrow3, hb3⟩); have HROW3 := Aside0.mk hrow3; have HB3 := Aside0.mk hb3; clear hrow3 hb3))
      go_roundw
      case rel =>
        refine ⟨c + 1, rowPut 1 (bs, m) (bitOf s (a + c)), by go_num, ⟨?_⟩, ⟨HROW3.out⟩, ⟨?_⟩, ⟨rowPut1_len (bs, m) _ (by rw [hm.out]; omega) HLEN.out⟩, by omega, ⟨keep2 (keep2 HA.out HBB.out (blk_lt HA.out)) HB3.out (by omega)⟩, ⟨keep2 (keep2 HR.out HBB.out (blk_lt HR.out)) HB3.out (by omega)⟩, ⟨(HB.out.trans (HBB.out.mono HB.out.size)).trans (HB3.out.mono (by omega))⟩⟩
        · rw [← HSEQ.out, show (b - a).toNat - c = ((b - a).toNat - (c + 1)) + 1 by omega, rowSeq, show a + ((c + 1 : Nat) : Int) = a + c + 1 by omega]
        · rw [rowPut_snd, hm.out]; rfl
      case measure => simp [intOf]; omega
    · have hcc : c = (b - a).toNat := by omega
      have HE : Aside0 ((bs, m) = rowSeq s (b - a).toNat a ([], 0)) := ⟨by
        have := HSEQ.out
        rw [hcc, Nat.sub_self, rowSeq] at this
        exact this⟩
      clear hcc
      obtain ⟨sv, hblk, hown, hp⟩ := HROW.out
      obtain ⟨b0, b1, k0, k1⟩ := two_cells hblk
      have hst := hown.drew.str
      clear hblk hown hp
      go_wp2
      go_region
      go_wp2
      refine bodyPost_ret (results_cell_row rfl _ _ (w.heap.size + 1) 27 #[.string (strOfNums bs), .int .i64 m] (0, 0) _ rfl (put2 HR.out) Try.underlying27 rfl (by kernel_rfl)) rfl ⟨by rw [← HE.out], below_drew0 (below_put2 HB.out (by omega) _ _)⟩
/-- So many bits of a text from a place on. -/
def partK (s : ByteArray) : Nat → Int → List Int
  | 0, _ => []
  | k + 1, i => bitOf s i :: partK s k (i + 1)
theorem partK_length (s : ByteArray) (k : Nat) : ∀ i, (partK s k i).length = k := by
  induction k with
  | zero => intro i; rfl
  | succ k ih => intro i; simp [partK, ih]
theorem putL_one (b : Int) (h : b = 0 ∨ b = 1) : putL 1 b = [b] := by rcases h with rfl | rfl <;> rfl
theorem rowSeq_pack (s : ByteArray) (k : Nat) : ∀ (i : Int) (l : List Int), IsBits l → rowSeq s k i (packL l, (l.length : Int)) = (packL (l ++ partK s k i), ((l ++ partK s k i).length : Int)) := by
  induction k with
  | zero => intro i l _; simp [rowSeq, partK]
  | succ k ih =>
    intro i l hl
    have hb := bitOf_bit s i
    rw [rowSeq, rowPut_pack 1 _ (by omega) (by omega) l hl, putL_one _ hb, ih (i + 1) _ (hl.append (fun x hx => by rw [List.mem_singleton.1 hx]; exact hb))]
    simp [partK]
/-- bits.Part. -/
def bits_Part.f (s : ByteArray) (n a b : Int) : Option (ByteArray × Int) :=
  if 0 ≤ a ∧ b ≤ 8 * s.size ∧ b ≤ 1073741824 then some (packS (partK s (b - a).toNat a), ((b - a).toNat : Int)) else none
theorem bits_Part.calls (a0_0 : ByteArray) (a0_1 a1 a2 : Int) (r1 : ByteArray) (r2 : Int) (w : World) (h : bits_Part.f a0_0 a0_1 a1 a2 = some (r1, r2)) :
    Calls Try.prog 99 #[.agg #[.string a0_0, .int .i64 a0_1], .int .i64 a1, .int .i64 a2] w fun e w' => e = .returned (.agg #[.string r1, .int .i64 r2]) ∧ Below w.heap.size w w' := by
  unfold bits_Part.f at h
  by_cases hc : 0 ≤ a1 ∧ a2 ≤ 8 * a0_0.size ∧ a2 ≤ 1073741824
  · rw [if_pos hc] at h
    simp only [Option.some.injEq, Prod.mk.injEq] at h
    obtain ⟨rfl, rfl⟩ := h
    have e := part_walk a0_0 a0_1 a1 a2 w hc.1 hc.2.1 hc.2.2
    have hp := rowSeq_pack a0_0 (a2 - a1).toNat a1 [] IsBits.nil
    have h0 : packL [] = [] := rfl
    rw [h0] at hp
    simp only [List.length_nil, List.nil_append, partK_length] at hp
    have hp' : rowSeq a0_0 (a2 - a1).toNat a1 ([], 0) = (packL (partK a0_0 (a2 - a1).toNat a1), (((a2 - a1).toNat : Nat) : Int)) := hp
    rw [hp'] at e
    exact e
  · rw [if_neg hc] at h
    cases h
end Go.Proofs.Ytnpghcikhpglkaa.Q
namespace Go.Proofs.Ytnpghcikhpglkaa.Q
open Go.RowKit Go.Proofs.YtnpghcikhpglkaaW.PrintWords Go.Proofs.YtnpghcikhpglkaaW.PrintLast Go.Proofs.YtnpghcikhpglkaaW.PrintMore
attribute [local go_sem] max2_int min2_int max_two min_two max_three min_three max_four min_four   -- for this text's walks alone
set_option linter.unusedVariables false
set_option linter.unusedSimpArgs false

/-! ### code_log: function 117 -/
def code_log.f (a0 : Int) : Option (Int) := (bits_Len.f (IntKind.u64.wrap (a0))).bind fun t777 => (some (wrap64 (t777 - 1)))
set_option maxHeartbeats 8000000 in
set_option maxRecDepth 100000 in
theorem code_log.calls (a0 : Int) (r : Int) (w : World) (h : code_log.f a0 = some r) :
    Calls Try.prog 117 #[.int .i64 a0] w fun e w' => e = .returned (.int .i64 r) ∧ Drawn0 w w' := by
  have H : ((bits_Len.f (IntKind.u64.wrap (a0))).bind fun t777 => (some (wrap64 (t777 - 1)))) = some r := h
  clear h
  replace H := Option.bind_eq_some_iff.mp H
  obtain ⟨t777, A20, H⟩ := H
  replace H : (some (wrap64 (t777 - 1))) = some r := H
  have A2 := Aside0.mk A20
  clear A20
  obtain rfl := Option.some.inj H
  go_enter Try.func117, Try.ntmps117
  go_wp2_with (first | ((with_reducible refine gate_callee (f := 125) rfl ?_); refine goesL_ (some 5) rfl rfl Try.func125 (by kernel_rfl) rfl #[.int .u64 (IntKind.u64.wrap (a0))] rfl (by (try simp only [List.map_toArray, List.map_cons, List.map_nil]); first | done | rfl | (simp only [List.length_drop, List.length_take]; rfl)) ?_; (with_reducible refine (bits_Len.calls (IntKind.u64.wrap (a0)) t777 _ A2.out).mono ?_); rintro e w' ⟨rfl, ⟨nd, rfl⟩⟩; refine ⟨_, rfl, ?_⟩))
  go_ret
  exact ⟨by first | rfl | (simp; done) | (simp [*]; done), by repeat (first | exact Drawn0.refl _ | apply Drawn0.step)⟩
end Go.Proofs.Ytnpghcikhpglkaa.Q
namespace Go.Proofs.Ytnpghcikhpglkaa.Q
open Go.RowKit Go.Proofs.YtnpghcikhpglkaaW.PrintWords Go.Proofs.YtnpghcikhpglkaaW.PrintLast Go.Proofs.YtnpghcikhpglkaaW.PrintMore Go.Proofs.Ytnpghcikhpglkaa.Hand Go.Proofs.Ytnpghcikhpglkaa.Pu
set_option linter.unusedVariables false
set_option linter.unusedSimpArgs false
/-- A row that holds these bits. -/
structure RowL (W : World) (base p : Nat) (l : List Int) : Prop where mk :: (out : RowIs W base p (packL l) (l.length : Int)) (bits : IsBits l)
theorem put_rowI (W : World) (base p : Nat) (l : List Int) (v k : Int) (hrow : RowL W base p l) (hv : 0 ≤ v) (hv2 : v < 2 ^ 62) (hk : 0 ≤ k) (hbd : (l.length : Int) + k ≤ 1073741824) (hbase : base ≤ W.heap.size) :
    Calls Try.prog 89 #[.pointer (some ⟨p, 0, none⟩), .int .i64 v, .int .i64 k] W fun e w' => e = .returned (.tuple #[]) ∧ RowL w' base p (l ++ putL k.toNat v) ∧ Below base W w' := by
  obtain ⟨k, rfl⟩ := Int.eq_ofNat_of_zero_le hk
  have h := row_put W base p (packL l) (l.length : Int) v k hrow.out (by omega) (by rw [packL_length]; omega) hbd hbase
  rw [rowPut_pack k v hv hv2 l hrow.bits] at h
  refine h.mono fun e w' ⟨h1, h2, h3⟩ => ⟨h1, ⟨h2, hrow.bits.append (putL_bits _ _)⟩, h3⟩
def unaryL (n : Int) : List Int := putL (n - 1).toNat 0 ++ putL 1 1
set_option maxHeartbeats 4000000 in
set_option maxRecDepth 100000 in
theorem lay_unary (W : World) (base p : Nat) (l : List Int) (n : Int) (hrow : RowL W base p l) (hn : 1 ≤ n) (hn2 : n ≤ 1000) (hlen : l.length ≤ 1000000) (hbase : base ≤ W.heap.size) :
    Calls Try.prog 104 #[.pointer (some ⟨p, 0, none⟩), .int .i64 1, .int .i64 n] W fun e w' => e = .returned (.tuple #[]) ∧ RowL w' base p (l ++ unaryL n) ∧ Below base W w' := by
  have HROW := Aside0.mk hrow
  have HB := Aside0.mk (Below.refl base W)
  have HBASE := Aside0.mk hbase
  clear hrow hbase
  go_enter Try.func104, Try.ntmps104
  go_wp2_with (first | (go_at_call 89; ((with_reducible refine (put_rowI _ base p _ _ _ HROW.out ?e1 ?e2 ?e3 ?e4 ?e5).mono ?_); (case e1 => omega); (case e2 => first | decide | omega); (case e3 => omega); (case e4 => first | omega | (simp only [List.length_append, putL_length]; omega)); (case e5 => exact Nat.le_trans HBASE.out HB.out.size); rintro e w3 ⟨rfl, hrow3, hb3⟩); have HB3 := Aside0.mk (HB.out.trans hb3); have HROW3 := Aside0.mk hrow3; clear hrow3 hb3 HROW HB; have HROW := HROW3; have HB := HB3; clear HROW3 HB3))
  go_end0
  exact ⟨rfl, by unfold unaryL; rw [← List.append_assoc]; exact HROW.out, HB.out⟩
theorem rowL_draw {W w' : World} {base p : Nat} {l : List Int} (h : RowL W base p l) (hd : Drawn0 W w') : RowL w' base p l := ⟨h.out.below hd.below, h.bits⟩
theorem below_draw {W W1 w' : World} {base : Nat} (hB : Below base W W1) (hbase : base ≤ W.heap.size) (hd : Drawn0 W1 w') : Below base W w' := hB.trans (hd.below.mono (Nat.le_trans hbase hB.size))
/-- How many bits a number has, less one. -/
def lg (n : Int) : Int := (Lib.bitLen n.toNat : Int) - 1
theorem lg_facts (n : Int) (h0 : 1 ≤ n) (h1 : n ≤ 1073741824) : code_log.f n = some (lg n) ∧ 0 ≤ lg n ∧ lg n ≤ 30 ∧ (2 : Int) ^ (lg n).toNat ≤ n ∧ n < 2 ^ ((lg n).toNat + 1) := by
  obtain ⟨m, rfl⟩ := Int.eq_ofNat_of_zero_le (show 0 ≤ n by omega)
  have hb := Lib.bitLenAux_bounds 64 m (by omega) (by omega)
  have hb1 : 1 ≤ Lib.bitLen m := hb.1
  have hb2 : 2 ^ (Lib.bitLen m - 1) ≤ m := hb.2.1
  have hb3 : m < 2 ^ Lib.bitLen m := hb.2.2
  have hb4 : Lib.bitLen m ≤ 31 := Lib.bitLen_le m 31 (by omega) (by omega)
  have e : lg (m : Int) = ((Lib.bitLen m - 1 : Nat) : Int) := by unfold lg; rw [Int.toNat_natCast]; omega
  refine ⟨?_, by omega, by omega, ?_, ?_⟩
  · unfold code_log.f
    have hw : IntKind.u64.wrap (m : Int) = (m : Int) := by simp [IntKind.wrap, IntKind.bits, IntKind.signed]; omega
    rw [hw]
    unfold bits_Len.f
    rw [if_pos ⟨by omega, by omega⟩, Option.bind_some, Int.toNat_natCast, wrap_in _ (by omega) (by omega)]
    rfl
  · rw [e, Int.toNat_natCast]; exact_mod_cast hb2
  · rw [e, Int.toNat_natCast, show Lib.bitLen m - 1 + 1 = Lib.bitLen m by omega]; exact_mod_cast hb3
def gammaL (n : Int) : List Int := putL (lg n).toNat 0 ++ putL (lg n + 1).toNat n
def deltaL (n : Int) : List Int := gammaL (lg n + 1) ++ putL (lg n).toNat n
theorem gammaL_length (n : Int) : (gammaL n).length = (lg n).toNat + (lg n + 1).toNat := by simp [gammaL, putL_length]
theorem unaryL_length (n : Int) (h : 1 ≤ n) : (unaryL n).length = n.toNat := by simp [unaryL, putL_length]; omega
set_option maxHeartbeats 4000000 in
set_option maxRecDepth 100000 in
theorem lay_gamma (W : World) (base p : Nat) (l : List Int) (n : Int) (hrow : RowL W base p l) (hn : 1 ≤ n) (hn2 : n ≤ 1073741824) (hlen : l.length ≤ 1000000) (hbase : base ≤ W.heap.size) :
    Calls Try.prog 104 #[.pointer (some ⟨p, 0, none⟩), .int .i64 2, .int .i64 n] W fun e w' => e = .returned (.tuple #[]) ∧ RowL w' base p (l ++ gammaL n) ∧ Below base W w' := by
  have HROW := Aside0.mk hrow
  have HB := Aside0.mk (Below.refl base W)
  have HBASE := Aside0.mk hbase
  obtain ⟨hlog, hg0, hg1, _, _⟩ := lg_facts n hn hn2
  have HG : Aside0 (gammaL n = putL (lg n).toNat 0 ++ putL (lg n + 1).toNat n) := ⟨rfl⟩
  generalize lg n = g at *
  have HLOG := Aside0.mk hlog
  clear hrow hbase hlog
  go_enter Try.func104, Try.ntmps104
  go_wp2_with (first | (go_at_call 117; (with_reducible refine (code_log.calls n g _ HLOG.out).mono ?_); rintro e w3 ⟨rfl, hd3⟩; have HROW3 := Aside0.mk (rowL_draw HROW.out hd3); have HB3 := Aside0.mk (below_draw HB.out HBASE.out hd3); clear hd3 HROW HB; have HROW := HROW3; have HB := HB3; clear HROW3 HB3) | (go_at_call 89; ((with_reducible refine (put_rowI _ base p _ _ _ HROW.out ?e1 ?e2 ?e3 ?e4 ?e5).mono ?_); (case e1 => omega); (case e2 => first | decide | omega); (case e3 => omega); (case e4 => first | omega | (simp only [List.length_append, putL_length]; omega)); (case e5 => exact Nat.le_trans HBASE.out HB.out.size); rintro e w3 ⟨rfl, hrow3, hb3⟩); have HB3 := Aside0.mk (HB.out.trans hb3); have HROW3 := Aside0.mk hrow3; clear hrow3 hb3 HROW HB; have HROW := HROW3; have HB := HB3; clear HROW3 HB3))
  go_end0
  exact ⟨rfl, by rw [HG.out, ← List.append_assoc]; exact HROW.out, HB.out⟩
set_option maxHeartbeats 4000000 in
set_option maxRecDepth 100000 in
theorem lay_delta (W : World) (base p : Nat) (l : List Int) (n : Int) (hrow : RowL W base p l) (hn : 1 ≤ n) (hn2 : n ≤ 1073741824) (hlen : l.length ≤ 900000) (hbase : base ≤ W.heap.size) :
    Calls Try.prog 104 #[.pointer (some ⟨p, 0, none⟩), .int .i64 3, .int .i64 n] W fun e w' => e = .returned (.tuple #[]) ∧ RowL w' base p (l ++ deltaL n) ∧ Below base W w' := by
  have HROW := Aside0.mk hrow
  have HB := Aside0.mk (Below.refl base W)
  have HBASE := Aside0.mk hbase
  obtain ⟨hlog, hg0, hg1, _, _⟩ := lg_facts n hn hn2
  have HG : Aside0 (deltaL n = gammaL (lg n + 1) ++ putL (lg n).toNat n) := ⟨rfl⟩
  have HL := gammaL_length (lg n + 1)
  have hgg := (lg_facts (lg n + 1) (by omega) (by omega)).2.2.1
  have hgl : (gammaL (lg n + 1)).length ≤ 100 := by omega
  clear HL hgg
  generalize lg n = g at *
  have HLOG := Aside0.mk hlog
  clear hrow hbase hlog
  go_enter Try.func104, Try.ntmps104
  go_wp2_with (first | (go_at_call 117; (with_reducible refine (code_log.calls n g _ HLOG.out).mono ?_); rintro e w3 ⟨rfl, hd3⟩; have HROW3 := Aside0.mk (rowL_draw HROW.out hd3); have HB3 := Aside0.mk (below_draw HB.out HBASE.out hd3); clear hd3 HROW HB; have HROW := HROW3; have HB := HB3; clear HROW3 HB3) | (go_at_call 104; ((with_reducible refine (lay_gamma _ base p _ _ HROW.out ?e1 ?e2 ?e3 ?e4).mono ?_); (case e1 => omega); (case e2 => omega); (case e3 => first | omega | (simp only [List.length_append, putL_length]; omega)); (case e4 => exact Nat.le_trans HBASE.out HB.out.size); rintro e w3 ⟨rfl, hrow3, hb3⟩); have HB3 := Aside0.mk (HB.out.trans hb3); have HROW3 := Aside0.mk hrow3; clear hrow3 hb3 HROW HB; have HROW := HROW3; have HB := HB3; clear HROW3 HB3) | (go_at_call 89; ((with_reducible refine (put_rowI _ base p _ _ _ HROW.out ?e1 ?e2 ?e3 ?e4 ?e5).mono ?_); (case e1 => omega); (case e2 => first | decide | omega); (case e3 => omega); (case e4 => first | omega | (simp only [List.length_append, putL_length]; omega)); (case e5 => exact Nat.le_trans HBASE.out HB.out.size); rintro e w3 ⟨rfl, hrow3, hb3⟩); have HB3 := Aside0.mk (HB.out.trans hb3); have HROW3 := Aside0.mk hrow3; clear hrow3 hb3 HROW HB; have HROW := HROW3; have HB := HB3; clear HROW3 HB3))
  go_end0
  exact ⟨rfl, by rw [HG.out, ← List.append_assoc]; exact HROW.out, HB.out⟩
theorem parts4 : code_parts.f 4 = some 2 := by decide +kernel
set_option maxHeartbeats 4000000 in
set_option maxRecDepth 100000 in
theorem lay_zeta2 (W : World) (base p : Nat) (l : List Int) (n g low many size short : Int) (c : List Int) (hrow : RowL W base p l) (hn : 1 ≤ n) (hn2 : n ≤ 1073741824) (hlen : l.length ≤ 900000) (hbase : base ≤ W.heap.size)
    (hlog : code_log.f n = some g) (hg0 : 0 ≤ g) (hg1 : g ≤ 30) (hz : code_zeta.f 2 (Int.tdiv g 2) = some (low, many, size, short)) (hlow0 : 0 ≤ low) (hlow : low ≤ n) (hs : 1 ≤ size) (hs2 : size ≤ 64) (hsh0 : 0 ≤ short) (hsh : short ≤ 4611686017353646080)
    (hc : c = unaryL (Int.tdiv g 2 + 1) ++ (if n - low < short then putL (size - 1).toNat (n - low) else putL size.toNat (n - low + short))) :
    Calls Try.prog 104 #[.pointer (some ⟨p, 0, none⟩), .int .i64 4, .int .i64 n] W fun e w' => e = .returned (.tuple #[]) ∧ RowL w' base p (l ++ c) ∧ Below base W w' := by
  have HROW := Aside0.mk hrow
  have HB := Aside0.mk (Below.refl base W)
  have HBASE := Aside0.mk hbase
  have HLOG := Aside0.mk hlog
  have HZ := Aside0.mk hz
  have HC := Aside0.mk hc
  have HP := Aside0.mk parts4
  have hh0 : 0 ≤ Int.tdiv g 2 ∧ Int.tdiv g 2 ≤ 30 := by rw [Int.tdiv_eq_ediv_of_nonneg hg0]; omega
  have hul : (unaryL (Int.tdiv g 2 + 1)).length ≤ 100 := by rw [unaryL_length _ (by omega)]; omega
  clear hrow hbase hlog hz hc
  by_cases hlt : n - low < short
  · have HC2 := Aside0.mk (HC.out.trans (by rw [if_pos hlt]))
    go_enter Try.func104, Try.ntmps104
    go_wp2_with (first | (go_at_call 117; (with_reducible refine (code_log.calls n g _ HLOG.out).mono ?_); rintro e w3 ⟨rfl, hd3⟩; have HROW3 := Aside0.mk (rowL_draw HROW.out hd3); have HB3 := Aside0.mk (below_draw HB.out HBASE.out hd3); clear hd3 HROW HB; have HROW := HROW3; have HB := HB3; clear HROW3 HB3) | (go_at_call 118; (with_reducible refine (code_parts.calls 4 2 _ HP.out).mono ?_); rintro e w3 ⟨rfl, hd3⟩; have HROW3 := Aside0.mk (rowL_draw HROW.out hd3); have HB3 := Aside0.mk (below_draw HB.out HBASE.out hd3); clear hd3 HROW HB; have HROW := HROW3; have HB := HB3; clear HROW3 HB3) | (go_at_call 119; (with_reducible refine (code_zeta.calls 2 (Int.tdiv g 2) low many size short _ HZ.out).mono ?_); rintro e w3 ⟨rfl, hd3⟩; have HROW3 := Aside0.mk (rowL_draw HROW.out hd3); have HB3 := Aside0.mk (below_draw HB.out HBASE.out hd3); clear hd3 HROW HB; have HROW := HROW3; have HB := HB3; clear HROW3 HB3) | (go_at_call 104; ((with_reducible refine (lay_unary _ base p _ _ HROW.out ?e1 ?e2 ?e3 ?e4).mono ?_); (case e1 => omega); (case e2 => omega); (case e3 => first | omega | (simp only [List.length_append, putL_length]; omega)); (case e4 => exact Nat.le_trans HBASE.out HB.out.size); rintro e w3 ⟨rfl, hrow3, hb3⟩); have HB3 := Aside0.mk (HB.out.trans hb3); have HROW3 := Aside0.mk hrow3; clear hrow3 hb3 HROW HB; have HROW := HROW3; have HB := HB3; clear HROW3 HB3) | (go_at_call 89; ((with_reducible refine (put_rowI _ base p _ _ _ HROW.out ?e1 ?e2 ?e3 ?e4 ?e5).mono ?_); (case e1 => omega); (case e2 => first | decide | omega); (case e3 => omega); (case e4 => first | omega | (simp only [List.length_append, putL_length]; omega)); (case e5 => exact Nat.le_trans HBASE.out HB.out.size); rintro e w3 ⟨rfl, hrow3, hb3⟩); have HB3 := Aside0.mk (HB.out.trans hb3); have HROW3 := Aside0.mk hrow3; clear hrow3 hb3 HROW HB; have HROW := HROW3; have HB := HB3; clear HROW3 HB3))
    go_end0
    exact ⟨rfl, by rw [HC2.out, ← List.append_assoc]; exact HROW.out, HB.out⟩
  · have HC2 := Aside0.mk (HC.out.trans (by rw [if_neg hlt]))
    go_enter Try.func104, Try.ntmps104
    go_wp2_with (first | (go_at_call 117; (with_reducible refine (code_log.calls n g _ HLOG.out).mono ?_); rintro e w3 ⟨rfl, hd3⟩; have HROW3 := Aside0.mk (rowL_draw HROW.out hd3); have HB3 := Aside0.mk (below_draw HB.out HBASE.out hd3); clear hd3 HROW HB; have HROW := HROW3; have HB := HB3; clear HROW3 HB3) | (go_at_call 118; (with_reducible refine (code_parts.calls 4 2 _ HP.out).mono ?_); rintro e w3 ⟨rfl, hd3⟩; have HROW3 := Aside0.mk (rowL_draw HROW.out hd3); have HB3 := Aside0.mk (below_draw HB.out HBASE.out hd3); clear hd3 HROW HB; have HROW := HROW3; have HB := HB3; clear HROW3 HB3) | (go_at_call 119; (with_reducible refine (code_zeta.calls 2 (Int.tdiv g 2) low many size short _ HZ.out).mono ?_); rintro e w3 ⟨rfl, hd3⟩; have HROW3 := Aside0.mk (rowL_draw HROW.out hd3); have HB3 := Aside0.mk (below_draw HB.out HBASE.out hd3); clear hd3 HROW HB; have HROW := HROW3; have HB := HB3; clear HROW3 HB3) | (go_at_call 104; ((with_reducible refine (lay_unary _ base p _ _ HROW.out ?e1 ?e2 ?e3 ?e4).mono ?_); (case e1 => omega); (case e2 => omega); (case e3 => first | omega | (simp only [List.length_append, putL_length]; omega)); (case e4 => exact Nat.le_trans HBASE.out HB.out.size); rintro e w3 ⟨rfl, hrow3, hb3⟩); have HB3 := Aside0.mk (HB.out.trans hb3); have HROW3 := Aside0.mk hrow3; clear hrow3 hb3 HROW HB; have HROW := HROW3; have HB := HB3; clear HROW3 HB3) | (go_at_call 89; ((with_reducible refine (put_rowI _ base p _ _ _ HROW.out ?e1 ?e2 ?e3 ?e4 ?e5).mono ?_); (case e1 => omega); (case e2 => first | decide | omega); (case e3 => omega); (case e4 => first | omega | (simp only [List.length_append, putL_length]; omega)); (case e5 => exact Nat.le_trans HBASE.out HB.out.size); rintro e w3 ⟨rfl, hrow3, hb3⟩); have HB3 := Aside0.mk (HB.out.trans hb3); have HROW3 := Aside0.mk hrow3; clear hrow3 hb3 HROW HB; have HROW := HROW3; have HB := HB3; clear HROW3 HB3))
    go_end0
    exact ⟨rfl, by rw [HC2.out, ← List.append_assoc]; exact HROW.out, HB.out⟩
theorem parts5 : code_parts.f 5 = some 3 := by decide +kernel
set_option maxHeartbeats 4000000 in
set_option maxRecDepth 100000 in
theorem lay_zeta3 (W : World) (base p : Nat) (l : List Int) (n g low many size short : Int) (c : List Int) (hrow : RowL W base p l) (hn : 1 ≤ n) (hn2 : n ≤ 1073741824) (hlen : l.length ≤ 900000) (hbase : base ≤ W.heap.size)
    (hlog : code_log.f n = some g) (hg0 : 0 ≤ g) (hg1 : g ≤ 30) (hz : code_zeta.f 3 (Int.tdiv g 3) = some (low, many, size, short)) (hlow0 : 0 ≤ low) (hlow : low ≤ n) (hs : 1 ≤ size) (hs2 : size ≤ 64) (hsh0 : 0 ≤ short) (hsh : short ≤ 4611686017353646080)
    (hc : c = unaryL (Int.tdiv g 3 + 1) ++ (if n - low < short then putL (size - 1).toNat (n - low) else putL size.toNat (n - low + short))) :
    Calls Try.prog 104 #[.pointer (some ⟨p, 0, none⟩), .int .i64 5, .int .i64 n] W fun e w' => e = .returned (.tuple #[]) ∧ RowL w' base p (l ++ c) ∧ Below base W w' := by
  have HROW := Aside0.mk hrow
  have HB := Aside0.mk (Below.refl base W)
  have HBASE := Aside0.mk hbase
  have HLOG := Aside0.mk hlog
  have HZ := Aside0.mk hz
  have HC := Aside0.mk hc
  have HP := Aside0.mk parts5
  have hh0 : 0 ≤ Int.tdiv g 3 ∧ Int.tdiv g 3 ≤ 30 := by rw [Int.tdiv_eq_ediv_of_nonneg hg0]; omega
  have hul : (unaryL (Int.tdiv g 3 + 1)).length ≤ 100 := by rw [unaryL_length _ (by omega)]; omega
  clear hrow hbase hlog hz hc
  by_cases hlt : n - low < short
  · have HC2 := Aside0.mk (HC.out.trans (by rw [if_pos hlt]))
    go_enter Try.func104, Try.ntmps104
    go_wp2_with (first | (go_at_call 117; (with_reducible refine (code_log.calls n g _ HLOG.out).mono ?_); rintro e w3 ⟨rfl, hd3⟩; have HROW3 := Aside0.mk (rowL_draw HROW.out hd3); have HB3 := Aside0.mk (below_draw HB.out HBASE.out hd3); clear hd3 HROW HB; have HROW := HROW3; have HB := HB3; clear HROW3 HB3) | (go_at_call 118; (with_reducible refine (code_parts.calls 5 3 _ HP.out).mono ?_); rintro e w3 ⟨rfl, hd3⟩; have HROW3 := Aside0.mk (rowL_draw HROW.out hd3); have HB3 := Aside0.mk (below_draw HB.out HBASE.out hd3); clear hd3 HROW HB; have HROW := HROW3; have HB := HB3; clear HROW3 HB3) | (go_at_call 119; (with_reducible refine (code_zeta.calls 3 (Int.tdiv g 3) low many size short _ HZ.out).mono ?_); rintro e w3 ⟨rfl, hd3⟩; have HROW3 := Aside0.mk (rowL_draw HROW.out hd3); have HB3 := Aside0.mk (below_draw HB.out HBASE.out hd3); clear hd3 HROW HB; have HROW := HROW3; have HB := HB3; clear HROW3 HB3) | (go_at_call 104; ((with_reducible refine (lay_unary _ base p _ _ HROW.out ?e1 ?e2 ?e3 ?e4).mono ?_); (case e1 => omega); (case e2 => omega); (case e3 => first | omega | (simp only [List.length_append, putL_length]; omega)); (case e4 => exact Nat.le_trans HBASE.out HB.out.size); rintro e w3 ⟨rfl, hrow3, hb3⟩); have HB3 := Aside0.mk (HB.out.trans hb3); have HROW3 := Aside0.mk hrow3; clear hrow3 hb3 HROW HB; have HROW := HROW3; have HB := HB3; clear HROW3 HB3) | (go_at_call 89; ((with_reducible refine (put_rowI _ base p _ _ _ HROW.out ?e1 ?e2 ?e3 ?e4 ?e5).mono ?_); (case e1 => omega); (case e2 => first | decide | omega); (case e3 => omega); (case e4 => first | omega | (simp only [List.length_append, putL_length]; omega)); (case e5 => exact Nat.le_trans HBASE.out HB.out.size); rintro e w3 ⟨rfl, hrow3, hb3⟩); have HB3 := Aside0.mk (HB.out.trans hb3); have HROW3 := Aside0.mk hrow3; clear hrow3 hb3 HROW HB; have HROW := HROW3; have HB := HB3; clear HROW3 HB3))
    go_end0
    exact ⟨rfl, by rw [HC2.out, ← List.append_assoc]; exact HROW.out, HB.out⟩
  · have HC2 := Aside0.mk (HC.out.trans (by rw [if_neg hlt]))
    go_enter Try.func104, Try.ntmps104
    go_wp2_with (first | (go_at_call 117; (with_reducible refine (code_log.calls n g _ HLOG.out).mono ?_); rintro e w3 ⟨rfl, hd3⟩; have HROW3 := Aside0.mk (rowL_draw HROW.out hd3); have HB3 := Aside0.mk (below_draw HB.out HBASE.out hd3); clear hd3 HROW HB; have HROW := HROW3; have HB := HB3; clear HROW3 HB3) | (go_at_call 118; (with_reducible refine (code_parts.calls 5 3 _ HP.out).mono ?_); rintro e w3 ⟨rfl, hd3⟩; have HROW3 := Aside0.mk (rowL_draw HROW.out hd3); have HB3 := Aside0.mk (below_draw HB.out HBASE.out hd3); clear hd3 HROW HB; have HROW := HROW3; have HB := HB3; clear HROW3 HB3) | (go_at_call 119; (with_reducible refine (code_zeta.calls 3 (Int.tdiv g 3) low many size short _ HZ.out).mono ?_); rintro e w3 ⟨rfl, hd3⟩; have HROW3 := Aside0.mk (rowL_draw HROW.out hd3); have HB3 := Aside0.mk (below_draw HB.out HBASE.out hd3); clear hd3 HROW HB; have HROW := HROW3; have HB := HB3; clear HROW3 HB3) | (go_at_call 104; ((with_reducible refine (lay_unary _ base p _ _ HROW.out ?e1 ?e2 ?e3 ?e4).mono ?_); (case e1 => omega); (case e2 => omega); (case e3 => first | omega | (simp only [List.length_append, putL_length]; omega)); (case e4 => exact Nat.le_trans HBASE.out HB.out.size); rintro e w3 ⟨rfl, hrow3, hb3⟩); have HB3 := Aside0.mk (HB.out.trans hb3); have HROW3 := Aside0.mk hrow3; clear hrow3 hb3 HROW HB; have HROW := HROW3; have HB := HB3; clear HROW3 HB3) | (go_at_call 89; ((with_reducible refine (put_rowI _ base p _ _ _ HROW.out ?e1 ?e2 ?e3 ?e4 ?e5).mono ?_); (case e1 => omega); (case e2 => first | decide | omega); (case e3 => omega); (case e4 => first | omega | (simp only [List.length_append, putL_length]; omega)); (case e5 => exact Nat.le_trans HBASE.out HB.out.size); rintro e w3 ⟨rfl, hrow3, hb3⟩); have HB3 := Aside0.mk (HB.out.trans hb3); have HROW3 := Aside0.mk hrow3; clear hrow3 hb3 HROW HB; have HROW := HROW3; have HB := HB3; clear HROW3 HB3))
    go_end0
    exact ⟨rfl, by rw [HC2.out, ← List.append_assoc]; exact HROW.out, HB.out⟩
end Go.Proofs.Ytnpghcikhpglkaa.Q
namespace Go.Proofs.Ytnpghcikhpglkaa.Q
open Go.RowKit Go.Proofs.YtnpghcikhpglkaaW.PrintWords Go.Proofs.YtnpghcikhpglkaaW.PrintLast Go.Proofs.YtnpghcikhpglkaaW.PrintMore Go.Proofs.Ytnpghcikhpglkaa.Hand Go.Proofs.Ytnpghcikhpglkaa.Pu
set_option linter.unusedVariables false
set_option linter.unusedSimpArgs false
theorem rowL_from {W : World} {base p : Nat} {s : ByteArray} {n : Int} (hm : MayP s n) (h : RowIs W base p (bytesI s) n) : RowL W base p (ofS s n) := by
  refine ⟨?_, ofS_bits s n⟩
  rw [pack_ofS s n hm, ofS_length, Int.toNat_of_nonneg hm.1]
  exact h
/-- What laying a number's code does. -/
@[reducible] def LayP (kind v : Int) (c : List Int) : Prop := ∀ (W : World) (base p : Nat) (l : List Int), RowL W base p l → l.length ≤ 6000 → base ≤ W.heap.size →
    Calls Try.prog 104 #[.pointer (some ⟨p, 0, none⟩), .int .i64 kind, .int .i64 v] W fun e w' => e = .returned (.tuple #[]) ∧ RowL w' base p (l ++ c) ∧ Below base W w'
set_option maxHeartbeats 4000000 in
set_option maxRecDepth 100000 in
theorem cput_no1 (s : ByteArray) (n kind v : Int) (w : World) (hm : ¬ MayP s n) :
    Calls Try.prog 58 #[.agg #[.string s, .int .i64 n], .int .i64 kind, .int .i64 v] w fun e w' => e = .returned (.tuple #[.agg #[.string ⟨#[]⟩, .int .i64 0], .int .i64 1]) ∧ Below w.heap.size w w' := by
  have hu := Try.underlying27
  have HS := Aside0.mk (start2 w (.cells #[.string s, .int .i64 n] 27) (.cells #[.string ⟨#[]⟩, .int .i64 0] 27))
  have HA := Aside0.mk HS.out.1
  have HR := Aside0.mk HS.out.2.1
  have HB := Aside0.mk HS.out.2.2.1
  clear HS
  have A := Aside0.mk (show bits_May.f s n = some false by rw [may_eq, decide_eq_false hm])
  clear hm
  go_enter Try.func58, Try.ntmps58
  go_wp2_with (first | ((with_reducible refine gate_callee (f := 86) rfl ?_); refine goesL_ (some 10) rfl rfl Try.func86 (by kernel_rfl) rfl #[.agg #[.string s, .int .i64 n]] rfl (by (try simp only [List.map_toArray, List.map_cons, List.map_nil]); first | done | rfl) ?_; (with_reducible refine (bits_May.calls s n false _ A.out).mono ?_); rintro e w3 ⟨rfl, hb3⟩; refine ⟨_, rfl, ?_⟩; have HAA := Aside0.mk (keep2 HA.out hb3 (blk_lt HA.out)); have HRR := Aside0.mk (keep2 HR.out hb3 (blk_lt HR.out)); have HBB := Aside0.mk (below_then HB.out HB.out.size hb3); (try clear a0 a1 g0 g1 c0 c1 f0 f1); clear HA HR HB; have HA := HAA; have HR := HRR; have HB := HBB; clear HAA HRR HBB; obtain ⟨a0, a1, g0, g1⟩ := two_cells HA.out; obtain ⟨c0, c1, f0, f1⟩ := two_cells HR.out; clear hb3))
  refine bodyPost_ret (results_list (rs := [.cell 6 27, .tmp 7]) rfl (by simp) (.cell (w.heap.size + 1) 27 #[.string ⟨#[]⟩, .int .i64 0] (0, 0) _ rfl (put2 HR.out) Try.underlying27 rfl (by kernel_rfl) (.tmp .nil))) rfl ⟨rfl, below_put2 HB.out (by omega) _ _⟩
set_option maxHeartbeats 4000000 in
set_option maxRecDepth 100000 in
theorem cput_no2 (s : ByteArray) (n kind v : Int) (w : World) (hm : MayP s n) (hi : code_Is.f kind = some false) :
    Calls Try.prog 58 #[.agg #[.string s, .int .i64 n], .int .i64 kind, .int .i64 v] w fun e w' => e = .returned (.tuple #[.agg #[.string ⟨#[]⟩, .int .i64 0], .int .i64 1]) ∧ Below w.heap.size w w' := by
  have hu := Try.underlying27
  have HS := Aside0.mk (start2 w (.cells #[.string s, .int .i64 n] 27) (.cells #[.string ⟨#[]⟩, .int .i64 0] 27))
  have HA := Aside0.mk HS.out.1
  have HR := Aside0.mk HS.out.2.1
  have HB := Aside0.mk HS.out.2.2.1
  clear HS
  have A := Aside0.mk (show bits_May.f s n = some true by rw [may_eq, decide_eq_true hm])
  have AI := Aside0.mk hi
  clear hm hi
  go_enter Try.func58, Try.ntmps58
  go_wp2_with (first | ((with_reducible refine gate_callee (f := 86) rfl ?_); refine goesL_ (some 10) rfl rfl Try.func86 (by kernel_rfl) rfl #[.agg #[.string s, .int .i64 n]] rfl (by (try simp only [List.map_toArray, List.map_cons, List.map_nil]); first | done | rfl) ?_; (with_reducible refine (bits_May.calls s n true _ A.out).mono ?_); rintro e w3 ⟨rfl, hb3⟩; refine ⟨_, rfl, ?_⟩; have HAA := Aside0.mk (keep2 HA.out hb3 (blk_lt HA.out)); have HRR := Aside0.mk (keep2 HR.out hb3 (blk_lt HR.out)); have HBB := Aside0.mk (below_then HB.out HB.out.size hb3); (try clear a0 a1 g0 g1 c0 c1 f0 f1); clear HA HR HB; have HA := HAA; have HR := HRR; have HB := HBB; clear HAA HRR HBB; obtain ⟨a0, a1, g0, g1⟩ := two_cells HA.out; obtain ⟨c0, c1, f0, f1⟩ := two_cells HR.out; clear hb3) | (go_at_call 102; ((with_reducible refine (code_Is.calls kind false _ AI.out).mono ?_); rintro e w3 ⟨rfl, hd3⟩); have hb3 := hd3.below; clear hd3; have HAA := Aside0.mk (keep2 HA.out hb3 (blk_lt HA.out)); have HRR := Aside0.mk (keep2 HR.out hb3 (blk_lt HR.out)); have HBB := Aside0.mk (below_then HB.out HB.out.size hb3); (try clear a0 a1 g0 g1 c0 c1 f0 f1); clear HA HR HB; have HA := HAA; have HR := HRR; have HB := HBB; clear HAA HRR HBB; obtain ⟨a0, a1, g0, g1⟩ := two_cells HA.out; obtain ⟨c0, c1, f0, f1⟩ := two_cells HR.out; clear hb3))
  refine bodyPost_ret (results_list (rs := [.cell 6 27, .tmp 7]) rfl (by simp) (.cell (w.heap.size + 1) 27 #[.string ⟨#[]⟩, .int .i64 0] (0, 0) _ rfl (put2 HR.out) Try.underlying27 rfl (by kernel_rfl) (.tmp .nil))) rfl ⟨rfl, below_put2 HB.out (by omega) _ _⟩
set_option maxHeartbeats 4000000 in
set_option maxRecDepth 100000 in
theorem cput_no3 (s : ByteArray) (n kind v : Int) (w : World) (hm : MayP s n) (hi : code_Is.f kind = some true) (hv : code_number.f kind v = some false) :
    Calls Try.prog 58 #[.agg #[.string s, .int .i64 n], .int .i64 kind, .int .i64 v] w fun e w' => e = .returned (.tuple #[.agg #[.string ⟨#[]⟩, .int .i64 0], .int .i64 1]) ∧ Below w.heap.size w w' := by
  have hu := Try.underlying27
  have HS := Aside0.mk (start2 w (.cells #[.string s, .int .i64 n] 27) (.cells #[.string ⟨#[]⟩, .int .i64 0] 27))
  have HA := Aside0.mk HS.out.1
  have HR := Aside0.mk HS.out.2.1
  have HB := Aside0.mk HS.out.2.2.1
  clear HS
  have A := Aside0.mk (show bits_May.f s n = some true by rw [may_eq, decide_eq_true hm])
  have AI := Aside0.mk hi
  have AN := Aside0.mk hv
  clear hm hi hv
  go_enter Try.func58, Try.ntmps58
  go_wp2_with (first | ((with_reducible refine gate_callee (f := 86) rfl ?_); refine goesL_ (some 10) rfl rfl Try.func86 (by kernel_rfl) rfl #[.agg #[.string s, .int .i64 n]] rfl (by (try simp only [List.map_toArray, List.map_cons, List.map_nil]); first | done | rfl) ?_; (with_reducible refine (bits_May.calls s n true _ A.out).mono ?_); rintro e w3 ⟨rfl, hb3⟩; refine ⟨_, rfl, ?_⟩; have HAA := Aside0.mk (keep2 HA.out hb3 (blk_lt HA.out)); have HRR := Aside0.mk (keep2 HR.out hb3 (blk_lt HR.out)); have HBB := Aside0.mk (below_then HB.out HB.out.size hb3); (try clear a0 a1 g0 g1 c0 c1 f0 f1); clear HA HR HB; have HA := HAA; have HR := HRR; have HB := HBB; clear HAA HRR HBB; obtain ⟨a0, a1, g0, g1⟩ := two_cells HA.out; obtain ⟨c0, c1, f0, f1⟩ := two_cells HR.out; clear hb3) | (go_at_call 102; ((with_reducible refine (code_Is.calls kind true _ AI.out).mono ?_); rintro e w3 ⟨rfl, hd3⟩); have hb3 := hd3.below; clear hd3; have HAA := Aside0.mk (keep2 HA.out hb3 (blk_lt HA.out)); have HRR := Aside0.mk (keep2 HR.out hb3 (blk_lt HR.out)); have HBB := Aside0.mk (below_then HB.out HB.out.size hb3); (try clear a0 a1 g0 g1 c0 c1 f0 f1); clear HA HR HB; have HA := HAA; have HR := HRR; have HB := HBB; clear HAA HRR HBB; obtain ⟨a0, a1, g0, g1⟩ := two_cells HA.out; obtain ⟨c0, c1, f0, f1⟩ := two_cells HR.out; clear hb3) | (go_at_call 103; ((with_reducible refine (code_number.calls kind v false _ AN.out).mono ?_); rintro e w3 ⟨rfl, hd3⟩); have hb3 := hd3.below; clear hd3; have HAA := Aside0.mk (keep2 HA.out hb3 (blk_lt HA.out)); have HRR := Aside0.mk (keep2 HR.out hb3 (blk_lt HR.out)); have HBB := Aside0.mk (below_then HB.out HB.out.size hb3); (try clear a0 a1 g0 g1 c0 c1 f0 f1); clear HA HR HB; have HA := HAA; have HR := HRR; have HB := HBB; clear HAA HRR HBB; obtain ⟨a0, a1, g0, g1⟩ := two_cells HA.out; obtain ⟨c0, c1, f0, f1⟩ := two_cells HR.out; clear hb3))
  refine bodyPost_ret (results_list (rs := [.cell 6 27, .tmp 7]) rfl (by simp) (.cell (w.heap.size + 1) 27 #[.string ⟨#[]⟩, .int .i64 0] (0, 0) _ rfl (put2 HR.out) Try.underlying27 rfl (by kernel_rfl) (.tmp .nil))) rfl ⟨rfl, below_put2 HB.out (by omega) _ _⟩
set_option maxHeartbeats 4000000 in
set_option maxRecDepth 100000 in
theorem cput_yes (s : ByteArray) (n kind v : Int) (c : List Int) (m : Int) (w : World) (hmm : ((ofS s n ++ c).length : Int) = m) (hm : MayP s n) (hi : code_Is.f kind = some true) (hv : code_number.f kind v = some true) (hlay : LayP kind v c) (hle : m ≤ 6000) :
    Calls Try.prog 58 #[.agg #[.string s, .int .i64 n], .int .i64 kind, .int .i64 v] w fun e w' => e = .returned (.tuple #[.agg #[.string (packS (ofS s n ++ c)), .int .i64 m], .int .i64 0]) ∧ Below w.heap.size w w' := by
  have hu := Try.underlying27
  have HS := Aside0.mk (start2 w (.cells #[.string s, .int .i64 n] 27) (.cells #[.string ⟨#[]⟩, .int .i64 0] 27))
  have HA := Aside0.mk HS.out.1
  have HR := Aside0.mk HS.out.2.1
  have HB := Aside0.mk HS.out.2.2.1
  clear HS
  have A := Aside0.mk (show bits_May.f s n = some true by rw [may_eq, decide_eq_true hm])
  have AI := Aside0.mk hi
  have AN := Aside0.mk hv
  have HLAY := Aside0.mk hlay
  have HLE := Aside0.mk hle
  have HM := Aside0.mk hm
  have HMM := Aside0.mk hmm
  have HLEN : Aside0 ((ofS s n).length ≤ 6000) := ⟨by rw [ofS_length]; have := hm.2.1; omega⟩
  have hsz : s.size ≤ 1073741824 := by have := hm.2.2.1; have := hm.2.1; omega
  clear hm hi hv hlay hle hmm
  go_enter Try.func58, Try.ntmps58
  go_wp2_with (first | ((with_reducible refine gate_callee (f := 86) rfl ?_); refine goesL_ (some 10) rfl rfl Try.func86 (by kernel_rfl) rfl #[.agg #[.string s, .int .i64 n]] rfl (by (try simp only [List.map_toArray, List.map_cons, List.map_nil]); first | done | rfl) ?_; (with_reducible refine (bits_May.calls s n true _ A.out).mono ?_); rintro e w3 ⟨rfl, hb3⟩; refine ⟨_, rfl, ?_⟩; have HAA := Aside0.mk (keep2 HA.out hb3 (blk_lt HA.out)); have HRR := Aside0.mk (keep2 HR.out hb3 (blk_lt HR.out)); have HBB := Aside0.mk (below_then HB.out HB.out.size hb3); (try clear a0 a1 g0 g1 c0 c1 f0 f1); clear HA HR HB; have HA := HAA; have HR := HRR; have HB := HBB; clear HAA HRR HBB; obtain ⟨a0, a1, g0, g1⟩ := two_cells HA.out; obtain ⟨c0, c1, f0, f1⟩ := two_cells HR.out; clear hb3) | (go_at_call 102; ((with_reducible refine (code_Is.calls kind true _ AI.out).mono ?_); rintro e w3 ⟨rfl, hd3⟩); have hb3 := hd3.below; clear hd3; have HAA := Aside0.mk (keep2 HA.out hb3 (blk_lt HA.out)); have HRR := Aside0.mk (keep2 HR.out hb3 (blk_lt HR.out)); have HBB := Aside0.mk (below_then HB.out HB.out.size hb3); (try clear a0 a1 g0 g1 c0 c1 f0 f1); clear HA HR HB; have HA := HAA; have HR := HRR; have HB := HBB; clear HAA HRR HBB; obtain ⟨a0, a1, g0, g1⟩ := two_cells HA.out; obtain ⟨c0, c1, f0, f1⟩ := two_cells HR.out; clear hb3) | (go_at_call 103; ((with_reducible refine (code_number.calls kind v true _ AN.out).mono ?_); rintro e w3 ⟨rfl, hd3⟩); have hb3 := hd3.below; clear hd3; have HAA := Aside0.mk (keep2 HA.out hb3 (blk_lt HA.out)); have HRR := Aside0.mk (keep2 HR.out hb3 (blk_lt HR.out)); have HBB := Aside0.mk (below_then HB.out HB.out.size hb3); (try clear a0 a1 g0 g1 c0 c1 f0 f1); clear HA HR HB; have HA := HAA; have HR := HRR; have HB := HBB; clear HAA HRR HBB; obtain ⟨a0, a1, g0, g1⟩ := two_cells HA.out; obtain ⟨c0, c1, f0, f1⟩ := two_cells HR.out; clear hb3) | (go_at_call 88; have HBASE := Aside0.mk (blk_lt HR.out); ((with_reducible refine (from_ _ s n hsz).mono ?_); rintro e w3 ⟨p, rfl, hrow, hb3⟩); have HROW := Aside0.mk (rowL_from HM.out hrow); have HZ := Aside0.mk hb3.size; clear hrow; have HAA := Aside0.mk (keep2 HA.out hb3 (blk_lt HA.out)); have HRR := Aside0.mk (keep2 HR.out hb3 (blk_lt HR.out)); have HBB := Aside0.mk (below_then HB.out HB.out.size hb3); (try clear a0 a1 g0 g1 c0 c1 f0 f1); clear HA HR HB; have HA := HAA; have HR := HRR; have HB := HBB; clear HAA HRR HBB; obtain ⟨a0, a1, g0, g1⟩ := two_cells HA.out; obtain ⟨c0, c1, f0, f1⟩ := two_cells HR.out; clear hb3) | (go_at_call 104; ((with_reducible refine (HLAY.out _ _ p _ HROW.out HLEN.out HZ.out).mono ?_); rintro e w3 ⟨rfl, hrow3, hb3⟩); have HROW3 := Aside0.mk hrow3; have HAA := Aside0.mk (keep2 HA.out hb3 (Nat.lt_of_succ_lt HBASE.out)); have HRR := Aside0.mk (keep2 HR.out hb3 HBASE.out); have HBB := Aside0.mk (HB.out.trans (hb3.mono (Nat.le_of_lt (Nat.lt_of_succ_lt HBASE.out)))); clear a0 a1 g0 g1 c0 c1 f0 f1; clear HA HR HB hrow3 hb3 HROW; have HA := HAA; have HR := HRR; have HB := HBB; clear HAA HRR HBB; obtain ⟨a0, a1, g0, g1⟩ := two_cells HA.out; obtain ⟨c0, c1, f0, f1⟩ := two_cells HR.out))
  go_wp2_with (first | (go_at_call 90; ((with_reducible refine (row_bits_yes _ _ p _ m (HMM.out ▸ HROW3.out.out) HLE.out).mono ?_); rintro e w3 ⟨rfl, hb3⟩); have HAA := Aside0.mk (keep2 HA.out hb3 (blk_lt HA.out)); have HRR := Aside0.mk (keep2 HR.out hb3 (blk_lt HR.out)); have HBB := Aside0.mk (below_then HB.out HB.out.size hb3); (try clear a0 a1 g0 g1 c0 c1 f0 f1); clear HA HR HB; have HA := HAA; have HR := HRR; have HB := HBB; clear HAA HRR HBB; obtain ⟨a0, a1, g0, g1⟩ := two_cells HA.out; obtain ⟨c0, c1, f0, f1⟩ := two_cells HR.out; clear hb3))
  refine bodyPost_ret (results_list (rs := [.cell 6 27, .tmp 7]) rfl (by simp) (.cell (w.heap.size + 1) 27 #[.string (strOfNums (packL (ofS s n ++ c))), .int .i64 m] (0, 0) _ rfl (put2 HR.out) Try.underlying27 rfl (by kernel_rfl) (.tmp .nil))) rfl ⟨rfl, below_put2 HB.out (by omega) _ _⟩
set_option maxHeartbeats 4000000 in
set_option maxRecDepth 100000 in
theorem cput_no (s : ByteArray) (n kind v : Int) (c : List Int) (m : Int) (w : World) (hmm : ((ofS s n ++ c).length : Int) = m) (hm : MayP s n) (hi : code_Is.f kind = some true) (hv : code_number.f kind v = some true) (hlay : LayP kind v c) (hle : 6000 < m) :
    Calls Try.prog 58 #[.agg #[.string s, .int .i64 n], .int .i64 kind, .int .i64 v] w fun e w' => e = .returned (.tuple #[.agg #[.string ⟨#[]⟩, .int .i64 0], .int .i64 2]) ∧ Below w.heap.size w w' := by
  have hu := Try.underlying27
  have HS := Aside0.mk (start2 w (.cells #[.string s, .int .i64 n] 27) (.cells #[.string ⟨#[]⟩, .int .i64 0] 27))
  have HA := Aside0.mk HS.out.1
  have HR := Aside0.mk HS.out.2.1
  have HB := Aside0.mk HS.out.2.2.1
  clear HS
  have A := Aside0.mk (show bits_May.f s n = some true by rw [may_eq, decide_eq_true hm])
  have AI := Aside0.mk hi
  have AN := Aside0.mk hv
  have HLAY := Aside0.mk hlay
  have HLE := Aside0.mk hle
  have HM := Aside0.mk hm
  have HMM := Aside0.mk hmm
  have HLEN : Aside0 ((ofS s n).length ≤ 6000) := ⟨by rw [ofS_length]; have := hm.2.1; omega⟩
  have hsz : s.size ≤ 1073741824 := by have := hm.2.2.1; have := hm.2.1; omega
  clear hm hi hv hlay hle hmm
  go_enter Try.func58, Try.ntmps58
  go_wp2_with (first | ((with_reducible refine gate_callee (f := 86) rfl ?_); refine goesL_ (some 10) rfl rfl Try.func86 (by kernel_rfl) rfl #[.agg #[.string s, .int .i64 n]] rfl (by (try simp only [List.map_toArray, List.map_cons, List.map_nil]); first | done | rfl) ?_; (with_reducible refine (bits_May.calls s n true _ A.out).mono ?_); rintro e w3 ⟨rfl, hb3⟩; refine ⟨_, rfl, ?_⟩; have HAA := Aside0.mk (keep2 HA.out hb3 (blk_lt HA.out)); have HRR := Aside0.mk (keep2 HR.out hb3 (blk_lt HR.out)); have HBB := Aside0.mk (below_then HB.out HB.out.size hb3); (try clear a0 a1 g0 g1 c0 c1 f0 f1); clear HA HR HB; have HA := HAA; have HR := HRR; have HB := HBB; clear HAA HRR HBB; obtain ⟨a0, a1, g0, g1⟩ := two_cells HA.out; obtain ⟨c0, c1, f0, f1⟩ := two_cells HR.out; clear hb3) | (go_at_call 102; ((with_reducible refine (code_Is.calls kind true _ AI.out).mono ?_); rintro e w3 ⟨rfl, hd3⟩); have hb3 := hd3.below; clear hd3; have HAA := Aside0.mk (keep2 HA.out hb3 (blk_lt HA.out)); have HRR := Aside0.mk (keep2 HR.out hb3 (blk_lt HR.out)); have HBB := Aside0.mk (below_then HB.out HB.out.size hb3); (try clear a0 a1 g0 g1 c0 c1 f0 f1); clear HA HR HB; have HA := HAA; have HR := HRR; have HB := HBB; clear HAA HRR HBB; obtain ⟨a0, a1, g0, g1⟩ := two_cells HA.out; obtain ⟨c0, c1, f0, f1⟩ := two_cells HR.out; clear hb3) | (go_at_call 103; ((with_reducible refine (code_number.calls kind v true _ AN.out).mono ?_); rintro e w3 ⟨rfl, hd3⟩); have hb3 := hd3.below; clear hd3; have HAA := Aside0.mk (keep2 HA.out hb3 (blk_lt HA.out)); have HRR := Aside0.mk (keep2 HR.out hb3 (blk_lt HR.out)); have HBB := Aside0.mk (below_then HB.out HB.out.size hb3); (try clear a0 a1 g0 g1 c0 c1 f0 f1); clear HA HR HB; have HA := HAA; have HR := HRR; have HB := HBB; clear HAA HRR HBB; obtain ⟨a0, a1, g0, g1⟩ := two_cells HA.out; obtain ⟨c0, c1, f0, f1⟩ := two_cells HR.out; clear hb3) | (go_at_call 88; have HBASE := Aside0.mk (blk_lt HR.out); ((with_reducible refine (from_ _ s n hsz).mono ?_); rintro e w3 ⟨p, rfl, hrow, hb3⟩); have HROW := Aside0.mk (rowL_from HM.out hrow); have HZ := Aside0.mk hb3.size; clear hrow; have HAA := Aside0.mk (keep2 HA.out hb3 (blk_lt HA.out)); have HRR := Aside0.mk (keep2 HR.out hb3 (blk_lt HR.out)); have HBB := Aside0.mk (below_then HB.out HB.out.size hb3); (try clear a0 a1 g0 g1 c0 c1 f0 f1); clear HA HR HB; have HA := HAA; have HR := HRR; have HB := HBB; clear HAA HRR HBB; obtain ⟨a0, a1, g0, g1⟩ := two_cells HA.out; obtain ⟨c0, c1, f0, f1⟩ := two_cells HR.out; clear hb3) | (go_at_call 104; ((with_reducible refine (HLAY.out _ _ p _ HROW.out HLEN.out HZ.out).mono ?_); rintro e w3 ⟨rfl, hrow3, hb3⟩); have HROW3 := Aside0.mk hrow3; have HAA := Aside0.mk (keep2 HA.out hb3 (Nat.lt_of_succ_lt HBASE.out)); have HRR := Aside0.mk (keep2 HR.out hb3 HBASE.out); have HBB := Aside0.mk (HB.out.trans (hb3.mono (Nat.le_of_lt (Nat.lt_of_succ_lt HBASE.out)))); clear a0 a1 g0 g1 c0 c1 f0 f1; clear HA HR HB hrow3 hb3 HROW; have HA := HAA; have HR := HRR; have HB := HBB; clear HAA HRR HBB; obtain ⟨a0, a1, g0, g1⟩ := two_cells HA.out; obtain ⟨c0, c1, f0, f1⟩ := two_cells HR.out))
  go_wp2_with (first | (go_at_call 90; ((with_reducible refine (row_bits_no _ _ p _ m (HMM.out ▸ HROW3.out.out) HLE.out).mono ?_); rintro e w3 ⟨rfl, hb3⟩); have HAA := Aside0.mk (keep2 HA.out hb3 (blk_lt HA.out)); have HRR := Aside0.mk (keep2 HR.out hb3 (blk_lt HR.out)); have HBB := Aside0.mk (below_then HB.out HB.out.size hb3); (try clear a0 a1 g0 g1 c0 c1 f0 f1); clear HA HR HB; have HA := HAA; have HR := HRR; have HB := HBB; clear HAA HRR HBB; obtain ⟨a0, a1, g0, g1⟩ := two_cells HA.out; obtain ⟨c0, c1, f0, f1⟩ := two_cells HR.out; clear hb3))
  refine bodyPost_ret (results_list (rs := [.cell 6 27, .tmp 7]) rfl (by simp) (.cell (w.heap.size + 1) 27 #[.string ⟨#[]⟩, .int .i64 0] (0, 0) _ rfl (put2 HR.out) Try.underlying27 rfl (by kernel_rfl) (.tmp .nil))) rfl ⟨rfl, below_put2 HB.out (by omega) _ _⟩
end Go.Proofs.Ytnpghcikhpglkaa.Q
namespace Go.Proofs.Ytnpghcikhpglkaa.Q
open Go.RowKit Go.Proofs.YtnpghcikhpglkaaW.PrintWords Go.Proofs.YtnpghcikhpglkaaW.PrintLast Go.Proofs.YtnpghcikhpglkaaW.PrintMore Go.Proofs.Ytnpghcikhpglkaa.Hand Go.Proofs.Ytnpghcikhpglkaa.Pu
set_option linter.unusedVariables false
set_option linter.unusedSimpArgs false
theorem rowL_new (W : World) : RowL (W.alloc (.cells #[.slice none 0 0, .int .i64 0] 116)) W.heap.size W.heap.size [] :=
  ⟨⟨_, heap_alloc_new W _, OwnB.nil _ _, Nat.le_refl _⟩, IsBits.nil⟩
set_option maxHeartbeats 4000000 in
set_option maxRecDepth 100000 in
theorem csize_no1 (kind v : Int) (w : World) (hi : code_Is.f kind = some false) :
    Calls Try.prog 64 #[.int .i64 kind, .int .i64 v] w fun e w' => e = .returned (.tuple #[.int .i64 0, .int .i64 1]) ∧ Below w.heap.size w w' := by
  have HB := Aside0.mk (Below.refl w.heap.size w)
  have AI := Aside0.mk hi
  clear hi
  go_enter Try.func64, Try.ntmps64
  go_wp2_with (first | (go_at_call 102; ((with_reducible refine (code_Is.calls kind false _ AI.out).mono ?_); rintro e w3 ⟨rfl, hd3⟩); have hb3 := hd3.below; clear hd3; have HBB := Aside0.mk (below_then HB.out HB.out.size hb3); clear HB; have HB := HBB; clear HBB hb3))
  refine bodyPost_ret (results_list (rs := [.tmp 4, .tmp 5]) rfl (by simp) (.tmp (.tmp .nil))) rfl ⟨rfl, HB.out⟩
set_option maxHeartbeats 4000000 in
set_option maxRecDepth 100000 in
theorem csize_no2 (kind v : Int) (w : World) (hi : code_Is.f kind = some true) (hv : code_number.f kind v = some false) :
    Calls Try.prog 64 #[.int .i64 kind, .int .i64 v] w fun e w' => e = .returned (.tuple #[.int .i64 0, .int .i64 1]) ∧ Below w.heap.size w w' := by
  have HB := Aside0.mk (Below.refl w.heap.size w)
  have AI := Aside0.mk hi
  have AN := Aside0.mk hv
  clear hi hv
  go_enter Try.func64, Try.ntmps64
  go_wp2_with (first | (go_at_call 102; ((with_reducible refine (code_Is.calls kind true _ AI.out).mono ?_); rintro e w3 ⟨rfl, hd3⟩); have hb3 := hd3.below; clear hd3; have HBB := Aside0.mk (below_then HB.out HB.out.size hb3); clear HB; have HB := HBB; clear HBB hb3) | (go_at_call 103; ((with_reducible refine (code_number.calls kind v false _ AN.out).mono ?_); rintro e w4 ⟨rfl, hd3⟩); have hb3 := hd3.below; clear hd3; have HBB := Aside0.mk (below_then HB.out HB.out.size hb3); clear HB; have HB := HBB; clear HBB hb3))
  refine bodyPost_ret (results_list (rs := [.tmp 4, .tmp 5]) rfl (by simp) (.tmp (.tmp .nil))) rfl ⟨rfl, HB.out⟩
set_option maxHeartbeats 4000000 in
set_option maxRecDepth 100000 in
theorem csize_yes (kind v : Int) (c : List Int) (m : Int) (w : World) (hmm : (([] ++ c : List Int).length : Int) = m) (hi : code_Is.f kind = some true) (hv : code_number.f kind v = some true) (hlay : LayP kind v c) :
    Calls Try.prog 64 #[.int .i64 kind, .int .i64 v] w fun e w' => e = .returned (.tuple #[.int .i64 m, .int .i64 0]) ∧ Below w.heap.size w w' := by
  have HB := Aside0.mk (Below.refl w.heap.size w)
  have AI := Aside0.mk hi
  have AN := Aside0.mk hv
  have HLAY := Aside0.mk hlay
  have HMM := Aside0.mk hmm
  clear hi hv hlay hmm
  go_enter Try.func64, Try.ntmps64
  go_wp2_with (first | (go_at_call 102; ((with_reducible refine (code_Is.calls kind true _ AI.out).mono ?_); rintro e w3 ⟨rfl, hd3⟩); have hb3 := hd3.below; clear hd3; have HBB := Aside0.mk (below_then HB.out HB.out.size hb3); clear HB; have HB := HBB; clear HBB hb3) | (go_at_call 103; ((with_reducible refine (code_number.calls kind v true _ AN.out).mono ?_); rintro e w4 ⟨rfl, hd3⟩); have hb3 := hd3.below; clear hd3; have HBB := Aside0.mk (below_then HB.out HB.out.size hb3); clear HB; have HB := HBB; clear HBB hb3) | (go_at_call 104; ((with_reducible refine (HLAY.out _ _ _ [] (rowL_new _) (by simp) (by simp)).mono ?_); rintro e w5 ⟨rfl, hrow3, hb3⟩); have HROW3 := Aside0.mk hrow3; have HBB := Aside0.mk ((HB.out.alloc HB.out.size _).trans (hb3.mono HB.out.size)); clear HB hrow3 hb3; have HB := HBB; clear HBB) | (go_at_call 109; ((with_reducible refine (row_size _ _ _ _ m (HMM.out ▸ HROW3.out.out)).mono ?_); rintro e w6 ⟨rfl, rfl⟩)))
  refine bodyPost_ret (results_list (rs := [.tmp 4, .tmp 5]) rfl (by simp) (.tmp (.tmp .nil))) rfl ⟨rfl, HB.out⟩
end Go.Proofs.Ytnpghcikhpglkaa.Q
namespace Go.Proofs.Ytnpghcikhpglkaa.Q
open Go.RowKit Go.Proofs.YtnpghcikhpglkaaW.PrintWords Go.Proofs.YtnpghcikhpglkaaW.PrintLast Go.Proofs.YtnpghcikhpglkaaW.PrintMore Go.Proofs.Ytnpghcikhpglkaa.Hand Go.Proofs.Ytnpghcikhpglkaa.Pu
set_option linter.unusedVariables false
set_option linter.unusedSimpArgs false
def ztGood (kk h : Nat) (q : Int × Int × Int × Int) : Bool :=
  q.1 == ((2 ^ (h * kk) : Nat) : Int) && (q.2.1 == ((2 ^ (h * kk + kk) : Nat) : Int) - ((2 ^ (h * kk) : Nat) : Int) && (Nat.ble 1 q.2.2.1.toNat && (Nat.ble q.2.2.1.toNat 40 && (q.2.2.1 == (q.2.2.1.toNat : Int) && (q.2.2.2 == ((2 ^ q.2.2.1.toNat : Nat) : Int) - q.2.1 && (q.2.2.2 == (q.2.2.2.toNat : Int) && Nat.ble q.2.2.2.toNat 2147483648))))))
def ztOk (kk : Nat) (h : Nat) : Bool := (code_zeta.f (kk : Int) (h : Int)).any (ztGood kk h)
theorem zt2 : ∀ h : Fin 16, ztOk 2 h.val = true := by decide +kernel
theorem zt3 : ∀ h : Fin 11, ztOk 3 h.val = true := by decide +kernel
theorem zt_facts {kk h : Nat} (ho : ztOk kk h = true) : ∃ low many size short : Int, code_zeta.f (kk : Int) (h : Int) = some (low, many, size, short) ∧ low = ((2 ^ (h * kk) : Nat) : Int) ∧ many = ((2 ^ (h * kk + kk) : Nat) : Int) - ((2 ^ (h * kk) : Nat) : Int) ∧ 1 ≤ size ∧ size ≤ 40 ∧ 0 ≤ short ∧ short = ((2 ^ size.toNat : Nat) : Int) - many ∧ short ≤ 2147483648 := by
  unfold ztOk at ho
  generalize code_zeta.f (kk : Int) (h : Int) = o at ho
  cases o with
  | none => cases ho
  | some q =>
    obtain ⟨low, many, size, short⟩ := q
    refine ⟨low, many, size, short, rfl, ?_⟩
    have hg : ztGood kk h (low, many, size, short) = true := ho
    clear ho
    unfold ztGood at hg
    simp only [Bool.and_eq_true, beq_iff_eq, Nat.ble_eq] at hg
    obtain ⟨h1, h2, h3, h4, h5, h6, h7, h8⟩ := hg
    exact ⟨h1, h2, by omega, by omega, by omega, h6, by omega⟩
def zetaL (kk n : Int) : List Int := match code_zeta.f kk (Int.tdiv (lg n) kk) with
  | some (low, _, size, short) => unaryL (Int.tdiv (lg n) kk + 1) ++ (if n - low < short then putL (size - 1).toNat (n - low) else putL size.toNat (n - low + short))
  | none => []
/-- A number's code. -/
def layL (kind n : Int) : List Int := if kind = 1 then unaryL n else if kind = 2 then gammaL n else if kind = 3 then deltaL n else if kind = 4 then zetaL 2 n else zetaL 3 n
theorem low_le {n : Int} {h kk : Nat} (h0 : 1 ≤ n) (h1 : n ≤ 1073741824) (hh : (h : Int) = lg n / (kk : Int)) (hk : 1 ≤ kk) : ((2 ^ (h * kk) : Nat) : Int) ≤ n := by
  obtain ⟨_, g0, g1, g2, g3⟩ := lg_facts n h0 h1
  obtain ⟨g, hg⟩ := Int.eq_ofNat_of_zero_le g0
  rw [hg] at hh g2
  rw [Int.toNat_natCast] at g2
  have hh' : h = g / kk := by exact_mod_cast hh
  have hle : h * kk ≤ g := by rw [hh']; exact Nat.div_mul_le_self g kk
  have := Nat.pow_le_pow_right (n := 2) (by decide) hle
  have h2 : ((2 ^ (h * kk) : Nat) : Int) ≤ ((2 ^ g : Nat) : Int) := by exact_mod_cast this
  have h3 : (((2 : Nat) ^ g : Nat) : Int) = (2 : Int) ^ g := Int.natCast_pow 2 g
  rw [h3] at h2
  exact Int.le_trans h2 g2
theorem lay_p (kind n : Int) (hk : code_Is.f kind = some true) (hn : code_number.f kind n = some true) : LayP kind n (layL kind n) := by
  have hk1 : 1 ≤ kind ∧ kind ≤ 5 := by
    unfold code_Is.f at hk
    split at hk
    · simp only [Option.some.injEq, decide_eq_true_eq] at hk; omega
    · simp at hk
  have hn1 : 1 ≤ n ∧ n ≤ 1073741824 ∧ (kind = 1 → n ≤ 1000) := by
    unfold code_number.f at hn
    split at hn
    · split at hn
      · simp only [Option.some.injEq, decide_eq_true_eq] at hn; omega
      · simp at hn
    · split at hn
      · simp only [Option.some.injEq, decide_eq_true_eq] at hn; omega
      · simp at hn
  obtain ⟨hn0, hn2, hn3⟩ := hn1
  obtain ⟨hlog, g0, g1, g2, g3⟩ := lg_facts n hn0 hn2
  intro W base p l hrow hl hbase
  have hkk : kind = 1 ∨ kind = 2 ∨ kind = 3 ∨ kind = 4 ∨ kind = 5 := by omega
  rcases hkk with rfl | rfl | rfl | rfl | rfl
  · exact lay_unary W base p l n hrow hn0 (hn3 rfl) (by omega) hbase
  · exact lay_gamma W base p l n hrow hn0 hn2 (by omega) hbase
  · exact lay_delta W base p l n hrow hn0 hn2 (by omega) hbase
  · obtain ⟨h, hh⟩ := Int.eq_ofNat_of_zero_le (show 0 ≤ lg n / 2 by omega)
    have ht : Int.tdiv (lg n) 2 = (h : Int) := by rw [Int.tdiv_eq_ediv_of_nonneg g0]; exact hh
    obtain ⟨low, many, size, short, e, e1, e2, e3, e4, e5, e6, e7⟩ := zt_facts (zt2 ⟨h, by omega⟩)
    simp only at e e1
    have hlow : low ≤ n := by rw [e1]; exact low_le hn0 hn2 hh.symm (by omega)
    have hp : 0 < 2 ^ (h * 2) := Nat.pow_pos (by decide)
    have e' : code_zeta.f 2 (Int.tdiv (lg n) 2) = some (low, many, size, short) := by rw [ht]; exact e
    exact lay_zeta2 W base p l n (lg n) low many size short (layL 4 n) hrow hn0 hn2 (by omega) hbase hlog g0 g1 e' (by omega) hlow e3 (by omega) e5 (by omega) (by unfold layL zetaL; rw [if_neg (by decide), if_neg (by decide), if_neg (by decide), if_pos rfl, e'])
  · obtain ⟨h, hh⟩ := Int.eq_ofNat_of_zero_le (show 0 ≤ lg n / 3 by omega)
    have ht : Int.tdiv (lg n) 3 = (h : Int) := by rw [Int.tdiv_eq_ediv_of_nonneg g0]; exact hh
    obtain ⟨low, many, size, short, e, e1, e2, e3, e4, e5, e6, e7⟩ := zt_facts (zt3 ⟨h, by omega⟩)
    simp only at e e1
    have hlow : low ≤ n := by rw [e1]; exact low_le hn0 hn2 hh.symm (by omega)
    have hp : 0 < 2 ^ (h * 3) := Nat.pow_pos (by decide)
    have e' : code_zeta.f 3 (Int.tdiv (lg n) 3) = some (low, many, size, short) := by rw [ht]; exact e
    exact lay_zeta3 W base p l n (lg n) low many size short (layL 5 n) hrow hn0 hn2 (by omega) hbase hlog g0 g1 e' (by omega) hlow e3 (by omega) e5 (by omega) (by unfold layL zetaL; rw [if_neg (by decide), if_neg (by decide), if_neg (by decide), if_neg (by decide), e'])
/-- code.Put. -/
def code_Put.f (s : ByteArray) (n kind v : Int) : Option (ByteArray × Int × Int) :=
  if MayP s n then (code_Is.f kind).bind fun i => if i = true then (code_number.f kind v).bind fun m => if m = true then
    (if ((ofS s n ++ layL kind v).length : Int) ≤ 6000 then some (packS (ofS s n ++ layL kind v), ((ofS s n ++ layL kind v).length : Int), 0) else some (⟨#[]⟩, 0, 2)) else some (⟨#[]⟩, 0, 1) else some (⟨#[]⟩, 0, 1)
  else some (⟨#[]⟩, 0, 1)
theorem code_Put.calls (s : ByteArray) (n kind v : Int) (r1 : ByteArray) (r2 r3 : Int) (w : World) (h : code_Put.f s n kind v = some (r1, r2, r3)) :
    Calls Try.prog 58 #[.agg #[.string s, .int .i64 n], .int .i64 kind, .int .i64 v] w fun e w' => e = .returned (.tuple #[.agg #[.string r1, .int .i64 r2], .int .i64 r3]) ∧ Below w.heap.size w w' := by
  unfold code_Put.f at h
  split at h
  · rename_i hm
    obtain ⟨i, hi, h⟩ := Option.bind_eq_some_iff.1 h
    cases i with
    | false =>
      rw [if_neg (by simp)] at h
      simp only [Option.some.injEq, Prod.mk.injEq] at h
      obtain ⟨rfl, rfl, rfl⟩ := h
      exact cput_no2 s n kind v w hm hi
    | true =>
      rw [if_pos rfl] at h
      obtain ⟨m, hv, h⟩ := Option.bind_eq_some_iff.1 h
      cases m with
      | false =>
        rw [if_neg (by simp)] at h
        simp only [Option.some.injEq, Prod.mk.injEq] at h
        obtain ⟨rfl, rfl, rfl⟩ := h
        exact cput_no3 s n kind v w hm hi hv
      | true =>
        rw [if_pos rfl] at h
        split at h
        · rename_i hle
          simp only [Option.some.injEq, Prod.mk.injEq] at h
          obtain ⟨rfl, rfl, rfl⟩ := h
          exact cput_yes s n kind v (layL kind v) _ w rfl hm hi hv (lay_p kind v hi hv) hle
        · rename_i hle
          simp only [Option.some.injEq, Prod.mk.injEq] at h
          obtain ⟨rfl, rfl, rfl⟩ := h
          exact cput_no s n kind v (layL kind v) _ w rfl hm hi hv (lay_p kind v hi hv) (by omega)
  · rename_i hm
    simp only [Option.some.injEq, Prod.mk.injEq] at h
    obtain ⟨rfl, rfl, rfl⟩ := h
    exact cput_no1 s n kind v w hm
/-- code.Size. -/
def code_Size.f (kind v : Int) : Option (Int × Int) :=
  (code_Is.f kind).bind fun i => if i = true then (code_number.f kind v).bind fun m => if m = true then some (((layL kind v).length : Int), 0) else some (0, 1) else some (0, 1)
theorem code_Size.calls (kind v r1 r2 : Int) (w : World) (h : code_Size.f kind v = some (r1, r2)) :
    Calls Try.prog 64 #[.int .i64 kind, .int .i64 v] w fun e w' => e = .returned (.tuple #[.int .i64 r1, .int .i64 r2]) ∧ Below w.heap.size w w' := by
  unfold code_Size.f at h
  obtain ⟨i, hi, h⟩ := Option.bind_eq_some_iff.1 h
  cases i with
  | false =>
    rw [if_neg (by simp)] at h
    simp only [Option.some.injEq, Prod.mk.injEq] at h
    obtain ⟨rfl, rfl⟩ := h
    exact csize_no1 kind v w hi
  | true =>
    rw [if_pos rfl] at h
    obtain ⟨m, hv, h⟩ := Option.bind_eq_some_iff.1 h
    cases m with
    | false =>
      rw [if_neg (by simp)] at h
      simp only [Option.some.injEq, Prod.mk.injEq] at h
      obtain ⟨rfl, rfl⟩ := h
      exact csize_no2 kind v w hi hv
    | true =>
      rw [if_pos rfl] at h
      simp only [Option.some.injEq, Prod.mk.injEq] at h
      obtain ⟨rfl, rfl⟩ := h
      exact csize_yes kind v (layL kind v) _ w (by rw [List.nil_append]) hi hv (lay_p kind v hi hv)
end Go.Proofs.Ytnpghcikhpglkaa.Q
namespace Go.Proofs.Ytnpghcikhpglkaa.Q
open Go.RowKit Go.Proofs.YtnpghcikhpglkaaW.PrintWords Go.Proofs.YtnpghcikhpglkaaW.PrintLast Go.Proofs.YtnpghcikhpglkaaW.PrintMore
attribute [local go_sem] max2_int min2_int max_two min_two max_three min_three max_four min_four   -- for this text's walks alone
set_option linter.unusedVariables false
set_option linter.unusedSimpArgs false

attribute [local go_sem high] eqA27
/-! ### herbariumlaw2_wakes: function 62 -/
def herbariumlaw2_wakes.f (k : Nat)  : Option (Bool) := (code_Put.f (⟨#[]⟩ : ByteArray) 0 2 5).bind fun bt785 => ((code_Take.f k bt785.1 bt785.2.1 0 2).bind fun bt789 => ((herbariumlaw2_num.f bt785.2.2).bind fun t792 => (if t792 = 0 then ((herbariumlaw2_num.f bt789.2.2).bind fun t793 => (if t793 = 0 then (if (bt785.1.toList == ([40] : List UInt8) && (bt785.2.1 == 5)) = true then (if bt789.1 = 5 then (some (bt789.2.1 == 5)) else (some false)) else (some false)) else (some false))) else (some false))))
theorem herbariumlaw2_wakes.mono : ∀ k, LeO (herbariumlaw2_wakes.f k ) (herbariumlaw2_wakes.f (k + 1) ) := by
 intro  k
 unfold herbariumlaw2_wakes.f
 repeat' first
   | (with_reducible exact code_Take.mono _ _ _ _ _)
   | (with_reducible exact LeO.refl _)
   | (with_reducible exact LeO.none _)
   | (with_reducible refine LeO.ite ?_ ?_)
   | (with_reducible refine LeO.bind ?_ (fun _ => ?_))
   | exact code_Take.mono _ _ _ _ _
   | exact LeO.none _
   | refine LeO.ite ?_ ?_
   | refine LeO.bind ?_ (fun _ => ?_)
set_option maxHeartbeats 8000000 in
set_option maxRecDepth 100000 in
theorem herbariumlaw2_wakes.calls (k : Nat)  (r : Bool) (w : World) (h : herbariumlaw2_wakes.f k  = some r) :
  Calls Try.prog 62 #[] w fun e w' => e = .returned (.bool r) ∧ Below w.heap.size w w' := by
 have hu27 := Try.underlying27
 have HB := Aside0.mk (Below.refl w.heap.size w)
 have H : ((code_Put.f (⟨#[]⟩ : ByteArray) 0 2 5).bind fun bt785 => ((code_Take.f k bt785.1 bt785.2.1 0 2).bind fun bt789 => ((herbariumlaw2_num.f bt785.2.2).bind fun t792 => (if t792 = 0 then ((herbariumlaw2_num.f bt789.2.2).bind fun t793 => (if t793 = 0 then (if (bt785.1.toList == ([40] : List UInt8) && (bt785.2.1 == 5)) = true then (if bt789.1 = 5 then (some (bt789.2.1 == 5)) else (some false)) else (some false)) else (some false))) else (some false))))) = some r := h
 clear h
 replace H := Option.bind_eq_some_iff.mp H
 obtain ⟨⟨t785, t786, t787⟩, A10, H⟩ := H
 replace H : ((code_Take.f k t785 t786 0 2).bind fun bt789 => ((herbariumlaw2_num.f t787).bind fun t792 => (if t792 = 0 then ((herbariumlaw2_num.f bt789.2.2).bind fun t793 => (if t793 = 0 then (if (t785.toList == ([40] : List UInt8) && (t786 == 5)) = true then (if bt789.1 = 5 then (some (bt789.2.1 == 5)) else (some false)) else (some false)) else (some false))) else (some false)))) = some r := H
 have A1 := Aside0.mk A10
 clear A10
 replace H := Option.bind_eq_some_iff.mp H
 obtain ⟨⟨t789, t790, t791⟩, A20, H⟩ := H
 replace H : ((herbariumlaw2_num.f t787).bind fun t792 => (if t792 = 0 then ((herbariumlaw2_num.f t791).bind fun t793 => (if t793 = 0 then (if (t785.toList == ([40] : List UInt8) && (t786 == 5)) = true then (if t789 = 5 then (some (t790 == 5)) else (some false)) else (some false)) else (some false))) else (some false))) = some r := H
 have A2 := Aside0.mk A20
 clear A20
 replace H := Option.bind_eq_some_iff.mp H
 obtain ⟨t792, A30, H⟩ := H
 replace H : (if t792 = 0 then ((herbariumlaw2_num.f t791).bind fun t793 => (if t793 = 0 then (if (t785.toList == ([40] : List UInt8) && (t786 == 5)) = true then (if t789 = 5 then (some (t790 == 5)) else (some false)) else (some false)) else (some false))) else (some false)) = some r := H
 have A3 := Aside0.mk A30
 clear A30
 by_cases c4 : t792 = 0
 ·
  rw [if_pos c4] at H
  have c4b0 : (t792 == 0) = true := beq_iff_eq.mpr c4
  have c4b1 : (t792 != 0) = false := bne_eq_false_iff_eq.mpr c4
  clear c4
  replace H := Option.bind_eq_some_iff.mp H
  obtain ⟨t793, A50, H⟩ := H
  replace H : (if t793 = 0 then (if (t785.toList == ([40] : List UInt8) && (t786 == 5)) = true then (if t789 = 5 then (some (t790 == 5)) else (some false)) else (some false)) else (some false)) = some r := H
  have A5 := Aside0.mk A50
  clear A50
  by_cases c6 : t793 = 0
  ·
   rw [if_pos c6] at H
   have c6b0 : (t793 == 0) = true := beq_iff_eq.mpr c6
   have c6b1 : (t793 != 0) = false := bne_eq_false_iff_eq.mpr c6
   clear c6
   by_cases c7 : (t785.toList == ([40] : List UInt8) && (t786 == 5)) = true
   ·
    rw [if_pos c7] at H
    have c7b0 : (t785.toList == ([40] : List UInt8) && (t786 == 5)) = true := c7
    (try (have c7b1 : decide (t785.toList = ([40] : List UInt8) && (t786 == 5)) = true := by simpa using c7))
    (try (have c7b2 : (t785.toList == ([40] : List UInt8) && (t786 == 5)) = true := by simpa using c7))
    clear c7
    by_cases c8 : t789 = 5
    ·
     rw [if_pos c8] at H
     have c8b0 : (t789 == 5) = true := beq_iff_eq.mpr c8
     have c8b1 : (t789 != 5) = false := bne_eq_false_iff_eq.mpr c8
     clear c8
     obtain rfl := Option.some.inj H
     go_enter Try.func62, Try.ntmps62
     go_wp2_with (first | ((with_reducible refine gate_callee (f := 58) rfl ?_); refine goesL_ (some 8) rfl rfl Try.func58 (by kernel_rfl) rfl #[.agg #[.string (⟨#[]⟩ : ByteArray), .int .i64 0], .int .i64 2, .int .i64 5] rfl (by (try simp only [List.map_toArray, List.map_cons, List.map_nil]); first | done | rfl | (simp only [List.length_drop, List.length_take]; rfl)) ?_; (with_reducible refine (code_Put.calls (⟨#[]⟩ : ByteArray) 0 2 5 t785 t786 t787 _ A1.out).mono ?_); rintro e w9 ⟨rfl, hb⟩; refine ⟨_, rfl, ?_⟩; have n0_ := Aside0.mk (below_step (by repeat (first | (with_reducible first | exact HB.out | apply below_alloc | apply pw_below_drewN | apply below_drew1) | exact HB.out)) hb); clear HB; have HB := n0_; clear n0_; (try clear hb); (try clear hb2); (try clear hk); (try clear hi)) | ((with_reducible refine gate_dst (N := 1) rfl ?_); refine box_event ?hg (N := 1) ?hd (cs := #[.string (⟨#[]⟩ : ByteArray), .int .i64 0]) (t := 27) ?hr ?_; (case hd => rfl); (case hg => rfl); (case hr => first | (go_simp; done) | (go_simp; rfl)); intro gb788 hg w10 hbox hb; have n0_ := Aside0.mk (below_step (by repeat (first | (with_reducible first | exact HB.out | apply below_alloc | apply pw_below_drewN | apply below_drew1) | exact HB.out)) hb); have n1_ := Aside0.mk (hbox); have n2_ := Aside0.mk ((by rw [hg]; exact (below_size (by repeat (first | (with_reducible first | exact HB.out | apply below_alloc | apply pw_below_drewN | apply below_drew1) | exact HB.out))) : w.heap.size ≤ gb788)); have n3_ := Aside0.mk ((by rw [hg]; exact (below_size (by repeat (first | (with_reducible first | exact HB.out | apply below_alloc | apply pw_below_drewN | apply below_drew1) | exact HB.out))) : w.heap.size ≤ gb788)); clear HB; have HB := n0_; have BK788 := n1_; have GW788 := n2_; have GE788 := n3_; clear n0_ n1_ n2_ n3_; clear hb hbox hg; have hcz11_0 : w10.cell? ⟨gb788, 0, none⟩ = some (.string (⟨#[]⟩ : ByteArray)) := (blk_cell BK788.out 0).trans rfl; have hcz11_1 : w10.cell? ⟨gb788, 1, none⟩ = some (.int .i64 0) := (blk_cell BK788.out 1).trans rfl; have hfz11_0 := blk_frozen BK788.out 0; have hfz11_1 := blk_frozen BK788.out 1) | ((with_reducible refine gate_callee (f := 61) rfl ?_); refine goesL_ (some 13) rfl rfl Try.func61 (by kernel_rfl) rfl #[.agg #[.string t785, .int .i64 t786], .int .i64 0, .int .i64 2] rfl (by (try simp only [List.map_toArray, List.map_cons, List.map_nil]); first | done | rfl | (simp only [List.length_drop, List.length_take]; rfl)) ?_; (with_reducible refine (code_Take.calls k t785 t786 0 2 t789 t790 t791 _ A2.out).mono ?_); rintro e w12 ⟨rfl, hb⟩; refine ⟨_, rfl, ?_⟩; have n0_ := Aside0.mk (blk_below (g := gb788) (o := .cells #[.string t785, .int .i64 t786] 27 (0, 0)) (by (with_reducible repeat (first | refine blk_drewN ?_ _ | refine blk_drew ?_ | refine blk_alloc ?_ _)); refine blk_put (cs := #[.string t785, .int .i64 0]) ?_ 1 _ rfl; (with_reducible repeat (first | refine blk_drewN ?_ _ | refine blk_drew ?_ | refine blk_alloc ?_ _)); refine blk_put (cs := #[.string (⟨#[]⟩ : ByteArray), .int .i64 0]) ?_ 0 _ rfl; (with_reducible repeat (first | refine blk_drewN ?_ _ | refine blk_drew ?_ | refine blk_alloc ?_ _)); exact BK788.out) hb); have n1_ := Aside0.mk (below_step (by repeat (first | (with_reducible first | exact HB.out | apply below_alloc | apply pw_below_drewN | apply below_drew1 | refine below_set ?_ GE788.out) | exact HB.out)) hb); clear BK788; clear HB; have BK788 := n0_; have HB := n1_; clear n0_ n1_; (try clear hb); (try clear hb2); (try clear hk); (try clear hi)) | ((with_reducible refine gate_callee (f := 59) rfl ?_); refine goesL_ (some 18) rfl rfl Try.func59 (by kernel_rfl) rfl #[.int .i64 t787] rfl (by (try simp only [List.map_toArray, List.map_cons, List.map_nil]); first | done | rfl | (simp only [List.length_drop, List.length_take]; rfl)) ?_; (with_reducible refine (herbariumlaw2_num.calls t787 t792 _ A3.out).mono ?_); rintro e w' ⟨rfl, ⟨nd, rfl⟩⟩; refine ⟨_, rfl, ?_⟩) | (go_at_call 59; (with_reducible refine (herbariumlaw2_num.calls t791 t793 _ A5.out).mono ?_); rintro e w' ⟨rfl, ⟨nd, rfl⟩⟩; have hcz13_0 : w12.cell? ⟨gb788, 0, none⟩ = some (.string t785) := (blk_cell BK788.out 0).trans rfl; have hcz13_1 : w12.cell? ⟨gb788, 1, none⟩ = some (.int .i64 t786) := (blk_cell BK788.out 1).trans rfl; have hfz13_0 := blk_frozen BK788.out 0; have hfz13_1 := blk_frozen BK788.out 1))
     go_ret
     exact ⟨by first | rfl | (simp [errW_none, errW_some] <;> rfl) | (simp [*, errW_none, errW_some] <;> rfl), by repeat (first | (with_reducible first | exact HB.out | apply below_alloc | apply pw_below_drewN | apply below_drew1 | refine below_set ?_ GE788.out) | exact HB.out)⟩
    ·
     rw [if_neg c8] at H
     have c8b0 : (t789 == 5) = false := beq_eq_false_iff_ne.mpr c8
     have c8b1 : (t789 != 5) = true := bne_iff_ne.mpr c8
     obtain rfl := Option.some.inj H
     go_enter Try.func62, Try.ntmps62
     go_wp2_with (first | ((with_reducible refine gate_callee (f := 58) rfl ?_); refine goesL_ (some 8) rfl rfl Try.func58 (by kernel_rfl) rfl #[.agg #[.string (⟨#[]⟩ : ByteArray), .int .i64 0], .int .i64 2, .int .i64 5] rfl (by (try simp only [List.map_toArray, List.map_cons, List.map_nil]); first | done | rfl | (simp only [List.length_drop, List.length_take]; rfl)) ?_; (with_reducible refine (code_Put.calls (⟨#[]⟩ : ByteArray) 0 2 5 t785 t786 t787 _ A1.out).mono ?_); rintro e w14 ⟨rfl, hb⟩; refine ⟨_, rfl, ?_⟩; have n0_ := Aside0.mk (below_step (by repeat (first | (with_reducible first | exact HB.out | apply below_alloc | apply pw_below_drewN | apply below_drew1) | exact HB.out)) hb); clear HB; have HB := n0_; clear n0_; (try clear hb); (try clear hb2); (try clear hk); (try clear hi)) | ((with_reducible refine gate_dst (N := 1) rfl ?_); refine box_event ?hg (N := 1) ?hd (cs := #[.string (⟨#[]⟩ : ByteArray), .int .i64 0]) (t := 27) ?hr ?_; (case hd => rfl); (case hg => rfl); (case hr => first | (go_simp; done) | (go_simp; rfl)); intro gb788 hg w15 hbox hb; have n0_ := Aside0.mk (below_step (by repeat (first | (with_reducible first | exact HB.out | apply below_alloc | apply pw_below_drewN | apply below_drew1) | exact HB.out)) hb); have n1_ := Aside0.mk (hbox); have n2_ := Aside0.mk ((by rw [hg]; exact (below_size (by repeat (first | (with_reducible first | exact HB.out | apply below_alloc | apply pw_below_drewN | apply below_drew1) | exact HB.out))) : w.heap.size ≤ gb788)); have n3_ := Aside0.mk ((by rw [hg]; exact (below_size (by repeat (first | (with_reducible first | exact HB.out | apply below_alloc | apply pw_below_drewN | apply below_drew1) | exact HB.out))) : w.heap.size ≤ gb788)); clear HB; have HB := n0_; have BK788 := n1_; have GW788 := n2_; have GE788 := n3_; clear n0_ n1_ n2_ n3_; clear hb hbox hg; have hcz16_0 : w15.cell? ⟨gb788, 0, none⟩ = some (.string (⟨#[]⟩ : ByteArray)) := (blk_cell BK788.out 0).trans rfl; have hcz16_1 : w15.cell? ⟨gb788, 1, none⟩ = some (.int .i64 0) := (blk_cell BK788.out 1).trans rfl; have hfz16_0 := blk_frozen BK788.out 0; have hfz16_1 := blk_frozen BK788.out 1) | ((with_reducible refine gate_callee (f := 61) rfl ?_); refine goesL_ (some 13) rfl rfl Try.func61 (by kernel_rfl) rfl #[.agg #[.string t785, .int .i64 t786], .int .i64 0, .int .i64 2] rfl (by (try simp only [List.map_toArray, List.map_cons, List.map_nil]); first | done | rfl | (simp only [List.length_drop, List.length_take]; rfl)) ?_; (with_reducible refine (code_Take.calls k t785 t786 0 2 t789 t790 t791 _ A2.out).mono ?_); rintro e w17 ⟨rfl, hb⟩; refine ⟨_, rfl, ?_⟩; have n0_ := Aside0.mk (blk_below (g := gb788) (o := .cells #[.string t785, .int .i64 t786] 27 (0, 0)) (by (with_reducible repeat (first | refine blk_drewN ?_ _ | refine blk_drew ?_ | refine blk_alloc ?_ _)); refine blk_put (cs := #[.string t785, .int .i64 0]) ?_ 1 _ rfl; (with_reducible repeat (first | refine blk_drewN ?_ _ | refine blk_drew ?_ | refine blk_alloc ?_ _)); refine blk_put (cs := #[.string (⟨#[]⟩ : ByteArray), .int .i64 0]) ?_ 0 _ rfl; (with_reducible repeat (first | refine blk_drewN ?_ _ | refine blk_drew ?_ | refine blk_alloc ?_ _)); exact BK788.out) hb); have n1_ := Aside0.mk (below_step (by repeat (first | (with_reducible first | exact HB.out | apply below_alloc | apply pw_below_drewN | apply below_drew1 | refine below_set ?_ GE788.out) | exact HB.out)) hb); clear BK788; clear HB; have BK788 := n0_; have HB := n1_; clear n0_ n1_; (try clear hb); (try clear hb2); (try clear hk); (try clear hi)) | ((with_reducible refine gate_callee (f := 59) rfl ?_); refine goesL_ (some 18) rfl rfl Try.func59 (by kernel_rfl) rfl #[.int .i64 t787] rfl (by (try simp only [List.map_toArray, List.map_cons, List.map_nil]); first | done | rfl | (simp only [List.length_drop, List.length_take]; rfl)) ?_; (with_reducible refine (herbariumlaw2_num.calls t787 t792 _ A3.out).mono ?_); rintro e w' ⟨rfl, ⟨nd, rfl⟩⟩; refine ⟨_, rfl, ?_⟩) | (go_at_call 59; (with_reducible refine (herbariumlaw2_num.calls t791 t793 _ A5.out).mono ?_); rintro e w' ⟨rfl, ⟨nd, rfl⟩⟩; have hcz18_0 : w17.cell? ⟨gb788, 0, none⟩ = some (.string t785) := (blk_cell BK788.out 0).trans rfl; have hcz18_1 : w17.cell? ⟨gb788, 1, none⟩ = some (.int .i64 t786) := (blk_cell BK788.out 1).trans rfl; have hfz18_0 := blk_frozen BK788.out 0; have hfz18_1 := blk_frozen BK788.out 1))
     go_ret
     exact ⟨by first | rfl | (simp [errW_none, errW_some] <;> rfl) | (simp [*, errW_none, errW_some] <;> rfl), by repeat (first | (with_reducible first | exact HB.out | apply below_alloc | apply pw_below_drewN | apply below_drew1 | refine below_set ?_ GE788.out) | exact HB.out)⟩
   ·
    rw [if_neg c7] at H
    have c7b0 : (t785.toList == ([40] : List UInt8) && (t786 == 5)) = false := by simpa using c7
    (try (have c7b1 : decide (t785.toList = ([40] : List UInt8) && (t786 == 5)) = false := by simpa using c7))
    (try (have c7b2 : (t785.toList == ([40] : List UInt8) && (t786 == 5)) = false := by simpa using c7))
    (try (have c7b3 : ¬ (t785.toList = ([40] : List UInt8) && (t786 == 5)) := by simpa using c7))
    clear c7
    obtain rfl := Option.some.inj H
    go_enter Try.func62, Try.ntmps62
    go_wp2_with (first | ((with_reducible refine gate_callee (f := 58) rfl ?_); refine goesL_ (some 8) rfl rfl Try.func58 (by kernel_rfl) rfl #[.agg #[.string (⟨#[]⟩ : ByteArray), .int .i64 0], .int .i64 2, .int .i64 5] rfl (by (try simp only [List.map_toArray, List.map_cons, List.map_nil]); first | done | rfl | (simp only [List.length_drop, List.length_take]; rfl)) ?_; (with_reducible refine (code_Put.calls (⟨#[]⟩ : ByteArray) 0 2 5 t785 t786 t787 _ A1.out).mono ?_); rintro e w19 ⟨rfl, hb⟩; refine ⟨_, rfl, ?_⟩; have n0_ := Aside0.mk (below_step (by repeat (first | (with_reducible first | exact HB.out | apply below_alloc | apply pw_below_drewN | apply below_drew1) | exact HB.out)) hb); clear HB; have HB := n0_; clear n0_; (try clear hb); (try clear hb2); (try clear hk); (try clear hi)) | ((with_reducible refine gate_dst (N := 1) rfl ?_); refine box_event ?hg (N := 1) ?hd (cs := #[.string (⟨#[]⟩ : ByteArray), .int .i64 0]) (t := 27) ?hr ?_; (case hd => rfl); (case hg => rfl); (case hr => first | (go_simp; done) | (go_simp; rfl)); intro gb788 hg w20 hbox hb; have n0_ := Aside0.mk (below_step (by repeat (first | (with_reducible first | exact HB.out | apply below_alloc | apply pw_below_drewN | apply below_drew1) | exact HB.out)) hb); have n1_ := Aside0.mk (hbox); have n2_ := Aside0.mk ((by rw [hg]; exact (below_size (by repeat (first | (with_reducible first | exact HB.out | apply below_alloc | apply pw_below_drewN | apply below_drew1) | exact HB.out))) : w.heap.size ≤ gb788)); have n3_ := Aside0.mk ((by rw [hg]; exact (below_size (by repeat (first | (with_reducible first | exact HB.out | apply below_alloc | apply pw_below_drewN | apply below_drew1) | exact HB.out))) : w.heap.size ≤ gb788)); clear HB; have HB := n0_; have BK788 := n1_; have GW788 := n2_; have GE788 := n3_; clear n0_ n1_ n2_ n3_; clear hb hbox hg; have hcz21_0 : w20.cell? ⟨gb788, 0, none⟩ = some (.string (⟨#[]⟩ : ByteArray)) := (blk_cell BK788.out 0).trans rfl; have hcz21_1 : w20.cell? ⟨gb788, 1, none⟩ = some (.int .i64 0) := (blk_cell BK788.out 1).trans rfl; have hfz21_0 := blk_frozen BK788.out 0; have hfz21_1 := blk_frozen BK788.out 1) | ((with_reducible refine gate_callee (f := 61) rfl ?_); refine goesL_ (some 13) rfl rfl Try.func61 (by kernel_rfl) rfl #[.agg #[.string t785, .int .i64 t786], .int .i64 0, .int .i64 2] rfl (by (try simp only [List.map_toArray, List.map_cons, List.map_nil]); first | done | rfl | (simp only [List.length_drop, List.length_take]; rfl)) ?_; (with_reducible refine (code_Take.calls k t785 t786 0 2 t789 t790 t791 _ A2.out).mono ?_); rintro e w22 ⟨rfl, hb⟩; refine ⟨_, rfl, ?_⟩; have n0_ := Aside0.mk (blk_below (g := gb788) (o := .cells #[.string t785, .int .i64 t786] 27 (0, 0)) (by (with_reducible repeat (first | refine blk_drewN ?_ _ | refine blk_drew ?_ | refine blk_alloc ?_ _)); refine blk_put (cs := #[.string t785, .int .i64 0]) ?_ 1 _ rfl; (with_reducible repeat (first | refine blk_drewN ?_ _ | refine blk_drew ?_ | refine blk_alloc ?_ _)); refine blk_put (cs := #[.string (⟨#[]⟩ : ByteArray), .int .i64 0]) ?_ 0 _ rfl; (with_reducible repeat (first | refine blk_drewN ?_ _ | refine blk_drew ?_ | refine blk_alloc ?_ _)); exact BK788.out) hb); have n1_ := Aside0.mk (below_step (by repeat (first | (with_reducible first | exact HB.out | apply below_alloc | apply pw_below_drewN | apply below_drew1 | refine below_set ?_ GE788.out) | exact HB.out)) hb); clear BK788; clear HB; have BK788 := n0_; have HB := n1_; clear n0_ n1_; (try clear hb); (try clear hb2); (try clear hk); (try clear hi)) | ((with_reducible refine gate_callee (f := 59) rfl ?_); refine goesL_ (some 18) rfl rfl Try.func59 (by kernel_rfl) rfl #[.int .i64 t787] rfl (by (try simp only [List.map_toArray, List.map_cons, List.map_nil]); first | done | rfl | (simp only [List.length_drop, List.length_take]; rfl)) ?_; (with_reducible refine (herbariumlaw2_num.calls t787 t792 _ A3.out).mono ?_); rintro e w' ⟨rfl, ⟨nd, rfl⟩⟩; refine ⟨_, rfl, ?_⟩) | (go_at_call 59; (with_reducible refine (herbariumlaw2_num.calls t791 t793 _ A5.out).mono ?_); rintro e w' ⟨rfl, ⟨nd, rfl⟩⟩; have hcz23_0 : w22.cell? ⟨gb788, 0, none⟩ = some (.string t785) := (blk_cell BK788.out 0).trans rfl; have hcz23_1 : w22.cell? ⟨gb788, 1, none⟩ = some (.int .i64 t786) := (blk_cell BK788.out 1).trans rfl; have hfz23_0 := blk_frozen BK788.out 0; have hfz23_1 := blk_frozen BK788.out 1))
    go_ret
    exact ⟨by first | rfl | (simp [errW_none, errW_some] <;> rfl) | (simp [*, errW_none, errW_some] <;> rfl), by repeat (first | (with_reducible first | exact HB.out | apply below_alloc | apply pw_below_drewN | apply below_drew1 | refine below_set ?_ GE788.out) | exact HB.out)⟩
  ·
   rw [if_neg c6] at H
   have c6b0 : (t793 == 0) = false := beq_eq_false_iff_ne.mpr c6
   have c6b1 : (t793 != 0) = true := bne_iff_ne.mpr c6
   obtain rfl := Option.some.inj H
   go_enter Try.func62, Try.ntmps62
   go_wp2_with (first | ((with_reducible refine gate_callee (f := 58) rfl ?_); refine goesL_ (some 8) rfl rfl Try.func58 (by kernel_rfl) rfl #[.agg #[.string (⟨#[]⟩ : ByteArray), .int .i64 0], .int .i64 2, .int .i64 5] rfl (by (try simp only [List.map_toArray, List.map_cons, List.map_nil]); first | done | rfl | (simp only [List.length_drop, List.length_take]; rfl)) ?_; (with_reducible refine (code_Put.calls (⟨#[]⟩ : ByteArray) 0 2 5 t785 t786 t787 _ A1.out).mono ?_); rintro e w24 ⟨rfl, hb⟩; refine ⟨_, rfl, ?_⟩; have n0_ := Aside0.mk (below_step (by repeat (first | (with_reducible first | exact HB.out | apply below_alloc | apply pw_below_drewN | apply below_drew1) | exact HB.out)) hb); clear HB; have HB := n0_; clear n0_; (try clear hb); (try clear hb2); (try clear hk); (try clear hi)) | ((with_reducible refine gate_dst (N := 1) rfl ?_); refine box_event ?hg (N := 1) ?hd (cs := #[.string (⟨#[]⟩ : ByteArray), .int .i64 0]) (t := 27) ?hr ?_; (case hd => rfl); (case hg => rfl); (case hr => first | (go_simp; done) | (go_simp; rfl)); intro gb788 hg w25 hbox hb; have n0_ := Aside0.mk (below_step (by repeat (first | (with_reducible first | exact HB.out | apply below_alloc | apply pw_below_drewN | apply below_drew1) | exact HB.out)) hb); have n1_ := Aside0.mk (hbox); have n2_ := Aside0.mk ((by rw [hg]; exact (below_size (by repeat (first | (with_reducible first | exact HB.out | apply below_alloc | apply pw_below_drewN | apply below_drew1) | exact HB.out))) : w.heap.size ≤ gb788)); have n3_ := Aside0.mk ((by rw [hg]; exact (below_size (by repeat (first | (with_reducible first | exact HB.out | apply below_alloc | apply pw_below_drewN | apply below_drew1) | exact HB.out))) : w.heap.size ≤ gb788)); clear HB; have HB := n0_; have BK788 := n1_; have GW788 := n2_; have GE788 := n3_; clear n0_ n1_ n2_ n3_; clear hb hbox hg; have hcz26_0 : w25.cell? ⟨gb788, 0, none⟩ = some (.string (⟨#[]⟩ : ByteArray)) := (blk_cell BK788.out 0).trans rfl; have hcz26_1 : w25.cell? ⟨gb788, 1, none⟩ = some (.int .i64 0) := (blk_cell BK788.out 1).trans rfl; have hfz26_0 := blk_frozen BK788.out 0; have hfz26_1 := blk_frozen BK788.out 1) | ((with_reducible refine gate_callee (f := 61) rfl ?_); refine goesL_ (some 13) rfl rfl Try.func61 (by kernel_rfl) rfl #[.agg #[.string t785, .int .i64 t786], .int .i64 0, .int .i64 2] rfl (by (try simp only [List.map_toArray, List.map_cons, List.map_nil]); first | done | rfl | (simp only [List.length_drop, List.length_take]; rfl)) ?_; (with_reducible refine (code_Take.calls k t785 t786 0 2 t789 t790 t791 _ A2.out).mono ?_); rintro e w27 ⟨rfl, hb⟩; refine ⟨_, rfl, ?_⟩; have n0_ := Aside0.mk (blk_below (g := gb788) (o := .cells #[.string t785, .int .i64 t786] 27 (0, 0)) (by (with_reducible repeat (first | refine blk_drewN ?_ _ | refine blk_drew ?_ | refine blk_alloc ?_ _)); refine blk_put (cs := #[.string t785, .int .i64 0]) ?_ 1 _ rfl; (with_reducible repeat (first | refine blk_drewN ?_ _ | refine blk_drew ?_ | refine blk_alloc ?_ _)); refine blk_put (cs := #[.string (⟨#[]⟩ : ByteArray), .int .i64 0]) ?_ 0 _ rfl; (with_reducible repeat (first | refine blk_drewN ?_ _ | refine blk_drew ?_ | refine blk_alloc ?_ _)); exact BK788.out) hb); have n1_ := Aside0.mk (below_step (by repeat (first | (with_reducible first | exact HB.out | apply below_alloc | apply pw_below_drewN | apply below_drew1 | refine below_set ?_ GE788.out) | exact HB.out)) hb); clear BK788; clear HB; have BK788 := n0_; have HB := n1_; clear n0_ n1_; (try clear hb); (try clear hb2); (try clear hk); (try clear hi)) | ((with_reducible refine gate_callee (f := 59) rfl ?_); refine goesL_ (some 18) rfl rfl Try.func59 (by kernel_rfl) rfl #[.int .i64 t787] rfl (by (try simp only [List.map_toArray, List.map_cons, List.map_nil]); first | done | rfl | (simp only [List.length_drop, List.length_take]; rfl)) ?_; (with_reducible refine (herbariumlaw2_num.calls t787 t792 _ A3.out).mono ?_); rintro e w' ⟨rfl, ⟨nd, rfl⟩⟩; refine ⟨_, rfl, ?_⟩) | (go_at_call 59; (with_reducible refine (herbariumlaw2_num.calls t791 t793 _ A5.out).mono ?_); rintro e w' ⟨rfl, ⟨nd, rfl⟩⟩))
   go_ret
   exact ⟨by first | rfl | (simp [errW_none, errW_some] <;> rfl) | (simp [*, errW_none, errW_some] <;> rfl), by repeat (first | (with_reducible first | exact HB.out | apply below_alloc | apply pw_below_drewN | apply below_drew1 | refine below_set ?_ GE788.out) | exact HB.out)⟩
 ·
  rw [if_neg c4] at H
  have c4b0 : (t792 == 0) = false := beq_eq_false_iff_ne.mpr c4
  have c4b1 : (t792 != 0) = true := bne_iff_ne.mpr c4
  obtain rfl := Option.some.inj H
  go_enter Try.func62, Try.ntmps62
  go_wp2_with (first | ((with_reducible refine gate_callee (f := 58) rfl ?_); refine goesL_ (some 8) rfl rfl Try.func58 (by kernel_rfl) rfl #[.agg #[.string (⟨#[]⟩ : ByteArray), .int .i64 0], .int .i64 2, .int .i64 5] rfl (by (try simp only [List.map_toArray, List.map_cons, List.map_nil]); first | done | rfl | (simp only [List.length_drop, List.length_take]; rfl)) ?_; (with_reducible refine (code_Put.calls (⟨#[]⟩ : ByteArray) 0 2 5 t785 t786 t787 _ A1.out).mono ?_); rintro e w28 ⟨rfl, hb⟩; refine ⟨_, rfl, ?_⟩; have n0_ := Aside0.mk (below_step (by repeat (first | (with_reducible first | exact HB.out | apply below_alloc | apply pw_below_drewN | apply below_drew1) | exact HB.out)) hb); clear HB; have HB := n0_; clear n0_; (try clear hb); (try clear hb2); (try clear hk); (try clear hi)) | ((with_reducible refine gate_dst (N := 1) rfl ?_); refine box_event ?hg (N := 1) ?hd (cs := #[.string (⟨#[]⟩ : ByteArray), .int .i64 0]) (t := 27) ?hr ?_; (case hd => rfl); (case hg => rfl); (case hr => first | (go_simp; done) | (go_simp; rfl)); intro gb788 hg w29 hbox hb; have n0_ := Aside0.mk (below_step (by repeat (first | (with_reducible first | exact HB.out | apply below_alloc | apply pw_below_drewN | apply below_drew1) | exact HB.out)) hb); have n1_ := Aside0.mk (hbox); have n2_ := Aside0.mk ((by rw [hg]; exact (below_size (by repeat (first | (with_reducible first | exact HB.out | apply below_alloc | apply pw_below_drewN | apply below_drew1) | exact HB.out))) : w.heap.size ≤ gb788)); have n3_ := Aside0.mk ((by rw [hg]; exact (below_size (by repeat (first | (with_reducible first | exact HB.out | apply below_alloc | apply pw_below_drewN | apply below_drew1) | exact HB.out))) : w.heap.size ≤ gb788)); clear HB; have HB := n0_; have BK788 := n1_; have GW788 := n2_; have GE788 := n3_; clear n0_ n1_ n2_ n3_; clear hb hbox hg; have hcz30_0 : w29.cell? ⟨gb788, 0, none⟩ = some (.string (⟨#[]⟩ : ByteArray)) := (blk_cell BK788.out 0).trans rfl; have hcz30_1 : w29.cell? ⟨gb788, 1, none⟩ = some (.int .i64 0) := (blk_cell BK788.out 1).trans rfl; have hfz30_0 := blk_frozen BK788.out 0; have hfz30_1 := blk_frozen BK788.out 1) | ((with_reducible refine gate_callee (f := 61) rfl ?_); refine goesL_ (some 13) rfl rfl Try.func61 (by kernel_rfl) rfl #[.agg #[.string t785, .int .i64 t786], .int .i64 0, .int .i64 2] rfl (by (try simp only [List.map_toArray, List.map_cons, List.map_nil]); first | done | rfl | (simp only [List.length_drop, List.length_take]; rfl)) ?_; (with_reducible refine (code_Take.calls k t785 t786 0 2 t789 t790 t791 _ A2.out).mono ?_); rintro e w31 ⟨rfl, hb⟩; refine ⟨_, rfl, ?_⟩; have n0_ := Aside0.mk (blk_below (g := gb788) (o := .cells #[.string t785, .int .i64 t786] 27 (0, 0)) (by (with_reducible repeat (first | refine blk_drewN ?_ _ | refine blk_drew ?_ | refine blk_alloc ?_ _)); refine blk_put (cs := #[.string t785, .int .i64 0]) ?_ 1 _ rfl; (with_reducible repeat (first | refine blk_drewN ?_ _ | refine blk_drew ?_ | refine blk_alloc ?_ _)); refine blk_put (cs := #[.string (⟨#[]⟩ : ByteArray), .int .i64 0]) ?_ 0 _ rfl; (with_reducible repeat (first | refine blk_drewN ?_ _ | refine blk_drew ?_ | refine blk_alloc ?_ _)); exact BK788.out) hb); have n1_ := Aside0.mk (below_step (by repeat (first | (with_reducible first | exact HB.out | apply below_alloc | apply pw_below_drewN | apply below_drew1 | refine below_set ?_ GE788.out) | exact HB.out)) hb); clear BK788; clear HB; have BK788 := n0_; have HB := n1_; clear n0_ n1_; (try clear hb); (try clear hb2); (try clear hk); (try clear hi)) | ((with_reducible refine gate_callee (f := 59) rfl ?_); refine goesL_ (some 18) rfl rfl Try.func59 (by kernel_rfl) rfl #[.int .i64 t787] rfl (by (try simp only [List.map_toArray, List.map_cons, List.map_nil]); first | done | rfl | (simp only [List.length_drop, List.length_take]; rfl)) ?_; (with_reducible refine (herbariumlaw2_num.calls t787 t792 _ A3.out).mono ?_); rintro e w' ⟨rfl, ⟨nd, rfl⟩⟩; refine ⟨_, rfl, ?_⟩))
  go_ret
  exact ⟨by first | rfl | (simp [errW_none, errW_some] <;> rfl) | (simp [*, errW_none, errW_some] <;> rfl), by repeat (first | (with_reducible first | exact HB.out | apply below_alloc | apply pw_below_drewN | apply below_drew1 | refine below_set ?_ GE788.out) | exact HB.out)⟩
end Go.Proofs.Ytnpghcikhpglkaa.Q
