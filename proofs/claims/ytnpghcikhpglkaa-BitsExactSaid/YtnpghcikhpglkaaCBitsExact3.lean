/- What the row of BitsExact rests on, part 4 of 7: functions, contracts, plain laws. -/
import Derived.Test.YtnpghcikhpglkaaCBitsExact2
import Derived.Deep.CutRange
namespace Go.Proofs.Ytnpghcikhpglkaa.Q
open Go.RowKit Go.Proofs.YtnpghcikhpglkaaW.PrintWords Go.Proofs.YtnpghcikhpglkaaW.PrintLast Go.Proofs.YtnpghcikhpglkaaW.PrintMore
attribute [local go_sem] max2_int min2_int max_two min_two max_three min_three max_four min_four   -- for this text's walks alone
set_option linter.unusedVariables false
set_option linter.unusedSimpArgs false

/-! ### bits_Cut: function 42 -/
def bits_Cut.f (a0_0 : ByteArray) (a0_1 : Int) (a1 : Int) (a2 : Int) : Option (ByteArray × Int × Int) := (bits_May.f a0_0 a0_1).bind fun t617 => (if t617 = true then (if a1 < 0 then (some ((⟨#[]⟩ : ByteArray), 0, 1)) else (if a1 > a2 then (some ((⟨#[]⟩ : ByteArray), 0, 1)) else (if a2 > a0_1 then (some ((⟨#[]⟩ : ByteArray), 0, 1)) else ((bits_Part.f a0_0 a0_1 a1 a2).bind fun bt618 => (some (bt618.1, bt618.2, 0)))))) else (some ((⟨#[]⟩ : ByteArray), 0, 1)))
set_option maxHeartbeats 8000000 in
set_option maxRecDepth 100000 in
theorem bits_Cut.calls (a0_0 : ByteArray) (a0_1 : Int) (a1 : Int) (a2 : Int) (r1 : ByteArray) (r2 : Int) (r3 : Int) (w : World) (h : bits_Cut.f a0_0 a0_1 a1 a2 = some (r1, r2, r3)) :
    Calls Try.prog 42 #[.agg #[.string a0_0, .int .i64 a0_1], .int .i64 a1, .int .i64 a2] w fun e w' => e = .returned (.tuple #[.agg #[.string r1, .int .i64 r2], .int .i64 r3]) ∧ Below w.heap.size w w' := by
 have hu27 := Try.underlying27
 have HB := ak (Below.refl w.heap.size w)
 have H : ((bits_May.f a0_0 a0_1).bind fun t617 => (if t617 = true then (if a1 < 0 then (some ((⟨#[]⟩ : ByteArray), 0, 1)) else (if a1 > a2 then (some ((⟨#[]⟩ : ByteArray), 0, 1)) else (if a2 > a0_1 then (some ((⟨#[]⟩ : ByteArray), 0, 1)) else ((bits_Part.f a0_0 a0_1 a1 a2).bind fun bt618 => (some (bt618.1, bt618.2, 0)))))) else (some ((⟨#[]⟩ : ByteArray), 0, 1)))) = some (r1, r2, r3) := h
 clear h
 replace H := Option.bind_eq_some_iff.mp H
 obtain ⟨t617, A40, H⟩ := H
 try dsimp only at H
 have A4 := ak A40
 clear A40
 by_cases c5 : t617 = true
 rotate_left
 ·
  replace c5 := Bool.eq_false_iff.mpr c5
  subst c5
  rw [if_neg (show ¬ (false = true) by decide)] at H
  simp only [Option.some.injEq, Prod.mk.injEq] at H
  obtain ⟨rfl, rfl, rfl⟩ := H
  go_enter Try.func42, Try.ntmps42
  go_wp2_with (first | ((with_reducible refine gate_dst (N := 3) rfl ?_); refine box_event ?hg (N := 3) ?hd (cs := #[.string a0_0, .int .i64 a0_1]) (t := 27) ?hr ?_; (case hd => rfl); (case hg => rfl); (case hr => first | (go_simp; done) | (go_simp; rfl)); intro gb615 hg w37 hbox hb; have n0_ := ak (below_step (ul HB.out) hb); have n1_ := ak (hbox); have n2_ := ak ((by rw [hg]; exact (below_size (ul HB.out)) : w.heap.size ≤ gb615)); have n3_ := ak ((by rw [hg]; exact (below_size (ul HB.out)) : w.heap.size ≤ gb615)); clear HB; have HB := n0_; have BK615 := n1_; have GW615 := n2_; have GE615 := n3_; clear n0_ n1_ n2_ n3_; clear hb hbox hg) | ((with_reducible refine gate_dst (N := 6) rfl ?_); refine box_event ?hg (N := 6) ?hd (cs := #[.string (⟨#[]⟩ : ByteArray), .int .i64 0]) (t := 27) ?hr ?_; (case hd => rfl); (case hg => rfl); (case hr => first | (go_simp; done) | (go_simp; rfl)); intro gb616 hg w38 hbox hb; have n0_ := ak (blk_below (g := gb615) (o := .cells #[.string a0_0, .int .i64 a0_1] 27 (0, 0)) (ub BK615.out) hb); have n1_ := ak (below_step (by repeat with_reducible first | exact HB.out | apply b1 | apply b2 | apply b3 | refine b4 ?_ GE615.out) hb); have n2_ := ak (hbox); have n3_ := ak ((by rw [hg]; exact (below_size (by repeat with_reducible first | exact HB.out | apply b1 | apply b2 | apply b3 | refine b4 ?_ GE615.out)) : w.heap.size ≤ gb616)); have n4_ := ak ((by rw [hg]; exact (below_size (by repeat with_reducible first | exact HB.out | apply b1 | apply b2 | apply b3 | refine b4 ?_ GE615.out)) : w.heap.size ≤ gb616)); have n5_ := ak ((by rw [hg]; exact Nat.ne_of_lt (blk_lt (g := gb615) (o := .cells #[.string a0_0, .int .i64 a0_1] 27 (0, 0)) (ub BK615.out)) : gb615 ≠ gb616)); have n6_ := ak ((by rw [hg]; exact Nat.ne_of_gt (blk_lt (g := gb615) (o := .cells #[.string a0_0, .int .i64 a0_1] 27 (0, 0)) (ub BK615.out)) : gb616 ≠ gb615)); clear BK615; clear HB; have BK615 := n0_; have HB := n1_; have BK616 := n2_; have GW616 := n3_; have GE616 := n4_; have NB615_616 := n5_; have NB616_615 := n6_; clear n0_ n1_ n2_ n3_ n4_ n5_ n6_; clear hb hbox hg; have hnb39 := NB615_616.out; have hnc39 := NB616_615.out; have hcz40_0 : w38.cell? ⟨gb615, 0, none⟩ = some (.string a0_0) := (blk_cell BK615.out 0).trans rfl; have hcz40_1 : w38.cell? ⟨gb615, 1, none⟩ = some (.int .i64 a0_1) := (blk_cell BK615.out 1).trans rfl; have hfz40_0 := blk_frozen BK615.out 0; have hfz40_1 := blk_frozen BK615.out 1) | ((with_reducible refine gate_callee (f := 86) rfl ?_); refine goesL_ (some 9) rfl rfl Try.func86 (by kernel_rfl) rfl #[.agg #[.string a0_0, .int .i64 a0_1]] rfl (by (try simp only [List.map_toArray, List.map_cons, List.map_nil]); first | done | rfl | (simp only [List.length_drop, List.length_take]; rfl)) ?_; (with_reducible refine (bits_May.calls a0_0 a0_1 false _ A4.out).mono ?_); rintro e w41 ⟨rfl, hb⟩; refine ⟨_, rfl, ?_⟩; have n0_ := ak (blk_below (g := gb615) (o := .cells #[.string a0_0, .int .i64 a0_1] 27 (0, 0)) (ub BK615.out) hb); have n1_ := ak (blk_below (g := gb616) (o := .cells #[.string (⟨#[]⟩ : ByteArray), .int .i64 0] 27 (0, 0)) (ub BK616.out) hb); have n2_ := ak (below_step (by repeat with_reducible first | exact HB.out | apply b1 | apply b2 | apply b3 | refine b4 ?_ GE615.out | refine b4 ?_ GE616.out) hb); clear BK615; clear BK616; clear HB; have BK615 := n0_; have BK616 := n1_; have HB := n2_; clear n0_ n1_ n2_; (try clear hb); (try clear hb2); (try clear hk); (try clear hi); have hcz42_0 : w41.cell? ⟨gb616, 0, none⟩ = some (.string (⟨#[]⟩ : ByteArray)) := (blk_cell BK616.out 0).trans rfl; have hcz42_1 : w41.cell? ⟨gb616, 1, none⟩ = some (.int .i64 0) := (blk_cell BK616.out 1).trans rfl; have hfz42_0 := blk_frozen BK616.out 0; have hfz42_1 := blk_frozen BK616.out 1))
  refine bodyPost_ret (results_ct rfl _ _ gb616 27 #[.string (⟨#[]⟩ : ByteArray), .int .i64 0] (0, 0) _ rfl (by (with_reducible repeat (first | refine blk_drewN ?_ _ | refine blk_drew ?_ | refine blk_alloc ?_ _)); refine blk_put (cs := #[.string (⟨#[]⟩ : ByteArray), .int .i64 0]) ?_ 1 _ rfl; (with_reducible repeat (first | refine blk_drewN ?_ _ | refine blk_drew ?_ | refine blk_alloc ?_ _)); refine blk_put (cs := #[.string (⟨#[]⟩ : ByteArray), .int .i64 0]) ?_ 0 _ rfl; (with_reducible repeat (first | refine blk_drewN ?_ _ | refine blk_drew ?_ | refine blk_alloc ?_ _)); exact BK616.out) Try.underlying27 rfl (by kernel_rfl)) rfl ?_
  exact ⟨by first | rfl | (simp [errW_none, errW_some] <;> rfl) | (simp [*, errW_none, errW_some] <;> rfl), by repeat with_reducible first | exact HB.out | apply b1 | apply b2 | apply b3 | refine b4 ?_ GE615.out | refine b4 ?_ GE616.out⟩
 subst c5
 rw [if_pos rfl] at H
 by_cases c6 : a1 < 0
 ·
  rw [if_pos c6] at H
  have c6b0 : decide (a1 < 0) = true := decide_eq_true c6
  clear c6
  simp only [Option.some.injEq, Prod.mk.injEq] at H
  obtain ⟨rfl, rfl, rfl⟩ := H
  go_enter Try.func42, Try.ntmps42
  go_wp2_with (first | ((with_reducible refine gate_dst (N := 3) rfl ?_); refine box_event ?hg (N := 3) ?hd (cs := #[.string a0_0, .int .i64 a0_1]) (t := 27) ?hr ?_; (case hd => rfl); (case hg => rfl); (case hr => first | (go_simp; done) | (go_simp; rfl)); intro gb615 hg w7 hbox hb; have n0_ := ak (below_step (ul HB.out) hb); have n1_ := ak (hbox); have n2_ := ak ((by rw [hg]; exact (below_size (ul HB.out)) : w.heap.size ≤ gb615)); have n3_ := ak ((by rw [hg]; exact (below_size (ul HB.out)) : w.heap.size ≤ gb615)); clear HB; have HB := n0_; have BK615 := n1_; have GW615 := n2_; have GE615 := n3_; clear n0_ n1_ n2_ n3_; clear hb hbox hg) | ((with_reducible refine gate_dst (N := 6) rfl ?_); refine box_event ?hg (N := 6) ?hd (cs := #[.string (⟨#[]⟩ : ByteArray), .int .i64 0]) (t := 27) ?hr ?_; (case hd => rfl); (case hg => rfl); (case hr => first | (go_simp; done) | (go_simp; rfl)); intro gb616 hg w8 hbox hb; have n0_ := ak (blk_below (g := gb615) (o := .cells #[.string a0_0, .int .i64 a0_1] 27 (0, 0)) (ub BK615.out) hb); have n1_ := ak (below_step (by repeat with_reducible first | exact HB.out | apply b1 | apply b2 | apply b3 | refine b4 ?_ GE615.out) hb); have n2_ := ak (hbox); have n3_ := ak ((by rw [hg]; exact (below_size (by repeat with_reducible first | exact HB.out | apply b1 | apply b2 | apply b3 | refine b4 ?_ GE615.out)) : w.heap.size ≤ gb616)); have n4_ := ak ((by rw [hg]; exact (below_size (by repeat with_reducible first | exact HB.out | apply b1 | apply b2 | apply b3 | refine b4 ?_ GE615.out)) : w.heap.size ≤ gb616)); have n5_ := ak ((by rw [hg]; exact Nat.ne_of_lt (blk_lt (g := gb615) (o := .cells #[.string a0_0, .int .i64 a0_1] 27 (0, 0)) (ub BK615.out)) : gb615 ≠ gb616)); have n6_ := ak ((by rw [hg]; exact Nat.ne_of_gt (blk_lt (g := gb615) (o := .cells #[.string a0_0, .int .i64 a0_1] 27 (0, 0)) (ub BK615.out)) : gb616 ≠ gb615)); clear BK615; clear HB; have BK615 := n0_; have HB := n1_; have BK616 := n2_; have GW616 := n3_; have GE616 := n4_; have NB615_616 := n5_; have NB616_615 := n6_; clear n0_ n1_ n2_ n3_ n4_ n5_ n6_; clear hb hbox hg; have hnb9 := NB615_616.out; have hnc9 := NB616_615.out; have hcz10_0 : w8.cell? ⟨gb615, 0, none⟩ = some (.string a0_0) := (blk_cell BK615.out 0).trans rfl; have hcz10_1 : w8.cell? ⟨gb615, 1, none⟩ = some (.int .i64 a0_1) := (blk_cell BK615.out 1).trans rfl; have hfz10_0 := blk_frozen BK615.out 0; have hfz10_1 := blk_frozen BK615.out 1) | ((with_reducible refine gate_callee (f := 86) rfl ?_); refine goesL_ (some 9) rfl rfl Try.func86 (by kernel_rfl) rfl #[.agg #[.string a0_0, .int .i64 a0_1]] rfl (by (try simp only [List.map_toArray, List.map_cons, List.map_nil]); first | done | rfl | (simp only [List.length_drop, List.length_take]; rfl)) ?_; (with_reducible refine (bits_May.calls a0_0 a0_1 true _ A4.out).mono ?_); rintro e w11 ⟨rfl, hb⟩; refine ⟨_, rfl, ?_⟩; have n0_ := ak (blk_below (g := gb615) (o := .cells #[.string a0_0, .int .i64 a0_1] 27 (0, 0)) (ub BK615.out) hb); have n1_ := ak (blk_below (g := gb616) (o := .cells #[.string (⟨#[]⟩ : ByteArray), .int .i64 0] 27 (0, 0)) (ub BK616.out) hb); have n2_ := ak (below_step (by repeat with_reducible first | exact HB.out | apply b1 | apply b2 | apply b3 | refine b4 ?_ GE615.out | refine b4 ?_ GE616.out) hb); clear BK615; clear BK616; clear HB; have BK615 := n0_; have BK616 := n1_; have HB := n2_; clear n0_ n1_ n2_; (try clear hb); (try clear hb2); (try clear hk); (try clear hi); have hcz12_0 : w11.cell? ⟨gb616, 0, none⟩ = some (.string (⟨#[]⟩ : ByteArray)) := (blk_cell BK616.out 0).trans rfl; have hcz12_1 : w11.cell? ⟨gb616, 1, none⟩ = some (.int .i64 0) := (blk_cell BK616.out 1).trans rfl; have hfz12_0 := blk_frozen BK616.out 0; have hfz12_1 := blk_frozen BK616.out 1))
  refine bodyPost_ret (results_ct rfl _ _ gb616 27 #[.string (⟨#[]⟩ : ByteArray), .int .i64 0] (0, 0) _ rfl (by (with_reducible repeat (first | refine blk_drewN ?_ _ | refine blk_drew ?_ | refine blk_alloc ?_ _)); refine blk_put (cs := #[.string (⟨#[]⟩ : ByteArray), .int .i64 0]) ?_ 1 _ rfl; (with_reducible repeat (first | refine blk_drewN ?_ _ | refine blk_drew ?_ | refine blk_alloc ?_ _)); refine blk_put (cs := #[.string (⟨#[]⟩ : ByteArray), .int .i64 0]) ?_ 0 _ rfl; (with_reducible repeat (first | refine blk_drewN ?_ _ | refine blk_drew ?_ | refine blk_alloc ?_ _)); exact BK616.out) Try.underlying27 rfl (by kernel_rfl)) rfl ?_
  exact ⟨by first | rfl | (simp [errW_none, errW_some] <;> rfl) | (simp [*, errW_none, errW_some] <;> rfl), by repeat with_reducible first | exact HB.out | apply b1 | apply b2 | apply b3 | refine b4 ?_ GE615.out | refine b4 ?_ GE616.out⟩
 rw [if_neg c6] at H
 have c6b0 : decide (a1 < 0) = false := decide_eq_false c6
 clear c6
 by_cases c13 : a1 > a2
 ·
  rw [if_pos c13] at H
  have c13b0 : decide (a2 < a1) = true := decide_eq_true c13
  clear c13
  simp only [Option.some.injEq, Prod.mk.injEq] at H
  obtain ⟨rfl, rfl, rfl⟩ := H
  go_enter Try.func42, Try.ntmps42
  go_wp2_with (first | ((with_reducible refine gate_dst (N := 3) rfl ?_); refine box_event ?hg (N := 3) ?hd (cs := #[.string a0_0, .int .i64 a0_1]) (t := 27) ?hr ?_; (case hd => rfl); (case hg => rfl); (case hr => first | (go_simp; done) | (go_simp; rfl)); intro gb615 hg w14 hbox hb; have n0_ := ak (below_step (ul HB.out) hb); have n1_ := ak (hbox); have n2_ := ak ((by rw [hg]; exact (below_size (ul HB.out)) : w.heap.size ≤ gb615)); have n3_ := ak ((by rw [hg]; exact (below_size (ul HB.out)) : w.heap.size ≤ gb615)); clear HB; have HB := n0_; have BK615 := n1_; have GW615 := n2_; have GE615 := n3_; clear n0_ n1_ n2_ n3_; clear hb hbox hg) | ((with_reducible refine gate_dst (N := 6) rfl ?_); refine box_event ?hg (N := 6) ?hd (cs := #[.string (⟨#[]⟩ : ByteArray), .int .i64 0]) (t := 27) ?hr ?_; (case hd => rfl); (case hg => rfl); (case hr => first | (go_simp; done) | (go_simp; rfl)); intro gb616 hg w15 hbox hb; have n0_ := ak (blk_below (g := gb615) (o := .cells #[.string a0_0, .int .i64 a0_1] 27 (0, 0)) (ub BK615.out) hb); have n1_ := ak (below_step (by repeat with_reducible first | exact HB.out | apply b1 | apply b2 | apply b3 | refine b4 ?_ GE615.out) hb); have n2_ := ak (hbox); have n3_ := ak ((by rw [hg]; exact (below_size (by repeat with_reducible first | exact HB.out | apply b1 | apply b2 | apply b3 | refine b4 ?_ GE615.out)) : w.heap.size ≤ gb616)); have n4_ := ak ((by rw [hg]; exact (below_size (by repeat with_reducible first | exact HB.out | apply b1 | apply b2 | apply b3 | refine b4 ?_ GE615.out)) : w.heap.size ≤ gb616)); have n5_ := ak ((by rw [hg]; exact Nat.ne_of_lt (blk_lt (g := gb615) (o := .cells #[.string a0_0, .int .i64 a0_1] 27 (0, 0)) (ub BK615.out)) : gb615 ≠ gb616)); have n6_ := ak ((by rw [hg]; exact Nat.ne_of_gt (blk_lt (g := gb615) (o := .cells #[.string a0_0, .int .i64 a0_1] 27 (0, 0)) (ub BK615.out)) : gb616 ≠ gb615)); clear BK615; clear HB; have BK615 := n0_; have HB := n1_; have BK616 := n2_; have GW616 := n3_; have GE616 := n4_; have NB615_616 := n5_; have NB616_615 := n6_; clear n0_ n1_ n2_ n3_ n4_ n5_ n6_; clear hb hbox hg; have hnb16 := NB615_616.out; have hnc16 := NB616_615.out; have hcz17_0 : w15.cell? ⟨gb615, 0, none⟩ = some (.string a0_0) := (blk_cell BK615.out 0).trans rfl; have hcz17_1 : w15.cell? ⟨gb615, 1, none⟩ = some (.int .i64 a0_1) := (blk_cell BK615.out 1).trans rfl; have hfz17_0 := blk_frozen BK615.out 0; have hfz17_1 := blk_frozen BK615.out 1) | ((with_reducible refine gate_callee (f := 86) rfl ?_); refine goesL_ (some 9) rfl rfl Try.func86 (by kernel_rfl) rfl #[.agg #[.string a0_0, .int .i64 a0_1]] rfl (by (try simp only [List.map_toArray, List.map_cons, List.map_nil]); first | done | rfl | (simp only [List.length_drop, List.length_take]; rfl)) ?_; (with_reducible refine (bits_May.calls a0_0 a0_1 true _ A4.out).mono ?_); rintro e w18 ⟨rfl, hb⟩; refine ⟨_, rfl, ?_⟩; have n0_ := ak (blk_below (g := gb615) (o := .cells #[.string a0_0, .int .i64 a0_1] 27 (0, 0)) (ub BK615.out) hb); have n1_ := ak (blk_below (g := gb616) (o := .cells #[.string (⟨#[]⟩ : ByteArray), .int .i64 0] 27 (0, 0)) (ub BK616.out) hb); have n2_ := ak (below_step (by repeat with_reducible first | exact HB.out | apply b1 | apply b2 | apply b3 | refine b4 ?_ GE615.out | refine b4 ?_ GE616.out) hb); clear BK615; clear BK616; clear HB; have BK615 := n0_; have BK616 := n1_; have HB := n2_; clear n0_ n1_ n2_; (try clear hb); (try clear hb2); (try clear hk); (try clear hi); have hcz19_0 : w18.cell? ⟨gb616, 0, none⟩ = some (.string (⟨#[]⟩ : ByteArray)) := (blk_cell BK616.out 0).trans rfl; have hcz19_1 : w18.cell? ⟨gb616, 1, none⟩ = some (.int .i64 0) := (blk_cell BK616.out 1).trans rfl; have hfz19_0 := blk_frozen BK616.out 0; have hfz19_1 := blk_frozen BK616.out 1))
  refine bodyPost_ret (results_ct rfl _ _ gb616 27 #[.string (⟨#[]⟩ : ByteArray), .int .i64 0] (0, 0) _ rfl (by (with_reducible repeat (first | refine blk_drewN ?_ _ | refine blk_drew ?_ | refine blk_alloc ?_ _)); refine blk_put (cs := #[.string (⟨#[]⟩ : ByteArray), .int .i64 0]) ?_ 1 _ rfl; (with_reducible repeat (first | refine blk_drewN ?_ _ | refine blk_drew ?_ | refine blk_alloc ?_ _)); refine blk_put (cs := #[.string (⟨#[]⟩ : ByteArray), .int .i64 0]) ?_ 0 _ rfl; (with_reducible repeat (first | refine blk_drewN ?_ _ | refine blk_drew ?_ | refine blk_alloc ?_ _)); exact BK616.out) Try.underlying27 rfl (by kernel_rfl)) rfl ?_
  exact ⟨by first | rfl | (simp [errW_none, errW_some] <;> rfl) | (simp [*, errW_none, errW_some] <;> rfl), by repeat with_reducible first | exact HB.out | apply b1 | apply b2 | apply b3 | refine b4 ?_ GE615.out | refine b4 ?_ GE616.out⟩
 rw [if_neg c13] at H
 have c13b0 : decide (a2 < a1) = false := decide_eq_false c13
 clear c13
 by_cases c20 : a2 > a0_1
 ·
  rw [if_pos c20] at H
  have c20b0 : decide (a0_1 < a2) = true := decide_eq_true c20
  clear c20
  simp only [Option.some.injEq, Prod.mk.injEq] at H
  obtain ⟨rfl, rfl, rfl⟩ := H
  go_enter Try.func42, Try.ntmps42
  go_wp2_with (first | ((with_reducible refine gate_dst (N := 3) rfl ?_); refine box_event ?hg (N := 3) ?hd (cs := #[.string a0_0, .int .i64 a0_1]) (t := 27) ?hr ?_; (case hd => rfl); (case hg => rfl); (case hr => first | (go_simp; done) | (go_simp; rfl)); intro gb615 hg w21 hbox hb; have n0_ := ak (below_step (ul HB.out) hb); have n1_ := ak (hbox); have n2_ := ak ((by rw [hg]; exact (below_size (ul HB.out)) : w.heap.size ≤ gb615)); have n3_ := ak ((by rw [hg]; exact (below_size (ul HB.out)) : w.heap.size ≤ gb615)); clear HB; have HB := n0_; have BK615 := n1_; have GW615 := n2_; have GE615 := n3_; clear n0_ n1_ n2_ n3_; clear hb hbox hg) | ((with_reducible refine gate_dst (N := 6) rfl ?_); refine box_event ?hg (N := 6) ?hd (cs := #[.string (⟨#[]⟩ : ByteArray), .int .i64 0]) (t := 27) ?hr ?_; (case hd => rfl); (case hg => rfl); (case hr => first | (go_simp; done) | (go_simp; rfl)); intro gb616 hg w22 hbox hb; have n0_ := ak (blk_below (g := gb615) (o := .cells #[.string a0_0, .int .i64 a0_1] 27 (0, 0)) (ub BK615.out) hb); have n1_ := ak (below_step (by repeat with_reducible first | exact HB.out | apply b1 | apply b2 | apply b3 | refine b4 ?_ GE615.out) hb); have n2_ := ak (hbox); have n3_ := ak ((by rw [hg]; exact (below_size (by repeat with_reducible first | exact HB.out | apply b1 | apply b2 | apply b3 | refine b4 ?_ GE615.out)) : w.heap.size ≤ gb616)); have n4_ := ak ((by rw [hg]; exact (below_size (by repeat with_reducible first | exact HB.out | apply b1 | apply b2 | apply b3 | refine b4 ?_ GE615.out)) : w.heap.size ≤ gb616)); have n5_ := ak ((by rw [hg]; exact Nat.ne_of_lt (blk_lt (g := gb615) (o := .cells #[.string a0_0, .int .i64 a0_1] 27 (0, 0)) (ub BK615.out)) : gb615 ≠ gb616)); have n6_ := ak ((by rw [hg]; exact Nat.ne_of_gt (blk_lt (g := gb615) (o := .cells #[.string a0_0, .int .i64 a0_1] 27 (0, 0)) (ub BK615.out)) : gb616 ≠ gb615)); clear BK615; clear HB; have BK615 := n0_; have HB := n1_; have BK616 := n2_; have GW616 := n3_; have GE616 := n4_; have NB615_616 := n5_; have NB616_615 := n6_; clear n0_ n1_ n2_ n3_ n4_ n5_ n6_; clear hb hbox hg; have hnb23 := NB615_616.out; have hnc23 := NB616_615.out; have hcz24_0 : w22.cell? ⟨gb615, 0, none⟩ = some (.string a0_0) := (blk_cell BK615.out 0).trans rfl; have hcz24_1 : w22.cell? ⟨gb615, 1, none⟩ = some (.int .i64 a0_1) := (blk_cell BK615.out 1).trans rfl; have hfz24_0 := blk_frozen BK615.out 0; have hfz24_1 := blk_frozen BK615.out 1) | ((with_reducible refine gate_callee (f := 86) rfl ?_); refine goesL_ (some 9) rfl rfl Try.func86 (by kernel_rfl) rfl #[.agg #[.string a0_0, .int .i64 a0_1]] rfl (by (try simp only [List.map_toArray, List.map_cons, List.map_nil]); first | done | rfl | (simp only [List.length_drop, List.length_take]; rfl)) ?_; (with_reducible refine (bits_May.calls a0_0 a0_1 true _ A4.out).mono ?_); rintro e w25 ⟨rfl, hb⟩; refine ⟨_, rfl, ?_⟩; have n0_ := ak (blk_below (g := gb615) (o := .cells #[.string a0_0, .int .i64 a0_1] 27 (0, 0)) (ub BK615.out) hb); have n1_ := ak (blk_below (g := gb616) (o := .cells #[.string (⟨#[]⟩ : ByteArray), .int .i64 0] 27 (0, 0)) (ub BK616.out) hb); have n2_ := ak (below_step (by repeat with_reducible first | exact HB.out | apply b1 | apply b2 | apply b3 | refine b4 ?_ GE615.out | refine b4 ?_ GE616.out) hb); clear BK615; clear BK616; clear HB; have BK615 := n0_; have BK616 := n1_; have HB := n2_; clear n0_ n1_ n2_; (try clear hb); (try clear hb2); (try clear hk); (try clear hi); have hcz26_0 : w25.cell? ⟨gb615, 0, none⟩ = some (.string a0_0) := (blk_cell BK615.out 0).trans rfl; have hcz26_1 : w25.cell? ⟨gb615, 1, none⟩ = some (.int .i64 a0_1) := (blk_cell BK615.out 1).trans rfl; have hfz26_0 := blk_frozen BK615.out 0; have hfz26_1 := blk_frozen BK615.out 1; have hcz27_0 : w25.cell? ⟨gb616, 0, none⟩ = some (.string (⟨#[]⟩ : ByteArray)) := (blk_cell BK616.out 0).trans rfl; have hcz27_1 : w25.cell? ⟨gb616, 1, none⟩ = some (.int .i64 0) := (blk_cell BK616.out 1).trans rfl; have hfz27_0 := blk_frozen BK616.out 0; have hfz27_1 := blk_frozen BK616.out 1))
  refine bodyPost_ret (results_ct rfl _ _ gb616 27 #[.string (⟨#[]⟩ : ByteArray), .int .i64 0] (0, 0) _ rfl (by (with_reducible repeat (first | refine blk_drewN ?_ _ | refine blk_drew ?_ | refine blk_alloc ?_ _)); refine blk_put (cs := #[.string (⟨#[]⟩ : ByteArray), .int .i64 0]) ?_ 1 _ rfl; (with_reducible repeat (first | refine blk_drewN ?_ _ | refine blk_drew ?_ | refine blk_alloc ?_ _)); refine blk_put (cs := #[.string (⟨#[]⟩ : ByteArray), .int .i64 0]) ?_ 0 _ rfl; (with_reducible repeat (first | refine blk_drewN ?_ _ | refine blk_drew ?_ | refine blk_alloc ?_ _)); exact BK616.out) Try.underlying27 rfl (by kernel_rfl)) rfl ?_
  exact ⟨by first | rfl | (simp [errW_none, errW_some] <;> rfl) | (simp [*, errW_none, errW_some] <;> rfl), by repeat with_reducible first | exact HB.out | apply b1 | apply b2 | apply b3 | refine b4 ?_ GE615.out | refine b4 ?_ GE616.out⟩
 rw [if_neg c20] at H
 have c20b0 : decide (a0_1 < a2) = false := decide_eq_false c20
 clear c20
 replace H := Option.bind_eq_some_iff.mp H
 obtain ⟨⟨t618, t619⟩, A280, H⟩ := H
 try dsimp only at H
 have A28 := ak A280
 clear A280
 simp only [Option.some.injEq, Prod.mk.injEq] at H
 obtain ⟨rfl, rfl, rfl⟩ := H
 go_enter Try.func42, Try.ntmps42
 go_wp2_with (first | ((with_reducible refine gate_dst (N := 3) rfl ?_); refine box_event ?hg (N := 3) ?hd (cs := #[.string a0_0, .int .i64 a0_1]) (t := 27) ?hr ?_; (case hd => rfl); (case hg => rfl); (case hr => first | (go_simp; done) | (go_simp; rfl)); intro gb615 hg w29 hbox hb; have n0_ := ak (below_step (ul HB.out) hb); have n1_ := ak (hbox); have n2_ := ak ((by rw [hg]; exact (below_size (ul HB.out)) : w.heap.size ≤ gb615)); have n3_ := ak ((by rw [hg]; exact (below_size (ul HB.out)) : w.heap.size ≤ gb615)); clear HB; have HB := n0_; have BK615 := n1_; have GW615 := n2_; have GE615 := n3_; clear n0_ n1_ n2_ n3_; clear hb hbox hg) | ((with_reducible refine gate_dst (N := 6) rfl ?_); refine box_event ?hg (N := 6) ?hd (cs := #[.string (⟨#[]⟩ : ByteArray), .int .i64 0]) (t := 27) ?hr ?_; (case hd => rfl); (case hg => rfl); (case hr => first | (go_simp; done) | (go_simp; rfl)); intro gb616 hg w30 hbox hb; have n0_ := ak (blk_below (g := gb615) (o := .cells #[.string a0_0, .int .i64 a0_1] 27 (0, 0)) (ub BK615.out) hb); have n1_ := ak (below_step (by repeat with_reducible first | exact HB.out | apply b1 | apply b2 | apply b3 | refine b4 ?_ GE615.out) hb); have n2_ := ak (hbox); have n3_ := ak ((by rw [hg]; exact (below_size (by repeat with_reducible first | exact HB.out | apply b1 | apply b2 | apply b3 | refine b4 ?_ GE615.out)) : w.heap.size ≤ gb616)); have n4_ := ak ((by rw [hg]; exact (below_size (by repeat with_reducible first | exact HB.out | apply b1 | apply b2 | apply b3 | refine b4 ?_ GE615.out)) : w.heap.size ≤ gb616)); have n5_ := ak ((by rw [hg]; exact Nat.ne_of_lt (blk_lt (g := gb615) (o := .cells #[.string a0_0, .int .i64 a0_1] 27 (0, 0)) (ub BK615.out)) : gb615 ≠ gb616)); have n6_ := ak ((by rw [hg]; exact Nat.ne_of_gt (blk_lt (g := gb615) (o := .cells #[.string a0_0, .int .i64 a0_1] 27 (0, 0)) (ub BK615.out)) : gb616 ≠ gb615)); clear BK615; clear HB; have BK615 := n0_; have HB := n1_; have BK616 := n2_; have GW616 := n3_; have GE616 := n4_; have NB615_616 := n5_; have NB616_615 := n6_; clear n0_ n1_ n2_ n3_ n4_ n5_ n6_; clear hb hbox hg; have hnb31 := NB615_616.out; have hnc31 := NB616_615.out; have hcz32_0 : w30.cell? ⟨gb615, 0, none⟩ = some (.string a0_0) := (blk_cell BK615.out 0).trans rfl; have hcz32_1 : w30.cell? ⟨gb615, 1, none⟩ = some (.int .i64 a0_1) := (blk_cell BK615.out 1).trans rfl; have hfz32_0 := blk_frozen BK615.out 0; have hfz32_1 := blk_frozen BK615.out 1) | ((with_reducible refine gate_callee (f := 86) rfl ?_); refine goesL_ (some 9) rfl rfl Try.func86 (by kernel_rfl) rfl #[.agg #[.string a0_0, .int .i64 a0_1]] rfl (by (try simp only [List.map_toArray, List.map_cons, List.map_nil]); first | done | rfl | (simp only [List.length_drop, List.length_take]; rfl)) ?_; (with_reducible refine (bits_May.calls a0_0 a0_1 true _ A4.out).mono ?_); rintro e w33 ⟨rfl, hb⟩; refine ⟨_, rfl, ?_⟩; have n0_ := ak (blk_below (g := gb615) (o := .cells #[.string a0_0, .int .i64 a0_1] 27 (0, 0)) (ub BK615.out) hb); have n1_ := ak (blk_below (g := gb616) (o := .cells #[.string (⟨#[]⟩ : ByteArray), .int .i64 0] 27 (0, 0)) (ub BK616.out) hb); have n2_ := ak (below_step (by repeat with_reducible first | exact HB.out | apply b1 | apply b2 | apply b3 | refine b4 ?_ GE615.out | refine b4 ?_ GE616.out) hb); clear BK615; clear BK616; clear HB; have BK615 := n0_; have BK616 := n1_; have HB := n2_; clear n0_ n1_ n2_; (try clear hb); (try clear hb2); (try clear hk); (try clear hi); have hcz34_0 : w33.cell? ⟨gb615, 0, none⟩ = some (.string a0_0) := (blk_cell BK615.out 0).trans rfl; have hcz34_1 : w33.cell? ⟨gb615, 1, none⟩ = some (.int .i64 a0_1) := (blk_cell BK615.out 1).trans rfl; have hfz34_0 := blk_frozen BK615.out 0; have hfz34_1 := blk_frozen BK615.out 1) | ((with_reducible refine gate_callee (f := 99) rfl ?_); refine goesL_ (some 30) rfl rfl Try.func99 (by kernel_rfl) rfl #[.agg #[.string a0_0, .int .i64 a0_1], .int .i64 a1, .int .i64 a2] rfl (by (try simp only [List.map_toArray, List.map_cons, List.map_nil]); first | done | rfl | (simp only [List.length_drop, List.length_take]; rfl)) ?_; (with_reducible refine (bits_Part.calls a0_0 a0_1 a1 a2 t618 t619 _ A28.out).mono ?_); rintro e w35 ⟨rfl, hb⟩; refine ⟨_, rfl, ?_⟩; have n0_ := ak (blk_below (g := gb615) (o := .cells #[.string a0_0, .int .i64 a0_1] 27 (0, 0)) (ub BK615.out) hb); have n1_ := ak (blk_below (g := gb616) (o := .cells #[.string (⟨#[]⟩ : ByteArray), .int .i64 0] 27 (0, 0)) (ub BK616.out) hb); have n2_ := ak (below_step (by repeat with_reducible first | exact HB.out | apply b1 | apply b2 | apply b3 | refine b4 ?_ GE615.out | refine b4 ?_ GE616.out) hb); clear BK615; clear BK616; clear HB; have BK615 := n0_; have BK616 := n1_; have HB := n2_; clear n0_ n1_ n2_; (try clear hb); (try clear hb2); (try clear hk); (try clear hi); have hcz36_0 : w35.cell? ⟨gb616, 0, none⟩ = some (.string (⟨#[]⟩ : ByteArray)) := (blk_cell BK616.out 0).trans rfl; have hcz36_1 : w35.cell? ⟨gb616, 1, none⟩ = some (.int .i64 0) := (blk_cell BK616.out 1).trans rfl; have hfz36_0 := blk_frozen BK616.out 0; have hfz36_1 := blk_frozen BK616.out 1))
 refine bodyPost_ret (results_ct rfl _ _ gb616 27 #[.string t618, .int .i64 t619] (0, 0) _ rfl (by (with_reducible repeat (first | refine blk_drewN ?_ _ | refine blk_drew ?_ | refine blk_alloc ?_ _)); refine blk_put (cs := #[.string t618, .int .i64 0]) ?_ 1 _ rfl; (with_reducible repeat (first | refine blk_drewN ?_ _ | refine blk_drew ?_ | refine blk_alloc ?_ _)); refine blk_put (cs := #[.string (⟨#[]⟩ : ByteArray), .int .i64 0]) ?_ 0 _ rfl; (with_reducible repeat (first | refine blk_drewN ?_ _ | refine blk_drew ?_ | refine blk_alloc ?_ _)); exact BK616.out) Try.underlying27 rfl (by kernel_rfl)) rfl ?_
 exact ⟨by first | rfl | (simp [errW_none, errW_some] <;> rfl) | (simp [*, errW_none, errW_some] <;> rfl), by repeat with_reducible first | exact HB.out | apply b1 | apply b2 | apply b3 | refine b4 ?_ GE615.out | refine b4 ?_ GE616.out⟩
end Go.Proofs.Ytnpghcikhpglkaa.Q
namespace Go.Proofs.Ytnpghcikhpglkaa.Q
open Go.RowKit Go.Proofs.YtnpghcikhpglkaaW.PrintWords Go.Proofs.YtnpghcikhpglkaaW.PrintLast Go.Proofs.YtnpghcikhpglkaaW.PrintMore Go.Proofs.Ytnpghcikhpglkaa.Hand Go.Proofs.Ytnpghcikhpglkaa.Pu
set_option linter.unusedVariables false
set_option linter.unusedSimpArgs false
set_option maxHeartbeats 4000000 in
set_option maxRecDepth 100000 in
theorem cat_no1 (s : ByteArray) (n : Int) (s2 : ByteArray) (n2 : Int) (w : World) (hm : ¬ MayP s n) :
    Calls Try.prog 43 #[.agg #[.string s, .int .i64 n], .agg #[.string s2, .int .i64 n2]] w fun e w' => e = .returned (.tuple #[.agg #[.string ⟨#[]⟩, .int .i64 0], .int .i64 1]) ∧ Below w.heap.size w w' := by
  have hu := Try.underlying27
  have A := Aside0.mk (show bits_May.f s n = some false by rw [may_eq, decide_eq_false hm])
  have HS := Aside0.mk (start3 w (.cells #[.string s, .int .i64 n] 27) (.cells #[.string s2, .int .i64 n2] 27) (.cells #[.string ⟨#[]⟩, .int .i64 0] 27))
  clear hm
  go_enter Try.func43, Try.ntmps43
  go_wp2_with (first | ((with_reducible refine gate_callee (f := 86) rfl ?_); refine goesL_ (some 9) rfl rfl Try.func86 (by kernel_rfl) rfl #[.agg #[.string s, .int .i64 n]] rfl (by (try simp only [List.map_toArray, List.map_cons, List.map_nil]); first | done | rfl) ?_; (with_reducible refine (bits_May.calls s n false _ A.out).mono ?_); rintro e w1 ⟨rfl, hb⟩; refine ⟨_, rfl, ?_⟩; have HA := Aside0.mk (keep2 HS.out.2.1 hb (by have := HS.out.2.2.2.2; omega)); have HR := Aside0.mk (keep2 HS.out.2.2.1 hb (by have := HS.out.2.2.2.2; omega)); obtain ⟨a0, a1, g0, g1⟩ := two_cells HA.out; obtain ⟨c0, c1, f0, f1⟩ := two_cells HR.out; have HB := Aside0.mk (below_then HS.out.2.2.2.1 HS.out.2.2.2.1.size hb); have HA1 := Aside0.mk (keep2 HS.out.1 hb (by have := HS.out.2.2.2.2; omega)); obtain ⟨x0, x1, y0, y1⟩ := two_cells HA1.out; clear hb))
  refine bodyPost_ret (results_list (rs := [.cell 4 27, .tmp 5]) rfl (by simp) (.cell (w.heap.size + 2) 27 #[.string ⟨#[]⟩, .int .i64 0] (0, 0) _ rfl (put2 HR.out) Try.underlying27 rfl (by kernel_rfl) (.tmp .nil))) rfl ⟨rfl, below_put2 HB.out (by omega) _ _⟩
set_option maxHeartbeats 4000000 in
set_option maxRecDepth 100000 in
theorem cat_no2 (s : ByteArray) (n : Int) (s2 : ByteArray) (n2 : Int) (w : World) (hm : MayP s n) (hm2 : ¬ MayP s2 n2) :
    Calls Try.prog 43 #[.agg #[.string s, .int .i64 n], .agg #[.string s2, .int .i64 n2]] w fun e w' => e = .returned (.tuple #[.agg #[.string ⟨#[]⟩, .int .i64 0], .int .i64 1]) ∧ Below w.heap.size w w' := by
  have hu := Try.underlying27
  have A := Aside0.mk (show bits_May.f s n = some true by rw [may_eq, decide_eq_true hm])
  have A2 := Aside0.mk (show bits_May.f s2 n2 = some false by rw [may_eq, decide_eq_false hm2])
  have HS := Aside0.mk (start3 w (.cells #[.string s, .int .i64 n] 27) (.cells #[.string s2, .int .i64 n2] 27) (.cells #[.string ⟨#[]⟩, .int .i64 0] 27))
  clear hm hm2
  go_enter Try.func43, Try.ntmps43
  go_wp2_with (first | ((with_reducible refine gate_callee (f := 86) rfl ?_); refine goesL_ (some 9) rfl rfl Try.func86 (by kernel_rfl) rfl #[.agg #[.string s, .int .i64 n]] rfl (by (try simp only [List.map_toArray, List.map_cons, List.map_nil]); first | done | rfl) ?_; (with_reducible refine (bits_May.calls s n true _ A.out).mono ?_); rintro e w1 ⟨rfl, hb⟩; refine ⟨_, rfl, ?_⟩; have HA := Aside0.mk (keep2 HS.out.2.1 hb (by have := HS.out.2.2.2.2; omega)); have HR := Aside0.mk (keep2 HS.out.2.2.1 hb (by have := HS.out.2.2.2.2; omega)); obtain ⟨a0, a1, g0, g1⟩ := two_cells HA.out; obtain ⟨c0, c1, f0, f1⟩ := two_cells HR.out; have HB := Aside0.mk (below_then HS.out.2.2.2.1 HS.out.2.2.2.1.size hb); have HA1 := Aside0.mk (keep2 HS.out.1 hb (by have := HS.out.2.2.2.2; omega)); obtain ⟨x0, x1, y0, y1⟩ := two_cells HA1.out; clear hb))
  go_wp2_with (first | (go_at_call 86; ((with_reducible refine (bits_May.calls s2 n2 false _ A2.out).mono ?_); rintro e w2 ⟨rfl, hb⟩); have HGG := Aside0.mk (Nat.lt_of_lt_of_le (blk_lt HR.out) hb.size); have HAA := Aside0.mk (keep2 HA.out hb (blk_lt HA.out)); have HRR := Aside0.mk (keep2 HR.out hb (blk_lt HR.out)); have HA11 := Aside0.mk (keep2 HA1.out hb (blk_lt HA1.out)); clear HA HR HA1 x0 x1 y0 y1 a0 a1 g0 g1 c0 c1 f0 f1; have HA := HAA; have HR := HRR; have HA1 := HA11; clear HAA HRR HA11; obtain ⟨a0, a1, g0, g1⟩ := two_cells HA.out; obtain ⟨c0, c1, f0, f1⟩ := two_cells HR.out; obtain ⟨x0, x1, y0, y1⟩ := two_cells HA1.out; have HBB := Aside0.mk (below_then HB.out HB.out.size hb); clear HB; have HB := HBB; clear HBB; clear hb))
  refine bodyPost_ret (results_list (rs := [.cell 4 27, .tmp 5]) rfl (by simp) (.cell (w.heap.size + 2) 27 #[.string ⟨#[]⟩, .int .i64 0] (0, 0) _ rfl (put2 HR.out) Try.underlying27 rfl (by kernel_rfl) (.tmp .nil))) rfl ⟨rfl, below_put2 HB.out (by omega) _ _⟩
set_option maxHeartbeats 4000000 in
set_option maxRecDepth 100000 in
theorem cat_yes (s : ByteArray) (n : Int) (s2 : ByteArray) (n2 : Int) (w : World) (hm : MayP s n) (hm2 : MayP s2 n2) (hn : n + n2 ≤ 6000) :
    Calls Try.prog 43 #[.agg #[.string s, .int .i64 n], .agg #[.string s2, .int .i64 n2]] w fun e w' => e = .returned (.tuple #[.agg #[.string (strOfNums (rowSeq s2 n2.toNat 0 (bytesI s, n)).1), .int .i64 (rowSeq s2 n2.toNat 0 (bytesI s, n)).2], .int .i64 0]) ∧ Below w.heap.size w w' := by
  have hu := Try.underlying27
  have A := Aside0.mk (show bits_May.f s n = some true by rw [may_eq, decide_eq_true hm])
  have A2 := Aside0.mk (show bits_May.f s2 n2 = some true by rw [may_eq, decide_eq_true hm2])
  have HS := Aside0.mk (start3 w (.cells #[.string s, .int .i64 n] 27) (.cells #[.string s2, .int .i64 n2] 27) (.cells #[.string ⟨#[]⟩, .int .i64 0] 27))
  have hsz : s.size ≤ 1073741824 := by have := hm.2.2.1; have := hm.2.1; omega
  have hn0 : 0 ≤ n := hm.1
  have hn6 : n ≤ 6000 := hm.2.1
  have hk0 : 0 ≤ n2 := hm2.1
  have hk6 : n2 ≤ 6000 := hm2.2.1
  have HSZ := Aside0.mk hm.2.2.1
  have HSZ2 := Aside0.mk hm2.2.2.1
  have HLE := Aside0.mk hn
  clear hm hm2 hn
  go_enter Try.func43, Try.ntmps43
  go_wp2_with (first | ((with_reducible refine gate_callee (f := 86) rfl ?_); refine goesL_ (some 9) rfl rfl Try.func86 (by kernel_rfl) rfl #[.agg #[.string s, .int .i64 n]] rfl (by (try simp only [List.map_toArray, List.map_cons, List.map_nil]); first | done | rfl) ?_; (with_reducible refine (bits_May.calls s n true _ A.out).mono ?_); rintro e w1 ⟨rfl, hb⟩; refine ⟨_, rfl, ?_⟩; have HA := Aside0.mk (keep2 HS.out.2.1 hb (by have := HS.out.2.2.2.2; omega)); have HR := Aside0.mk (keep2 HS.out.2.2.1 hb (by have := HS.out.2.2.2.2; omega)); obtain ⟨a0, a1, g0, g1⟩ := two_cells HA.out; obtain ⟨c0, c1, f0, f1⟩ := two_cells HR.out; have HB := Aside0.mk (below_then HS.out.2.2.2.1 HS.out.2.2.2.1.size hb); have HA1 := Aside0.mk (keep2 HS.out.1 hb (by have := HS.out.2.2.2.2; omega)); obtain ⟨x0, x1, y0, y1⟩ := two_cells HA1.out; clear hb))
  go_wp2_with (first | (go_at_call 86; ((with_reducible refine (bits_May.calls s2 n2 true _ A2.out).mono ?_); rintro e w2 ⟨rfl, hb⟩); have HGG := Aside0.mk (Nat.lt_of_lt_of_le (blk_lt HR.out) hb.size); have HAA := Aside0.mk (keep2 HA.out hb (blk_lt HA.out)); have HRR := Aside0.mk (keep2 HR.out hb (blk_lt HR.out)); have HA11 := Aside0.mk (keep2 HA1.out hb (blk_lt HA1.out)); clear HA HR HA1 x0 x1 y0 y1 a0 a1 g0 g1 c0 c1 f0 f1; have HA := HAA; have HR := HRR; have HA1 := HA11; clear HAA HRR HA11; obtain ⟨a0, a1, g0, g1⟩ := two_cells HA.out; obtain ⟨c0, c1, f0, f1⟩ := two_cells HR.out; obtain ⟨x0, x1, y0, y1⟩ := two_cells HA1.out; have HBB := Aside0.mk (below_then HB.out HB.out.size hb); clear HB; have HB := HBB; clear HBB; clear hb) | (go_at_call 88; ((with_reducible refine (from_ _ s n hsz).mono ?_); rintro e w3 ⟨p, rfl, hrow, hb3⟩); have HROW := Aside0.mk hrow; have HB3 := Aside0.mk hb3; have HAA := Aside0.mk (keep2 HA.out hb3 (blk_lt HA.out)); have HRR := Aside0.mk (keep2 HR.out hb3 (blk_lt HR.out)); clear HA HR a0 a1 g0 g1 c0 c1 f0 f1 HA1 x0 x1 y0 y1; have HA := HAA; have HR := HRR; clear HAA HRR; obtain ⟨a0, a1, g0, g1⟩ := two_cells HA.out; obtain ⟨c0, c1, f0, f1⟩ := two_cells HR.out; have HBB := Aside0.mk (below_then HB.out HB.out.size hb3); clear HB; have HB := HBB; clear HBB; clear hrow hb3))
  have HG2 := Aside0.mk (HGG.out)
  have HG1 := Aside0.mk (Nat.lt_of_succ_lt HGG.out)
  go_loopw [21] (fun i wr => ∃ (c : Nat) (st : List Int × Int), i = .int .i64 c ∧ Aside0 (rowSeq s2 (n2.toNat - c) c st = rowSeq s2 n2.toNat 0 (bytesI s, n)) ∧ Aside0 (RowIs wr w2.heap.size p st.1 st.2) ∧ Aside0 (st.2 = n + c) ∧ Aside0 ((st.1.length : Int) = (st.2 + 7) / 8) ∧ c ≤ n2.toNat ∧ Aside0 (wr.heap[w.heap.size + 1]? = some (.cells #[.string s2, .int .i64 n2] 27 (0, 0))) ∧ Aside0 (wr.heap[w.heap.size + 2]? = some (.cells #[.string ⟨#[]⟩, .int .i64 0] 27 (0, 0))) ∧ Aside0 (Below w.heap.size w wr) ∧ Aside0 (w3.heap.size ≤ wr.heap.size))
    (fun i wr => (n2 - intOf i).toNat)
  case atStart => exact ⟨0, (bytesI s, n), rfl, ⟨by simp⟩, ⟨HROW.out⟩, ⟨by simp⟩, ⟨by rw [bytesI_length]; exact HSZ.out⟩, Nat.zero_le _, ⟨HA.out⟩, ⟨HR.out⟩, ⟨HB.out⟩, ⟨Nat.le_refl _⟩⟩
  case round =>
    clear HA HR a0 a1 g0 g1 c0 c1 f0 f1 HB HROW
    obtain ⟨c, ⟨bs, m⟩, rfl, HSEQ, HROW, HM, HLEN, hc, HA, HR, HB, HWR⟩ := hrel
    have hm : Aside0 (m = n + c) := HM
    obtain ⟨a0, a1, g0, g1⟩ := two_cells HA.out
    obtain ⟨c0, c1, f0, f1⟩ := two_cells HR.out
    by_cases hlt : (c : Int) < n2
    · have HBIT := Aside0.mk (bit_some s2 n2 c (by omega) (by have := HSZ2.out; omega) (by omega))
      go_wp2_with (first | (go_at_call 100; ((with_reducible refine (bits_bit.calls s2 n2 c (bitOf s2 c) _ HBIT.out).mono ?_); rintro e w4 ⟨rfl, hb3⟩); have HROW2 := Aside0.mk (HROW.out.below hb3); have HBB := Aside0.mk hb3; clear hb3) | (go_at_call 89; ((with_reducible refine (row_put1 _ w2.heap.size p bs m (bitOf s2 c) HROW2.out ?e1 ?e2 ?e3 ?e4).mono ?_); (case e1 => rw [hm.out]; omega); (case e2 => exact HLEN.out); (case e3 => rw [hm.out]; omega); (case e4 => exact Nat.le_trans (Nat.le_trans HB3.out.size HWR.out) HBB.out.size); rintro e w5 ⟨rfl, hrow3, hb3⟩); have HROW3 := Aside0.mk hrow3; have HB4 := Aside0.mk hb3; clear hrow3 hb3))
      go_roundw
      case rel =>
        refine ⟨c + 1, rowPut 1 (bs, m) (bitOf s2 c), by go_num, ⟨?_⟩, ⟨HROW3.out⟩, ⟨?_⟩, ⟨rowPut1_len (bs, m) _ (by rw [hm.out]; omega) HLEN.out⟩, by omega, ⟨keep2 (keep2 HA.out HBB.out (blk_lt HA.out)) HB4.out (by have := HG1.out; omega)⟩, ⟨keep2 (keep2 HR.out HBB.out (blk_lt HR.out)) HB4.out (by have := HG2.out; omega)⟩, ⟨(HB.out.trans (HBB.out.mono HB.out.size)).trans (HB4.out.mono (by have := HG1.out; omega))⟩, ⟨Nat.le_trans HWR.out (Nat.le_trans HBB.out.size HB4.out.size)⟩⟩
        · rw [← HSEQ.out, show n2.toNat - c = (n2.toNat - (c + 1)) + 1 by omega, rowSeq, show ((c + 1 : Nat) : Int) = (c : Int) + 1 by omega]
        · rw [rowPut_snd, hm.out]; simp only []; omega
      case measure => simp [intOf]; omega
    · have hcc : c = n2.toNat := by omega
      have HE : Aside0 ((bs, m) = rowSeq s2 n2.toNat 0 (bytesI s, n)) := ⟨by
        have := HSEQ.out
        rw [hcc, Nat.sub_self, rowSeq] at this
        exact this⟩
      have HM6 : Aside0 (m ≤ 6000) := ⟨by have := hm.out; have := HLE.out; omega⟩
      clear hcc
      go_wp2_with (first | (go_at_call 90; ((with_reducible refine (row_bits_yes _ _ p bs m HROW.out HM6.out).mono ?_); rintro e w4 ⟨rfl, hb4⟩); have HR4 := Aside0.mk (keep2 HR.out hb4 (blk_lt HR.out)); have HB4 := Aside0.mk (below_then HB.out HB.out.size hb4); clear HR c0 c1 f0 f1; obtain ⟨c0, c1, f0, f1⟩ := two_cells HR4.out; clear hb4))
      refine bodyPost_ret (results_list (rs := [.cell 4 27, .tmp 5]) rfl (by simp) (.cell (w.heap.size + 2) 27 #[.string (strOfNums bs), .int .i64 m] (0, 0) _ rfl (put2 HR4.out) Try.underlying27 rfl (by kernel_rfl) (.tmp .nil))) rfl ⟨by rw [← HE.out] <;> rfl, below_put2 HB4.out (by omega) _ _⟩
set_option maxHeartbeats 4000000 in
set_option maxRecDepth 100000 in
theorem cat_full (s : ByteArray) (n : Int) (s2 : ByteArray) (n2 : Int) (w : World) (hm : MayP s n) (hm2 : MayP s2 n2) (hn : 6000 < n + n2) :
    Calls Try.prog 43 #[.agg #[.string s, .int .i64 n], .agg #[.string s2, .int .i64 n2]] w fun e w' => e = .returned (.tuple #[.agg #[.string ⟨#[]⟩, .int .i64 0], .int .i64 2]) ∧ Below w.heap.size w w' := by
  have hu := Try.underlying27
  have A := Aside0.mk (show bits_May.f s n = some true by rw [may_eq, decide_eq_true hm])
  have A2 := Aside0.mk (show bits_May.f s2 n2 = some true by rw [may_eq, decide_eq_true hm2])
  have HS := Aside0.mk (start3 w (.cells #[.string s, .int .i64 n] 27) (.cells #[.string s2, .int .i64 n2] 27) (.cells #[.string ⟨#[]⟩, .int .i64 0] 27))
  have hsz : s.size ≤ 1073741824 := by have := hm.2.2.1; have := hm.2.1; omega
  have hn0 : 0 ≤ n := hm.1
  have hn6 : n ≤ 6000 := hm.2.1
  have hk0 : 0 ≤ n2 := hm2.1
  have hk6 : n2 ≤ 6000 := hm2.2.1
  have HSZ := Aside0.mk hm.2.2.1
  have HSZ2 := Aside0.mk hm2.2.2.1
  have HLE := Aside0.mk hn
  clear hm hm2 hn
  go_enter Try.func43, Try.ntmps43
  go_wp2_with (first | ((with_reducible refine gate_callee (f := 86) rfl ?_); refine goesL_ (some 9) rfl rfl Try.func86 (by kernel_rfl) rfl #[.agg #[.string s, .int .i64 n]] rfl (by (try simp only [List.map_toArray, List.map_cons, List.map_nil]); first | done | rfl) ?_; (with_reducible refine (bits_May.calls s n true _ A.out).mono ?_); rintro e w1 ⟨rfl, hb⟩; refine ⟨_, rfl, ?_⟩; have HA := Aside0.mk (keep2 HS.out.2.1 hb (by have := HS.out.2.2.2.2; omega)); have HR := Aside0.mk (keep2 HS.out.2.2.1 hb (by have := HS.out.2.2.2.2; omega)); obtain ⟨a0, a1, g0, g1⟩ := two_cells HA.out; obtain ⟨c0, c1, f0, f1⟩ := two_cells HR.out; have HB := Aside0.mk (below_then HS.out.2.2.2.1 HS.out.2.2.2.1.size hb); have HA1 := Aside0.mk (keep2 HS.out.1 hb (by have := HS.out.2.2.2.2; omega)); obtain ⟨x0, x1, y0, y1⟩ := two_cells HA1.out; clear hb))
  go_wp2_with (first | (go_at_call 86; ((with_reducible refine (bits_May.calls s2 n2 true _ A2.out).mono ?_); rintro e w2 ⟨rfl, hb⟩); have HGG := Aside0.mk (Nat.lt_of_lt_of_le (blk_lt HR.out) hb.size); have HAA := Aside0.mk (keep2 HA.out hb (blk_lt HA.out)); have HRR := Aside0.mk (keep2 HR.out hb (blk_lt HR.out)); have HA11 := Aside0.mk (keep2 HA1.out hb (blk_lt HA1.out)); clear HA HR HA1 x0 x1 y0 y1 a0 a1 g0 g1 c0 c1 f0 f1; have HA := HAA; have HR := HRR; have HA1 := HA11; clear HAA HRR HA11; obtain ⟨a0, a1, g0, g1⟩ := two_cells HA.out; obtain ⟨c0, c1, f0, f1⟩ := two_cells HR.out; obtain ⟨x0, x1, y0, y1⟩ := two_cells HA1.out; have HBB := Aside0.mk (below_then HB.out HB.out.size hb); clear HB; have HB := HBB; clear HBB; clear hb) | (go_at_call 88; ((with_reducible refine (from_ _ s n hsz).mono ?_); rintro e w3 ⟨p, rfl, hrow, hb3⟩); have HROW := Aside0.mk hrow; have HB3 := Aside0.mk hb3; have HAA := Aside0.mk (keep2 HA.out hb3 (blk_lt HA.out)); have HRR := Aside0.mk (keep2 HR.out hb3 (blk_lt HR.out)); clear HA HR a0 a1 g0 g1 c0 c1 f0 f1 HA1 x0 x1 y0 y1; have HA := HAA; have HR := HRR; clear HAA HRR; obtain ⟨a0, a1, g0, g1⟩ := two_cells HA.out; obtain ⟨c0, c1, f0, f1⟩ := two_cells HR.out; have HBB := Aside0.mk (below_then HB.out HB.out.size hb3); clear HB; have HB := HBB; clear HBB; clear hrow hb3))
  have HG2 := Aside0.mk (HGG.out)
  have HG1 := Aside0.mk (Nat.lt_of_succ_lt HGG.out)
  go_loopw [21] (fun i wr => ∃ (c : Nat) (st : List Int × Int), i = .int .i64 c ∧ Aside0 (rowSeq s2 (n2.toNat - c) c st = rowSeq s2 n2.toNat 0 (bytesI s, n)) ∧ Aside0 (RowIs wr w2.heap.size p st.1 st.2) ∧ Aside0 (st.2 = n + c) ∧ Aside0 ((st.1.length : Int) = (st.2 + 7) / 8) ∧ c ≤ n2.toNat ∧ Aside0 (wr.heap[w.heap.size + 1]? = some (.cells #[.string s2, .int .i64 n2] 27 (0, 0))) ∧ Aside0 (wr.heap[w.heap.size + 2]? = some (.cells #[.string ⟨#[]⟩, .int .i64 0] 27 (0, 0))) ∧ Aside0 (Below w.heap.size w wr) ∧ Aside0 (w3.heap.size ≤ wr.heap.size))
    (fun i wr => (n2 - intOf i).toNat)
  case atStart => exact ⟨0, (bytesI s, n), rfl, ⟨by simp⟩, ⟨HROW.out⟩, ⟨by simp⟩, ⟨by rw [bytesI_length]; exact HSZ.out⟩, Nat.zero_le _, ⟨HA.out⟩, ⟨HR.out⟩, ⟨HB.out⟩, ⟨Nat.le_refl _⟩⟩
  case round =>
    clear HA HR a0 a1 g0 g1 c0 c1 f0 f1 HB HROW
    obtain ⟨c, ⟨bs, m⟩, rfl, HSEQ, HROW, HM, HLEN, hc, HA, HR, HB, HWR⟩ := hrel
    have hm : Aside0 (m = n + c) := HM
    obtain ⟨a0, a1, g0, g1⟩ := two_cells HA.out
    obtain ⟨c0, c1, f0, f1⟩ := two_cells HR.out
    by_cases hlt : (c : Int) < n2
    · have HBIT := Aside0.mk (bit_some s2 n2 c (by omega) (by have := HSZ2.out; omega) (by omega))
      go_wp2_with (first | (go_at_call 100; ((with_reducible refine (bits_bit.calls s2 n2 c (bitOf s2 c) _ HBIT.out).mono ?_); rintro e w4 ⟨rfl, hb3⟩); have HROW2 := Aside0.mk (HROW.out.below hb3); have HBB := Aside0.mk hb3; clear hb3) | (go_at_call 89; ((with_reducible refine (row_put1 _ w2.heap.size p bs m (bitOf s2 c) HROW2.out ?e1 ?e2 ?e3 ?e4).mono ?_); (case e1 => rw [hm.out]; omega); (case e2 => exact HLEN.out); (case e3 => rw [hm.out]; omega); (case e4 => exact Nat.le_trans (Nat.le_trans HB3.out.size HWR.out) HBB.out.size); rintro e w5 ⟨rfl, hrow3, hb3⟩); have HROW3 := Aside0.mk hrow3; have HB4 := Aside0.mk hb3; clear hrow3 hb3))
      go_roundw
      case rel =>
        refine ⟨c + 1, rowPut 1 (bs, m) (bitOf s2 c), by go_num, ⟨?_⟩, ⟨HROW3.out⟩, ⟨?_⟩, ⟨rowPut1_len (bs, m) _ (by rw [hm.out]; omega) HLEN.out⟩, by omega, ⟨keep2 (keep2 HA.out HBB.out (blk_lt HA.out)) HB4.out (by have := HG1.out; omega)⟩, ⟨keep2 (keep2 HR.out HBB.out (blk_lt HR.out)) HB4.out (by have := HG2.out; omega)⟩, ⟨(HB.out.trans (HBB.out.mono HB.out.size)).trans (HB4.out.mono (by have := HG1.out; omega))⟩, ⟨Nat.le_trans HWR.out (Nat.le_trans HBB.out.size HB4.out.size)⟩⟩
        · rw [← HSEQ.out, show n2.toNat - c = (n2.toNat - (c + 1)) + 1 by omega, rowSeq, show ((c + 1 : Nat) : Int) = (c : Int) + 1 by omega]
        · rw [rowPut_snd, hm.out]; simp only []; omega
      case measure => simp [intOf]; omega
    · have hcc : c = n2.toNat := by omega
      have HE : Aside0 ((bs, m) = rowSeq s2 n2.toNat 0 (bytesI s, n)) := ⟨by
        have := HSEQ.out
        rw [hcc, Nat.sub_self, rowSeq] at this
        exact this⟩
      have HM6 : Aside0 (6000 < m) := ⟨by have := hm.out; have := HLE.out; omega⟩
      clear hcc
      go_wp2_with (first | (go_at_call 90; ((with_reducible refine (row_bits_no _ _ p bs m HROW.out HM6.out).mono ?_); rintro e w4 ⟨rfl, hb4⟩); have HR4 := Aside0.mk (keep2 HR.out hb4 (blk_lt HR.out)); have HB4 := Aside0.mk (below_then HB.out HB.out.size hb4); clear HR c0 c1 f0 f1; obtain ⟨c0, c1, f0, f1⟩ := two_cells HR4.out; clear hb4))
      refine bodyPost_ret (results_list (rs := [.cell 4 27, .tmp 5]) rfl (by simp) (.cell (w.heap.size + 2) 27 #[.string ⟨#[]⟩, .int .i64 0] (0, 0) _ rfl (put2 HR4.out) Try.underlying27 rfl (by kernel_rfl) (.tmp .nil))) rfl ⟨rfl, below_put2 HB4.out (by omega) _ _⟩
/-- bits.Cat. -/
def bits_Cat.f (s : ByteArray) (n : Int) (s2 : ByteArray) (n2 : Int) : Option (ByteArray × Int × Int) :=
  if MayP s n ∧ MayP s2 n2 then (if n + n2 ≤ 6000 then some (packS (ofS s n ++ ofS s2 n2), n + n2, 0) else some (⟨#[]⟩, 0, 2)) else some (⟨#[]⟩, 0, 1)
theorem partK_ofS (s : ByteArray) (k : Nat) : ∀ i : Nat, partK s k (i : Int) = (List.range k).map fun j : Nat => bitOf s ((i + j : Nat) : Int) := by
  induction k with
  | zero => intro i; rfl
  | succ k ih =>
    intro i
    have h := ih (i + 1)
    rw [show (((i + 1 : Nat)) : Int) = (i : Int) + 1 by omega] at h
    rw [partK, List.range_succ_eq_map, List.map_cons, List.map_map, h]
    congr 1
    refine List.map_congr_left fun j _ => ?_
    simp only [Function.comp]
    congr 1
    omega
theorem partK_all (s : ByteArray) (n : Int) : partK s n.toNat 0 = ofS s n := by
  have := partK_ofS s n.toNat 0
  simp only [Nat.zero_add] at this
  exact this
theorem bits_Cat.calls (a0_0 : ByteArray) (a0_1 : Int) (a1_0 : ByteArray) (a1_1 : Int) (r1 : ByteArray) (r2 r3 : Int) (w : World) (h : bits_Cat.f a0_0 a0_1 a1_0 a1_1 = some (r1, r2, r3)) :
    Calls Try.prog 43 #[.agg #[.string a0_0, .int .i64 a0_1], .agg #[.string a1_0, .int .i64 a1_1]] w fun e w' => e = .returned (.tuple #[.agg #[.string r1, .int .i64 r2], .int .i64 r3]) ∧ Below w.heap.size w w' := by
  unfold bits_Cat.f at h
  by_cases hm : MayP a0_0 a0_1
  · by_cases hm2 : MayP a1_0 a1_1
    · rw [if_pos ⟨hm, hm2⟩] at h
      by_cases hn : a0_1 + a1_1 ≤ 6000
      · rw [if_pos hn] at h
        simp only [Option.some.injEq, Prod.mk.injEq] at h
        obtain ⟨rfl, rfl, rfl⟩ := h
        have e := cat_yes a0_0 a0_1 a1_0 a1_1 w hm hm2 hn
        have hp := rowSeq_pack a1_0 a1_1.toNat 0 (ofS a0_0 a0_1) (ofS_bits _ _)
        rw [pack_ofS _ _ hm, partK_all, List.length_append, ofS_length, ofS_length] at hp
        have h1 : ((a0_1.toNat : Nat) : Int) = a0_1 := Int.toNat_of_nonneg hm.1
        have h2 : (((a0_1.toNat + a1_1.toNat : Nat)) : Int) = a0_1 + a1_1 := by have := hm.1; have := hm2.1; omega
        rw [h1, h2] at hp
        rw [hp] at e
        exact e
      · rw [if_neg hn] at h
        simp only [Option.some.injEq, Prod.mk.injEq] at h
        obtain ⟨rfl, rfl, rfl⟩ := h
        exact cat_full a0_0 a0_1 a1_0 a1_1 w hm hm2 (by omega)
    · rw [if_neg (fun h => hm2 h.2)] at h
      simp only [Option.some.injEq, Prod.mk.injEq] at h
      obtain ⟨rfl, rfl, rfl⟩ := h
      exact cat_no2 a0_0 a0_1 a1_0 a1_1 w hm hm2
  · rw [if_neg (fun h => hm h.1)] at h
    simp only [Option.some.injEq, Prod.mk.injEq] at h
    obtain ⟨rfl, rfl, rfl⟩ := h
    exact cat_no1 a0_0 a0_1 a1_0 a1_1 w hm
end Go.Proofs.Ytnpghcikhpglkaa.Q
-- laid by a program of this session (a changed copy of the kit's print program): functions, contracts
namespace Go.Proofs.Ytnpghcikhpglkaa.Q
open Go.RowKit Go.Proofs.YtnpghcikhpglkaaW.PrintWords Go.Proofs.YtnpghcikhpglkaaW.PrintLast Go.Proofs.YtnpghcikhpglkaaW.PrintMore
attribute [local go_sem] max2_int min2_int max_two min_two max_three min_three max_four min_four   -- for this text's walks alone
set_option linter.unusedVariables false
set_option linter.unusedSimpArgs false
attribute [local go_sem high] eqA27
/-! ### herbariumlaw1_BitsExact: function 10 -/
mutual
def herbariumlaw1_BitsExact.j0 : Nat → List Int → List (S27) → List Int → Option (Bool)
  | 0, _, _, _ => none
  | k + 1, x3, x662000, x662001 => herbariumlaw1_BitsExact.l0 k x3 0 x662000 x662001
def herbariumlaw1_BitsExact.l0 : Nat → List Int → Int → List (S27) → List Int → Option (Bool)
  | 0, _, _, _, _ => none
  | k + 1, x3, x4, x662000, x662001 => if x4 < (x662000.length : Int) then (herbariumlaw1_BitsExact.j2 k x3 x4 (decide (x4 < 6)) x662000 x662001) else (herbariumlaw1_BitsExact.j2 k x3 x4 false x662000 x662001)
def herbariumlaw1_BitsExact.j2 : Nat → List Int → Int → Bool → List (S27) → List Int → Option (Bool)
  | 0, _, _, _, _, _ => none
  | k + 1, x3, x4, x51, x662000, x662001 => if x51 = true then (if 0 ≤ x4 then (if x4 < (x662000.length : Int) then ((herbariumref1_Bits.f k ((rd_T27 x662000 x4).f0) ((rd_T27 x662000 x4).f1)).bind fun t675 => ((bits_Check.f ((rd_T27 x662000 x4).f0) ((rd_T27 x662000 x4).f1)).bind fun t676 => ((herbariumlaw1_num.f t676).bind fun t677 => (if ((t677 == 0) != t675) = true then (some false) else (if t675 = true then ((herbariumref1_Of.f k ((rd_T27 x662000 x4).f0) ((rd_T27 x662000 x4).f1)).bind fun t678 => (herbariumlaw1_BitsExact.j3 k x3 x4 t675 t678 x662000 x662001 ((rd_T27 x662000 x4).f0) ((rd_T27 x662000 x4).f1))) else (herbariumlaw1_BitsExact.j3 k x3 x4 t675 ([] : List Int) x662000 x662001 ((rd_T27 x662000 x4).f0) ((rd_T27 x662000 x4).f1))))))) else (none)) else (none)) else ((herbariumlaw1_wakes.f k).bind fun t672 => (some t672))
def herbariumlaw1_BitsExact.j3 : Nat → List Int → Int → Bool → List Int → List (S27) → List Int → ByteArray → Int → Option (Bool)
  | 0, _, _, _, _, _, _, _, _ => none
  | k + 1, x3, x4, x6, x7, x662000, x662001, x675000, x675001 => herbariumlaw1_BitsExact.l1 k x3 x4 x6 x7 0 x662000 x662001 x675000 x675001
def herbariumlaw1_BitsExact.l1 : Nat → List Int → Int → Bool → List Int → Int → List (S27) → List Int → ByteArray → Int → Option (Bool)
  | 0, _, _, _, _, _, _, _, _, _ => none
  | k + 1, x3, x4, x6, x7, x8, x662000, x662001, x675000, x675001 => if x8 < (x3.length : Int) then (if 0 ≤ x8 then ((bits_Zeros.f k x675000 x675001 (rd x3 x8)).bind fun bt682 => (if x6 = true then ((herbariumref0_Num.f (rd x3 x8) x675001).bind fun t685 => (herbariumlaw1_BitsExact.j5 k x3 x4 x6 x7 x8 bt682.1 bt682.2 1 0 t685 x662000 x662001 x675000 x675001)) else (herbariumlaw1_BitsExact.j5 k x3 x4 x6 x7 x8 bt682.1 bt682.2 1 0 false x662000 x662001 x675000 x675001))) else (none)) else (herbariumlaw1_BitsExact.l3 k x3 x4 x6 x7 0 x662000 x662001 x675000 x675001)
def herbariumlaw1_BitsExact.j5 : Nat → List Int → Int → Bool → List Int → Int → Int → Int → Int → Int → Bool → List (S27) → List Int → ByteArray → Int → Option (Bool)
  | 0, _, _, _, _, _, _, _, _, _, _, _, _, _, _ => none
  | k + 1, x3, x4, x6, x7, x8, x9, x10, x11, x12, x94, x662000, x662001, x675000, x675001 => if x94 = true then (if 0 ≤ x8 then (if x8 < (x3.length : Int) then ((herbariumref1_List_Zeros.f k x7 (rd x3 x8)).bind fun t687 => (if t687 ≥ 0 then (herbariumlaw1_BitsExact.j6 k x3 x4 x6 x7 x8 x9 x10 0 t687 x662000 x662001 x675000 x675001) else (herbariumlaw1_BitsExact.j6 k x3 x4 x6 x7 x8 x9 x10 9 x12 x662000 x662001 x675000 x675001))) else (none)) else (none)) else (herbariumlaw1_BitsExact.j6 k x3 x4 x6 x7 x8 x9 x10 x11 x12 x662000 x662001 x675000 x675001)
def herbariumlaw1_BitsExact.j6 : Nat → List Int → Int → Bool → List Int → Int → Int → Int → Int → Int → List (S27) → List Int → ByteArray → Int → Option (Bool)
  | 0, _, _, _, _, _, _, _, _, _, _, _, _, _ => none
  | k + 1, x3, x4, x6, x7, x8, x9, x10, x11, x12, x662000, x662001, x675000, x675001 => (herbariumlaw1_num.f x10).bind fun t688 => (if t688 = x11 then (herbariumlaw1_BitsExact.j7 k x3 x4 x6 x7 x8 (x9 != x12) x662000 x662001 x675000 x675001) else (herbariumlaw1_BitsExact.j7 k x3 x4 x6 x7 x8 true x662000 x662001 x675000 x675001))
def herbariumlaw1_BitsExact.j7 : Nat → List Int → Int → Bool → List Int → Int → Bool → List (S27) → List Int → ByteArray → Int → Option (Bool)
  | 0, _, _, _, _, _, _, _, _, _, _ => none
  | k + 1, x3, x4, x6, x7, x8, x112, x662000, x662001, x675000, x675001 => if x112 = true then (some false) else (herbariumlaw1_BitsExact.l2 k x3 x4 x6 x7 x8 0 x662000 x662001 x675000 x675001)
def herbariumlaw1_BitsExact.l2 : Nat → List Int → Int → Bool → List Int → Int → Int → List (S27) → List Int → ByteArray → Int → Option (Bool)
  | 0, _, _, _, _, _, _, _, _, _, _ => none
  | k + 1, x3, x4, x6, x7, x8, x14, x662000, x662001, x675000, x675001 => if x14 < (x3.length : Int) then (if 0 ≤ x8 then (if x8 < (x3.length : Int) then (if 0 ≤ x14 then ((bits_Put.f x675000 x675001 (rd x3 x8) (rd x3 x14)).bind fun bt691 => (if x6 = true then ((herbariumref0_Num.f (rd x3 x14) 30).bind fun t697 => (if t697 = true then (if 0 ≤ (rd x3 x14) then ((herbariumref0_Num.f (rd x3 x8) (wrap64 ((shl .i64 1 (rd x3 x14)) - 1))).bind fun t700 => (herbariumlaw1_BitsExact.j9 k x3 x4 x6 x7 x8 x14 bt691.2.2 1 t700 x662000 x662001 x675000 x675001 bt691.1 bt691.2.1 (⟨#[]⟩ : ByteArray) 0)) else (none)) else (herbariumlaw1_BitsExact.j9 k x3 x4 x6 x7 x8 x14 bt691.2.2 1 false x662000 x662001 x675000 x675001 bt691.1 bt691.2.1 (⟨#[]⟩ : ByteArray) 0))) else (herbariumlaw1_BitsExact.j9 k x3 x4 x6 x7 x8 x14 bt691.2.2 1 false x662000 x662001 x675000 x675001 bt691.1 bt691.2.1 (⟨#[]⟩ : ByteArray) 0))) else (none)) else (none)) else (none)) else (herbariumlaw1_BitsExact.l1 k x3 x4 x6 x7 (wrap64 (x8 + 1)) x662000 x662001 x675000 x675001)
def herbariumlaw1_BitsExact.j9 : Nat → List Int → Int → Bool → List Int → Int → Int → Int → Int → Bool → List (S27) → List Int → ByteArray → Int → ByteArray → Int → ByteArray → Int → Option (Bool)
  | 0, _, _, _, _, _, _, _, _, _, _, _, _, _, _, _, _, _ => none
  | k + 1, x3, x4, x6, x7, x8, x14, x16, x17, x153, x662000, x662001, x675000, x675001, x695000, x695001, x696000, x696001 => if x153 = true then (if 0 ≤ x14 then (if x14 < (x3.length : Int) then (if (wrap64 (x675001 + (rd x3 x14))) ≤ 6000 then ((some (([] : List Int) : List Int)).bind fun y702 => (if y702.length + x7.length < 140737488355328 then (if 0 ≤ x8 then (if x8 < (x3.length : Int) then ((herbariumref1_List_Put.f k (y702 ++ x7) (rd x3 x8) (rd x3 x14)).bind fun t710 => ((herbariumref1_List_Pack.f k t710).bind fun bt713 => (herbariumlaw1_BitsExact.j10 k x3 x4 x6 x7 x8 x14 x16 0 x662000 x662001 x675000 x675001 x695000 x695001 bt713.1 bt713.2))) else (none)) else (none)) else (none))) else (herbariumlaw1_BitsExact.j10 k x3 x4 x6 x7 x8 x14 x16 2 x662000 x662001 x675000 x675001 x695000 x695001 x696000 x696001)) else (none)) else (none)) else (herbariumlaw1_BitsExact.j10 k x3 x4 x6 x7 x8 x14 x16 x17 x662000 x662001 x675000 x675001 x695000 x695001 x696000 x696001)
def herbariumlaw1_BitsExact.j10 : Nat → List Int → Int → Bool → List Int → Int → Int → Int → Int → List (S27) → List Int → ByteArray → Int → ByteArray → Int → ByteArray → Int → Option (Bool)
  | 0, _, _, _, _, _, _, _, _, _, _, _, _, _, _, _, _ => none
  | k + 1, x3, x4, x6, x7, x8, x14, x16, x17, x662000, x662001, x675000, x675001, x695000, x695001, x696000, x696001 => (herbariumlaw1_num.f x16).bind fun t715 => (if t715 = x17 then (herbariumlaw1_BitsExact.j11 k x3 x4 x6 x7 x8 x14 (!(x695000.toList == x696000.toList) || (!(x695001 == x696001))) x662000 x662001 x675000 x675001) else (herbariumlaw1_BitsExact.j11 k x3 x4 x6 x7 x8 x14 true x662000 x662001 x675000 x675001))
def herbariumlaw1_BitsExact.j11 : Nat → List Int → Int → Bool → List Int → Int → Int → Bool → List (S27) → List Int → ByteArray → Int → Option (Bool)
  | 0, _, _, _, _, _, _, _, _, _, _, _ => none
  | k + 1, x3, x4, x6, x7, x8, x14, x183, x662000, x662001, x675000, x675001 => if x183 = true then (some false) else (if 0 ≤ x8 then (if x8 < (x3.length : Int) then (if 0 ≤ x14 then (if x14 < (x3.length : Int) then ((bits_Get.f k x675000 x675001 (rd x3 x8) (rd x3 x14)).bind fun bt718 => (if x6 = true then (if (rd x3 x8) ≥ 0 then ((herbariumref0_Num.f (rd x3 x14) 30).bind fun t722 => (herbariumlaw1_BitsExact.j12 k x3 x4 x6 x7 x8 x14 bt718.1 bt718.2 1 0 t722 x662000 x662001 x675000 x675001)) else (herbariumlaw1_BitsExact.j12 k x3 x4 x6 x7 x8 x14 bt718.1 bt718.2 1 0 false x662000 x662001 x675000 x675001)) else (herbariumlaw1_BitsExact.j12 k x3 x4 x6 x7 x8 x14 bt718.1 bt718.2 1 0 false x662000 x662001 x675000 x675001))) else (none)) else (none)) else (none)) else (none))
def herbariumlaw1_BitsExact.j12 : Nat → List Int → Int → Bool → List Int → Int → Int → Int → Int → Int → Int → Bool → List (S27) → List Int → ByteArray → Int → Option (Bool)
  | 0, _, _, _, _, _, _, _, _, _, _, _, _, _, _, _ => none
  | k + 1, x3, x4, x6, x7, x8, x14, x19, x20, x21, x22, x211, x662000, x662001, x675000, x675001 => if x211 = true then (if 0 ≤ x8 then (if x8 < (x3.length : Int) then (if (rd x3 x8) ≤ x675001 then (if 0 ≤ x14 then (if x14 < (x3.length : Int) then (if (rd x3 x14) ≤ (wrap64 (x675001 - (rd x3 x8))) then ((herbariumref1_List_Get.f k x7 (rd x3 x8) (rd x3 x14)).bind fun t728 => (herbariumlaw1_BitsExact.j13 k x3 x4 x6 x7 x8 x14 x19 x20 0 t728 x662000 x662001 x675000 x675001)) else (herbariumlaw1_BitsExact.j13 k x3 x4 x6 x7 x8 x14 x19 x20 9 x22 x662000 x662001 x675000 x675001)) else (none)) else (none)) else (herbariumlaw1_BitsExact.j13 k x3 x4 x6 x7 x8 x14 x19 x20 9 x22 x662000 x662001 x675000 x675001)) else (none)) else (none)) else (herbariumlaw1_BitsExact.j13 k x3 x4 x6 x7 x8 x14 x19 x20 x21 x22 x662000 x662001 x675000 x675001)
def herbariumlaw1_BitsExact.j13 : Nat → List Int → Int → Bool → List Int → Int → Int → Int → Int → Int → Int → List (S27) → List Int → ByteArray → Int → Option (Bool)
  | 0, _, _, _, _, _, _, _, _, _, _, _, _, _, _ => none
  | k + 1, x3, x4, x6, x7, x8, x14, x19, x20, x21, x22, x662000, x662001, x675000, x675001 => if 0 ≤ x8 then (if x8 < (x3.length : Int) then (if 0 ≤ x14 then (if x14 < (x3.length : Int) then ((bits_Cut.f x675000 x675001 (rd x3 x8) (rd x3 x14)).bind fun bt731 => (if x6 = true then (if (rd x3 x8) ≥ 0 then (if (rd x3 x8) ≤ (rd x3 x14) then (herbariumlaw1_BitsExact.j14 k x3 x4 x6 x7 x8 x14 x19 x20 x21 x22 bt731.2.2 1 (decide ((rd x3 x14) ≤ x675001)) x662000 x662001 x675000 x675001 bt731.1 bt731.2.1 (⟨#[]⟩ : ByteArray) 0) else (herbariumlaw1_BitsExact.j14 k x3 x4 x6 x7 x8 x14 x19 x20 x21 x22 bt731.2.2 1 false x662000 x662001 x675000 x675001 bt731.1 bt731.2.1 (⟨#[]⟩ : ByteArray) 0)) else (herbariumlaw1_BitsExact.j14 k x3 x4 x6 x7 x8 x14 x19 x20 x21 x22 bt731.2.2 1 false x662000 x662001 x675000 x675001 bt731.1 bt731.2.1 (⟨#[]⟩ : ByteArray) 0)) else (herbariumlaw1_BitsExact.j14 k x3 x4 x6 x7 x8 x14 x19 x20 x21 x22 bt731.2.2 1 false x662000 x662001 x675000 x675001 bt731.1 bt731.2.1 (⟨#[]⟩ : ByteArray) 0))) else (none)) else (none)) else (none)) else (none)
def herbariumlaw1_BitsExact.j14 : Nat → List Int → Int → Bool → List Int → Int → Int → Int → Int → Int → Int → Int → Int → Bool → List (S27) → List Int → ByteArray → Int → ByteArray → Int → ByteArray → Int → Option (Bool)
  | 0, _, _, _, _, _, _, _, _, _, _, _, _, _, _, _, _, _, _, _, _, _ => none
  | k + 1, x3, x4, x6, x7, x8, x14, x19, x20, x21, x22, x24, x25, x284, x662000, x662001, x675000, x675001, x735000, x735001, x736000, x736001 => if x284 = true then (if 0 ≤ x8 then (if x8 < (x3.length : Int) then (if 0 ≤ x14 then (if x14 < (x3.length : Int) then (if 0 ≤ (rd x3 x8) then (if (rd x3 x8) ≤ (rd x3 x14) then (if (rd x3 x14) ≤ (x7.length : Int) then ((herbariumref1_List_Pack.f k ((x7.take ((rd x3 x14) : Int).toNat).drop ((rd x3 x8) : Int).toNat)).bind fun bt746 => (herbariumlaw1_BitsExact.j15 k x3 x4 x6 x7 x8 x14 x19 x20 x21 x22 x24 0 x662000 x662001 x675000 x675001 x735000 x735001 bt746.1 bt746.2)) else (none)) else (none)) else (none)) else (none)) else (none)) else (none)) else (none)) else (herbariumlaw1_BitsExact.j15 k x3 x4 x6 x7 x8 x14 x19 x20 x21 x22 x24 x25 x662000 x662001 x675000 x675001 x735000 x735001 x736000 x736001)
def herbariumlaw1_BitsExact.j15 : Nat → List Int → Int → Bool → List Int → Int → Int → Int → Int → Int → Int → Int → Int → List (S27) → List Int → ByteArray → Int → ByteArray → Int → ByteArray → Int → Option (Bool)
  | 0, _, _, _, _, _, _, _, _, _, _, _, _, _, _, _, _, _, _, _, _ => none
  | k + 1, x3, x4, x6, x7, x8, x14, x19, x20, x21, x22, x24, x25, x662000, x662001, x675000, x675001, x735000, x735001, x736000, x736001 => (herbariumlaw1_num.f x20).bind fun t748 => (if t748 = x21 then (if x19 = x22 then ((herbariumlaw1_num.f x24).bind fun t749 => (if t749 = x25 then (if (!(x735000.toList == x736000.toList) || (!(x735001 == x736001))) = true then (some false) else (herbariumlaw1_BitsExact.l2 k x3 x4 x6 x7 x8 (wrap64 (x14 + 1)) x662000 x662001 x675000 x675001)) else (some false))) else (some false)) else (some false))
def herbariumlaw1_BitsExact.l3 : Nat → List Int → Int → Bool → List Int → Int → List (S27) → List Int → ByteArray → Int → Option (Bool)
  | 0, _, _, _, _, _, _, _, _, _ => none
  | k + 1, x3, x4, x6, x7, x27, x662000, x662001, x675000, x675001 => if x27 < (x662000.length : Int) then (herbariumlaw1_BitsExact.j17 k x3 x4 x6 x7 x27 (decide (x27 < 6)) x662000 x662001 x675000 x675001) else (herbariumlaw1_BitsExact.j17 k x3 x4 x6 x7 x27 false x662000 x662001 x675000 x675001)
def herbariumlaw1_BitsExact.j17 : Nat → List Int → Int → Bool → List Int → Int → Bool → List (S27) → List Int → ByteArray → Int → Option (Bool)
  | 0, _, _, _, _, _, _, _, _, _, _ => none
  | k + 1, x3, x4, x6, x7, x27, x324, x662000, x662001, x675000, x675001 => if x324 = true then (if 0 ≤ x27 then (if x27 < (x662000.length : Int) then ((bits_Cat.f x675000 x675001 ((rd_T27 x662000 x27).f0) ((rd_T27 x662000 x27).f1)).bind fun bt751 => (if x6 = true then ((herbariumref1_Bits.f k ((rd_T27 x662000 x27).f0) ((rd_T27 x662000 x27).f1)).bind fun t757 => (herbariumlaw1_BitsExact.j18 k x3 x4 x6 x7 x27 bt751.2.2 1 t757 x662000 x662001 x675000 x675001 bt751.1 bt751.2.1 (⟨#[]⟩ : ByteArray) 0)) else (herbariumlaw1_BitsExact.j18 k x3 x4 x6 x7 x27 bt751.2.2 1 false x662000 x662001 x675000 x675001 bt751.1 bt751.2.1 (⟨#[]⟩ : ByteArray) 0))) else (none)) else (none)) else (herbariumlaw1_BitsExact.l0 k x3 (wrap64 (x4 + 1)) x662000 x662001)
def herbariumlaw1_BitsExact.j18 : Nat → List Int → Int → Bool → List Int → Int → Int → Int → Bool → List (S27) → List Int → ByteArray → Int → ByteArray → Int → ByteArray → Int → Option (Bool)
  | 0, _, _, _, _, _, _, _, _, _, _, _, _, _, _, _, _ => none
  | k + 1, x3, x4, x6, x7, x27, x29, x30, x346, x662000, x662001, x675000, x675001, x755000, x755001, x756000, x756001 => if x346 = true then (if 0 ≤ x27 then (if x27 < (x662000.length : Int) then (if (wrap64 (x675001 + ((rd_T27 x662000 x27).f1))) ≤ 6000 then ((some (([] : List Int) : List Int)).bind fun y759 => (if y759.length + x7.length < 140737488355328 then ((some (y759 ++ x7 : List Int)).bind fun y762 => ((herbariumref1_Of.f k ((rd_T27 x662000 x27).f0) ((rd_T27 x662000 x27).f1)).bind fun t766 => (if y762.length + t766.length < 140737488355328 then ((herbariumref1_List_Pack.f k (y762 ++ t766)).bind fun bt772 => ((herbariumlaw1_num.f x29).bind fun t774 => (if t774 = 0 then (if (!(x755000.toList == bt772.1.toList) || (!(x755001 == bt772.2))) = true then (some false) else (herbariumlaw1_BitsExact.l3 k x3 x4 x6 x7 (wrap64 (x27 + 1)) x662000 x662001 x675000 x675001)) else (some false)))) else (none)))) else (none))) else ((herbariumlaw1_num.f x29).bind fun t775 => (if t775 = 2 then (if (!(x755000.toList == x756000.toList) || (!(x755001 == x756001))) = true then (some false) else (herbariumlaw1_BitsExact.l3 k x3 x4 x6 x7 (wrap64 (x27 + 1)) x662000 x662001 x675000 x675001)) else (some false)))) else (none)) else (none)) else ((herbariumlaw1_num.f x29).bind fun t776 => (if t776 = x30 then (if (!(x755000.toList == x756000.toList) || (!(x755001 == x756001))) = true then (some false) else (herbariumlaw1_BitsExact.l3 k x3 x4 x6 x7 (wrap64 (x27 + 1)) x662000 x662001 x675000 x675001)) else (some false)))
end
def herbariumlaw1_BitsExact.f (k : Nat) (l0_0 : List (S27)) (l0_1 : List Int) : Option (Bool) := (herbariumlaw1_Heavy.f k l0_0 l0_1).bind fun t662 => (if t662 = true then (some true) else ((some (([0, 1, 3, 30, 31, (-1)] : List Int) : List Int)).bind fun y663 => (if y663.length + l0_1.length < 17592186044416 then ((some (y663 ++ l0_1 : List Int)).bind fun y666 => (if (y666.length : Int) > 12 then (if 12 ≤ (y666.length : Int) then (herbariumlaw1_BitsExact.j0 k (y666.take (12 : Int).toNat) l0_0 l0_1) else (none)) else (herbariumlaw1_BitsExact.j0 k y666 l0_0 l0_1))) else (none))))
def herbariumlaw1_BitsExact.T19 : Bool × List (List Nat × List Nat) := (true, [([], []), ([], []), ([], []), ([1, 2], [1, 2]), ([3], [3]), ([0, 4], [0, 4]), ([5], [5]), ([6], [6]), ([6], [6]), ([7, 5, 0, 1, 2, 3, 4, 5, 6, 7], [7]), ([8, 9, 0, 1, 2, 3, 4, 5, 6, 7, 8, 9], [8])])
def herbariumlaw1_BitsExact.B19 : List Nat := [0, 0, 0, 6, 14, 31, 63, 127, 127, 255, 1023]
theorem herbariumlaw1_BitsExact.tab19 : rtab .any (opsOf Try.f10 19) = herbariumlaw1_BitsExact.T19 := by kernel_rfl
theorem herbariumlaw1_BitsExact.bits19 : waitsOk herbariumlaw1_BitsExact.T19.2 herbariumlaw1_BitsExact.B19 = true := by kernel_rfl
def herbariumlaw1_BitsExact.T21 : Bool × List (List Nat × List Nat) := (true, [([], []), ([0], [0]), ([1], [1]), ([1], [1]), ([2, 3, 1], [1, 2, 3]), ([4, 1], [1, 4]), ([1], [1]), ([6, 1], [1, 6]), ([5, 7, 1, 1], [1, 5, 7]), ([1, 8], [1, 8])])
def herbariumlaw1_BitsExact.B21 : List Nat := [0, 1, 3, 3, 15, 31, 3, 67, 255, 511]
theorem herbariumlaw1_BitsExact.tab21 : rtab .any (opsOf Try.f10 21) = herbariumlaw1_BitsExact.T21 := by kernel_rfl
theorem herbariumlaw1_BitsExact.bits21 : waitsOk herbariumlaw1_BitsExact.T21.2 herbariumlaw1_BitsExact.B21 = true := by kernel_rfl
def herbariumlaw1_BitsExact.T31 : Bool × List (List Nat × List Nat) := (true, [([], []), ([], []), ([], []), ([1, 2], [1, 2]), ([3], [3]), ([], []), ([], []), ([5, 6], [5, 6]), ([7], [7]), ([0, 4, 8], [0, 4, 8]), ([9], [9]), ([10], [10]), ([10], [10]), ([], []), ([13, 11, 9, 0, 1, 2, 3, 4, 5, 6, 7, 8, 9, 10, 11, 13], [11, 13]), ([12, 14, 0, 1, 2, 3, 4, 5, 6, 7, 8, 9, 10, 11, 12, 13, 14], [12])])
def herbariumlaw1_BitsExact.B31 : List Nat := [0, 0, 0, 6, 14, 0, 0, 96, 224, 511, 1023, 2047, 2047, 0, 12287, 32767]
theorem herbariumlaw1_BitsExact.tab31 : rtab .any (opsOf Try.f10 31) = herbariumlaw1_BitsExact.T31 := by kernel_rfl
theorem herbariumlaw1_BitsExact.bits31 : waitsOk herbariumlaw1_BitsExact.T31.2 herbariumlaw1_BitsExact.B31 = true := by kernel_rfl
def herbariumlaw1_BitsExact.T33 : Bool × List (List Nat × List Nat) := (true, [([], []), ([0], [0]), ([1], [1]), ([1], [1]), ([2, 3, 1], [1, 2, 3]), ([4, 1], [1, 4]), ([5, 1, 1], [1, 5]), ([1, 6], [1, 6]), ([7, 6], [7]), ([8], [8]), ([8], [8]), ([9, 10, 8], [8, 9, 10]), ([11, 8], [8, 11]), ([8], [8]), ([8], [8]), ([13, 14, 8], [8, 13, 14]), ([15, 8], [8, 15]), ([16, 8], [8, 16]), ([17, 8], [8, 17]), ([12, 18, 8, 8], [8, 12, 18]), ([8, 19], [8, 19])])
def herbariumlaw1_BitsExact.B33 : List Nat := [0, 1, 3, 3, 15, 31, 63, 127, 255, 511, 511, 2047, 4095, 511, 511, 25087, 57855, 123391, 254463, 524287, 1048575]
theorem herbariumlaw1_BitsExact.tab33 : rtab .any (opsOf Try.f10 33) = herbariumlaw1_BitsExact.T33 := by kernel_rfl
theorem herbariumlaw1_BitsExact.bits33 : waitsOk herbariumlaw1_BitsExact.T33.2 herbariumlaw1_BitsExact.B33 = true := by kernel_rfl
def herbariumlaw1_BitsExact.T35 : Bool × List (List Nat × List Nat) := (true, [([], []), ([0], [0]), ([], []), ([], []), ([2, 3], [2, 3]), ([4], [4]), ([1, 5], [1, 5]), ([6], [6])])
def herbariumlaw1_BitsExact.B35 : List Nat := [0, 1, 0, 0, 12, 28, 63, 127]
theorem herbariumlaw1_BitsExact.tab35 : rtab .any (opsOf Try.f10 35) = herbariumlaw1_BitsExact.T35 := by kernel_rfl
theorem herbariumlaw1_BitsExact.bits35 : waitsOk herbariumlaw1_BitsExact.T35.2 herbariumlaw1_BitsExact.B35 = true := by kernel_rfl
def herbariumlaw1_BitsExact.T36 : Bool × List (List Nat × List Nat) := (true, [([], []), ([], []), ([0, 1], [0, 1]), ([], []), ([], []), ([3, 4], [3, 4]), ([5], [5]), ([], []), ([], []), ([7, 8], [7, 8]), ([9], [9]), ([2, 6, 10, 2], [2, 6, 10]), ([11, 11], [11]), ([12], []), ([12, 13, 0, 1, 2, 3, 4, 5, 6, 7, 8, 9, 10, 11, 12, 13], [12])])
def herbariumlaw1_BitsExact.B36 : List Nat := [0, 0, 3, 0, 0, 24, 56, 0, 0, 384, 896, 2047, 4095, 8191, 16383]
theorem herbariumlaw1_BitsExact.tab36 : rtab .any (opsOf Try.f10 36) = herbariumlaw1_BitsExact.T36 := by kernel_rfl
theorem herbariumlaw1_BitsExact.bits36 : waitsOk herbariumlaw1_BitsExact.T36.2 herbariumlaw1_BitsExact.B36 = true := by kernel_rfl
def herbariumlaw1_BitsExact.T39 : Bool × List (List Nat × List Nat) := (true, [([], []), ([], []), ([], []), ([1, 2], [1, 2]), ([3], [3]), ([], []), ([], []), ([5, 6], [5, 6]), ([7], [7]), ([0, 4, 8], [0, 4, 8]), ([9], [9]), ([10], [10]), ([10], [10]), ([11, 9, 0, 1, 2, 3, 4, 5, 6, 7, 8, 9, 10, 11], [11]), ([12, 13, 0, 1, 2, 3, 4, 5, 6, 7, 8, 9, 10, 11, 12, 13], [12])])
def herbariumlaw1_BitsExact.B39 : List Nat := [0, 0, 0, 6, 14, 0, 0, 96, 224, 511, 1023, 2047, 2047, 4095, 16383]
theorem herbariumlaw1_BitsExact.tab39 : rtab .any (opsOf Try.f10 39) = herbariumlaw1_BitsExact.T39 := by kernel_rfl
theorem herbariumlaw1_BitsExact.bits39 : waitsOk herbariumlaw1_BitsExact.T39.2 herbariumlaw1_BitsExact.B39 = true := by kernel_rfl
def herbariumlaw1_BitsExact.T43 : Bool × List (List Nat × List Nat) := (true, [([], []), ([], []), ([0, 1], [0, 1]), ([2], [2]), ([], []), ([4], [4]), ([3, 5], [3, 5]), ([6], [6]), ([7], [7]), ([7], [7]), ([8, 9, 7], [7, 8, 9]), ([10, 7], [7, 10]), ([7], [7]), ([12, 7], [7, 12]), ([7], [7]), ([7], [7]), ([14, 15, 7], [7, 14, 15]), ([16, 7], [7, 16]), ([13, 17, 7], [7, 13, 17]), ([11, 18, 7], [7, 11, 18]), ([7, 19], [7, 19])])
def herbariumlaw1_BitsExact.B43 : List Nat := [0, 0, 3, 7, 0, 16, 63, 127, 255, 255, 1023, 2047, 255, 4351, 255, 255, 49407, 114943, 258303, 524287, 1048575]
theorem herbariumlaw1_BitsExact.tab43 : rtab .any (opsOf Try.f10 43) = herbariumlaw1_BitsExact.T43 := by kernel_rfl
theorem herbariumlaw1_BitsExact.bits43 : waitsOk herbariumlaw1_BitsExact.T43.2 herbariumlaw1_BitsExact.B43 = true := by kernel_rfl
def herbariumlaw1_BitsExact.T44 : Bool × List (List Nat × List Nat) := (true, [([], []), ([], []), ([], []), ([1, 2], [1, 2]), ([3], [3]), ([], []), ([], []), ([5, 6], [5, 6]), ([7], [7]), ([0, 4, 8], [0, 4, 8]), ([9], []), ([9, 10, 0, 1, 2, 3, 4, 5, 6, 7, 8, 9, 10], [9])])
def herbariumlaw1_BitsExact.B44 : List Nat := [0, 0, 0, 6, 14, 0, 0, 96, 224, 511, 1023, 2047]
theorem herbariumlaw1_BitsExact.tab44 : rtab .any (opsOf Try.f10 44) = herbariumlaw1_BitsExact.T44 := by kernel_rfl
theorem herbariumlaw1_BitsExact.bits44 : waitsOk herbariumlaw1_BitsExact.T44.2 herbariumlaw1_BitsExact.B44 = true := by kernel_rfl
def herbariumlaw1_BitsExact.T45 : Bool × List (List Nat × List Nat) := (true, [([], []), ([], []), ([], []), ([1, 2], [1, 2]), ([3], [3]), ([], []), ([], []), ([5, 6], [5, 6]), ([7], [7]), ([0, 4, 8], [0, 4, 8]), ([9], [9]), ([10], [10]), ([10], [10]), ([], []), ([13, 11, 9, 0, 1, 2, 3, 4, 5, 6, 7, 8, 9, 10, 11, 13], [11, 13]), ([12, 14, 0, 1, 2, 3, 4, 5, 6, 7, 8, 9, 10, 11, 12, 13, 14], [12])])
def herbariumlaw1_BitsExact.B45 : List Nat := [0, 0, 0, 6, 14, 0, 0, 96, 224, 511, 1023, 2047, 2047, 0, 12287, 32767]
theorem herbariumlaw1_BitsExact.tab45 : rtab .any (opsOf Try.f10 45) = herbariumlaw1_BitsExact.T45 := by kernel_rfl
theorem herbariumlaw1_BitsExact.bits45 : waitsOk herbariumlaw1_BitsExact.T45.2 herbariumlaw1_BitsExact.B45 = true := by kernel_rfl
def herbariumlaw1_BitsExact.T47 : Bool × List (List Nat × List Nat) := (true, [([], []), ([0], [0]), ([1], [1]), ([1], [1]), ([2, 3, 1], [1, 2, 3]), ([4, 1], [1, 4]), ([5, 1], [1, 5]), ([1, 6], [1, 6]), ([7, 1], [7]), ([8], [8]), ([8], [8]), ([9, 10, 8], [8, 9, 10]), ([11, 8], [8, 11]), ([8], [8]), ([8], [8]), ([13, 14, 8], [8, 13, 14]), ([15, 8], [8, 15]), ([12, 16, 8], [8, 12, 16]), ([8, 17], [8, 17]), ([18, 8], [18]), ([19], [19]), ([19], [19]), ([20, 21, 19], [19, 20, 21]), ([22, 19], [19, 22]), ([19], [19]), ([24, 19], [19, 24]), ([23, 25, 19], [19, 23, 25]), ([19, 26], [19, 26])])
def herbariumlaw1_BitsExact.B47 : List Nat := [0, 1, 3, 3, 15, 31, 63, 127, 255, 511, 511, 2047, 4095, 511, 511, 25087, 57855, 131071, 262143, 524287, 1048575, 1048575, 4194303, 8388607, 1048575, 17825791, 67108863, 134217727]
theorem herbariumlaw1_BitsExact.tab47 : rtab .any (opsOf Try.f10 47) = herbariumlaw1_BitsExact.T47 := by kernel_rfl
theorem herbariumlaw1_BitsExact.bits47 : waitsOk herbariumlaw1_BitsExact.T47.2 herbariumlaw1_BitsExact.B47 = true := by kernel_rfl
def herbariumlaw1_BitsExact.T48 : Bool × List (List Nat × List Nat) := (true, [([], []), ([], []), ([], []), ([1, 2], [1, 2]), ([3], [3]), ([], []), ([], []), ([5, 6], [5, 6]), ([7], [7]), ([0, 4, 8], [0, 4, 8]), ([9], [9]), ([10], []), ([10, 11, 0, 1, 2, 3, 4, 5, 6, 7, 8, 9, 10, 11], [10])])
def herbariumlaw1_BitsExact.B48 : List Nat := [0, 0, 0, 6, 14, 0, 0, 96, 224, 511, 1023, 2047, 4095]
theorem herbariumlaw1_BitsExact.tab48 : rtab .any (opsOf Try.f10 48) = herbariumlaw1_BitsExact.T48 := by kernel_rfl
theorem herbariumlaw1_BitsExact.bits48 : waitsOk herbariumlaw1_BitsExact.T48.2 herbariumlaw1_BitsExact.B48 = true := by kernel_rfl
def herbariumlaw1_BitsExact.T54 : Bool × List (List Nat × List Nat) := (true, [([], []), ([], []), ([1], [1]), ([], []), ([2, 3], [2, 3]), ([4], [4]), ([0, 5], [0, 5]), ([6], [6]), ([7], [7]), ([7], [7]), ([], []), ([10, 8, 6, 0, 1, 2, 3, 4, 5, 6, 7, 8, 10], [8, 10]), ([9, 11, 0, 1, 2, 3, 4, 5, 6, 7, 8, 9, 10, 11], [9])])
def herbariumlaw1_BitsExact.B54 : List Nat := [0, 0, 2, 0, 14, 30, 63, 127, 255, 255, 0, 1535, 4095]
theorem herbariumlaw1_BitsExact.tab54 : rtab .any (opsOf Try.f10 54) = herbariumlaw1_BitsExact.T54 := by kernel_rfl
theorem herbariumlaw1_BitsExact.bits54 : waitsOk herbariumlaw1_BitsExact.T54.2 herbariumlaw1_BitsExact.B54 = true := by kernel_rfl
def herbariumlaw1_BitsExact.T58 : Bool × List (List Nat × List Nat) := (true, [([], []), ([0], [0]), ([], []), ([2], [2]), ([], []), ([3, 4], [3, 4]), ([5], [5]), ([6], [6]), ([1, 7], [1, 7]), ([8], [8])])
def herbariumlaw1_BitsExact.B58 : List Nat := [0, 1, 0, 4, 0, 28, 60, 124, 255, 511]
theorem herbariumlaw1_BitsExact.tab58 : rtab .any (opsOf Try.f10 58) = herbariumlaw1_BitsExact.T58 := by kernel_rfl
theorem herbariumlaw1_BitsExact.bits58 : waitsOk herbariumlaw1_BitsExact.T58.2 herbariumlaw1_BitsExact.B58 = true := by kernel_rfl
def herbariumlaw1_BitsExact.T59 : Bool × List (List Nat × List Nat) := (true, [([], []), ([], []), ([0, 1], [0, 1]), ([], []), ([3], [3]), ([], []), ([4, 5], [4, 5]), ([6], [6]), ([7, 2], [7]), ([2, 8, 8], [2, 8]), ([9, 9], [9]), ([10], []), ([10, 11, 0, 1, 2, 3, 4, 5, 6, 7, 8, 9, 10, 11], [10])])
def herbariumlaw1_BitsExact.B59 : List Nat := [0, 0, 3, 0, 8, 0, 56, 120, 255, 511, 1023, 2047, 4095]
theorem herbariumlaw1_BitsExact.tab59 : rtab .any (opsOf Try.f10 59) = herbariumlaw1_BitsExact.T59 := by kernel_rfl
theorem herbariumlaw1_BitsExact.bits59 : waitsOk herbariumlaw1_BitsExact.T59.2 herbariumlaw1_BitsExact.B59 = true := by kernel_rfl
theorem herbariumlaw1_BitsExact.e_cut {a : List UInt8} {n : Int} (h : (!(a == (⟨#[]⟩ : ByteArray).toList) || (!(n == 0))) = false) : a.isEmpty = true ∧ (n == 0) = true := by
  have e : (⟨#[]⟩ : ByteArray).toList = [] := by simp
  rw [e] at h
  simp only [Bool.or_eq_false_iff, Bool.not_eq_false'] at h
  refine ⟨?_, h.2⟩
  have h1 := eq_of_beq h.1
  rw [h1]; rfl
theorem herbariumlaw1_BitsExact.j7_no : ∀ k y0 y1 y2 y3 y4 y6 y7 y8 y9, ¬ (herbariumlaw1_BitsExact.j7 k y0 y1 y2 y3 y4 true y6 y7 y8 y9 = some true) := by
  intro k y0 y1 y2 y3 y4 y6 y7 y8 y9
  cases k with
  | zero => simp [herbariumlaw1_BitsExact.j7]
  | succ k => rw [herbariumlaw1_BitsExact.j7, if_pos rfl]; simp
theorem herbariumlaw1_BitsExact.j11_no : ∀ k y0 y1 y2 y3 y4 y5 y7 y8 y9 y10, ¬ (herbariumlaw1_BitsExact.j11 k y0 y1 y2 y3 y4 y5 true y7 y8 y9 y10 = some true) := by
  intro k y0 y1 y2 y3 y4 y5 y7 y8 y9 y10
  cases k with
  | zero => simp [herbariumlaw1_BitsExact.j11]
  | succ k => rw [herbariumlaw1_BitsExact.j11, if_pos rfl]; simp
/-- What is left to show. -/
structure Later (p : Prop) : Prop where out : p
set_option maxHeartbeats 8000000 in
set_option maxRecDepth 100000 in
noncomputable def herbariumlaw1_BitsExact.p1 : PSigma fun P_ : Prop => Later P_ → (∀ (k : Nat) (A0_0 : Option Addr) (c0_0 : Nat) (l0_0 : List (S27)) (A0_1 : Option Addr) (c0_1 : Nat) (l0_1 : List Int) (w : World) (hr0_0 : Kd.C k27 w A0_0 l0_0.length l0_0) (hc0_0 : l0_0.length ≤ c0_0) (hr0_1 : Kd.C (Kd.int .i64) w A0_1 l0_1.length l0_1) (hc0_1 : l0_1.length ≤ c0_1) (h : herbariumlaw1_BitsExact.f k l0_0 l0_1 = some true), Calls Try.prog 10 #[.agg #[.slice A0_0 l0_0.length c0_0, .slice A0_1 l0_1.length c0_1]] w fun e w' => e = .returned (.bool true) ∧ Below w.heap.size w w') := by
  refine' ⟨_, fun hP_ => ?_⟩
  rotate_left
  focus
   intro k A0_0 c0_0 l0_0 A0_1 c0_1 l0_1 w hr0_0 hc0_0 hr0_1 hc0_1 h
   have hu25 := Try.underlying25
   have hu27 := Try.underlying27
   have HR0_0 := ak hr0_0
   have HC0_0 := ak hc0_0
   clear hr0_0 hc0_0
   have HR0_1 := ak hr0_1
   have HC0_1 := ak hc0_1
   clear hr0_1 hc0_1
   have HB := ak (Below.refl w.heap.size w)
   have H : ((herbariumlaw1_Heavy.f k l0_0 l0_1).bind fun t662 => (if t662 = true then (some true) else ((some (([0, 1, 3, 30, 31, (-1)] : List Int) : List Int)).bind fun y663 => (if y663.length + l0_1.length < 17592186044416 then ((some (y663 ++ l0_1 : List Int)).bind fun y666 => (if (y666.length : Int) > 12 then (if 12 ≤ (y666.length : Int) then (herbariumlaw1_BitsExact.j0 k (y666.take (12 : Int).toNat) l0_0 l0_1) else (none)) else (herbariumlaw1_BitsExact.j0 k y666 l0_0 l0_1))) else (none))))) = some true := h
   clear h
   replace H := Option.bind_eq_some_iff.mp H
   obtain ⟨t662, A20, H⟩ := H
   try dsimp only at H
   have A2 := ak A20
   clear A20
   by_cases c3 : t662 = true
   · subst c3
     have H1 : (some true) = some true := rfl
     clear H
     have H := H1
     clear H1
     clear H
     go_enter Try.func10, Try.ntmps10
     go_wp2_with (first | ((with_reducible refine gate_dst (N := 1) rfl ?_); refine box_event ?hg (N := 1) ?hd (cs := #[.slice A0_0 l0_0.length c0_0, .slice A0_1 l0_1.length c0_1]) (t := 25) ?hr ?_; (case hd => rfl); (case hg => rfl); (case hr => first | (go_simp; done) | (go_simp; rfl)); intro gb661 hg w4 hbox hb; have n0_ := ak (below_step (ul HB.out) hb); have n1_ := ak (hbox); have n2_ := ak ((by rw [hg]; exact (below_size (ul HB.out)) : w.heap.size ≤ gb661)); have n3_ := ak ((by rw [hg]; exact (below_size (ul HB.out)) : w.heap.size ≤ gb661)); clear HB; have HB := n0_; have BK661 := n1_; have GW661 := n2_; have GE661 := n3_; clear n0_ n1_ n2_ n3_; clear hb hbox hg; have hcz5_0 : w4.cell? ⟨gb661, 0, none⟩ = some (.slice A0_0 l0_0.length c0_0) := (blk_cell BK661.out 0).trans rfl; have hcz5_1 : w4.cell? ⟨gb661, 1, none⟩ = some (.slice A0_1 l0_1.length c0_1) := (blk_cell BK661.out 1).trans rfl; have hfz5_0 := blk_frozen BK661.out 0; have hfz5_1 := blk_frozen BK661.out 1) | ((with_reducible refine gate_callee (f := 39) rfl ?_); refine goesL_ (some 33) rfl rfl Try.func39 (by kernel_rfl) rfl #[.agg #[.slice A0_0 l0_0.length c0_0, .slice A0_1 l0_1.length c0_1]] rfl (by (try simp only [List.map_toArray, List.map_cons, List.map_nil]); first | done | rfl | (simp only [List.length_drop, List.length_take]; rfl)) ?_; (with_reducible refine (herbariumlaw1_Heavy.calls k _ _ l0_0 _ _ l0_1 true _ ?side1 ?side2 ?side3 ?side4 A2.out).mono ?_); (case side1 => exact uc (Kd.C_below HR0_0.out HB.out)); (case side2 => exact HC0_0.out); (case side3 => exact uc (Kd.C_below HR0_1.out HB.out)); (case side4 => exact HC0_1.out); rintro e w6 ⟨rfl, hb⟩; refine ⟨_, rfl, ?_⟩; have n0_ := ak (blk_below (g := gb661) (o := .cells #[.slice A0_0 l0_0.length c0_0, .slice A0_1 l0_1.length c0_1] 25 (0, 0)) (ub BK661.out) hb); have n1_ := ak (below_step (by repeat with_reducible first | exact HB.out | apply b1 | apply b2 | apply b3 | refine b4 ?_ GE661.out) hb); clear BK661; clear HB; have BK661 := n0_; have HB := n1_; clear n0_ n1_; (try clear hb); (try clear hb2); (try clear hk); (try clear hi)))
     go_ret
     exact ⟨by first | rfl | (simp [errW_none, errW_some] <;> rfl) | (simp [*, errW_none, errW_some] <;> rfl), by repeat with_reducible first | exact HB.out | apply b1 | apply b2 | apply b3 | refine b4 ?_ GE661.out⟩
   replace c3 := Bool.eq_false_iff.mpr c3
   subst c3
   have H1 : ((some (([0, 1, 3, 30, 31, (-1)] : List Int) : List Int)).bind fun y663 => (if y663.length + l0_1.length < 17592186044416 then ((some (y663 ++ l0_1 : List Int)).bind fun y666 => (if (y666.length : Int) > 12 then (if 12 ≤ (y666.length : Int) then (herbariumlaw1_BitsExact.j0 k (y666.take (12 : Int).toNat) l0_0 l0_1) else (none)) else (herbariumlaw1_BitsExact.j0 k y666 l0_0 l0_1))) else (none))) = some true := by rw [if_neg (show ¬ (false = true) by decide)] at H; exact H
   clear H
   have H := H1
   clear H1
   obtain ⟨y663, hy663⟩ : ∃ y_ : List Int, y_ = (([0, 1, 3, 30, 31, (-1)] : List Int)) := ⟨_, rfl⟩
   replace H : (if y663.length + l0_1.length < 17592186044416 then ((some (y663 ++ l0_1 : List Int)).bind fun y666 => (if (y666.length : Int) > 12 then (if 12 ≤ (y666.length : Int) then (herbariumlaw1_BitsExact.j0 k (y666.take (12 : Int).toNat) l0_0 l0_1) else (none)) else (herbariumlaw1_BitsExact.j0 k y666 l0_0 l0_1))) else (none)) = some true := by first | (rw [hy663]; with_reducible exact H) | (have H2_ := (Option.bind_some _ _).symm.trans H; rw [hy663]; with_reducible exact H2_) | (have H2_ := (Option.bind_some _ _).symm.trans H; with_reducible exact H2_) | with_reducible exact H | (rw [hy663]; exact H) | exact H
   have Ny663 := ak hy663
   clear hy663
   by_cases c7 : y663.length + l0_1.length < 17592186044416
   rotate_left
   · rw [if_neg c7] at H
     exact absurd H (by simp)
   rw [if_pos c7] at H
   have LMc7 := ak c7
   clear c7
   obtain ⟨y666, hy666⟩ : ∃ y_ : List Int, y_ = (y663 ++ l0_1) := ⟨_, rfl⟩
   replace H : (if (y666.length : Int) > 12 then (if 12 ≤ (y666.length : Int) then (herbariumlaw1_BitsExact.j0 k (y666.take (12 : Int).toNat) l0_0 l0_1) else (none)) else (herbariumlaw1_BitsExact.j0 k y666 l0_0 l0_1)) = some true := by first | (rw [hy666]; with_reducible exact H) | (have H2_ := (Option.bind_some _ _).symm.trans H; rw [hy666]; with_reducible exact H2_) | (have H2_ := (Option.bind_some _ _).symm.trans H; with_reducible exact H2_) | with_reducible exact H | (rw [hy666]; exact H) | exact H
   have Ny666 := ak hy666
   clear hy666
   have HC8 := ak H
   clear H
   go_enter Try.func10, Try.ntmps10
   go_upto_if 40 with (first | ((with_reducible refine gate_dst (N := 1) rfl ?_); refine box_event ?hg (N := 1) ?hd (cs := #[.slice A0_0 l0_0.length c0_0, .slice A0_1 l0_1.length c0_1]) (t := 25) ?hr ?_; (case hd => rfl); (case hg => rfl); (case hr => first | (go_simp; done) | (go_simp; rfl)); intro gb661 hg w9 hbox hb; have n0_ := ak (below_step (ul HB.out) hb); have n1_ := ak (hbox); have n2_ := ak ((by rw [hg]; exact (below_size (ul HB.out)) : w.heap.size ≤ gb661)); have n3_ := ak ((by rw [hg]; exact (below_size (ul HB.out)) : w.heap.size ≤ gb661)); clear HB; have HB := n0_; have BK661 := n1_; have GW661 := n2_; have GE661 := n3_; clear n0_ n1_ n2_ n3_; clear hb hbox hg; have hcz10_0 : w9.cell? ⟨gb661, 0, none⟩ = some (.slice A0_0 l0_0.length c0_0) := (blk_cell BK661.out 0).trans rfl; have hcz10_1 : w9.cell? ⟨gb661, 1, none⟩ = some (.slice A0_1 l0_1.length c0_1) := (blk_cell BK661.out 1).trans rfl; have hfz10_0 := blk_frozen BK661.out 0; have hfz10_1 := blk_frozen BK661.out 1) | ((with_reducible refine gate_callee (f := 39) rfl ?_); refine goesL_ (some 33) rfl rfl Try.func39 (by kernel_rfl) rfl #[.agg #[.slice A0_0 l0_0.length c0_0, .slice A0_1 l0_1.length c0_1]] rfl (by (try simp only [List.map_toArray, List.map_cons, List.map_nil]); first | done | rfl | (simp only [List.length_drop, List.length_take]; rfl)) ?_; (with_reducible refine (herbariumlaw1_Heavy.calls k _ _ l0_0 _ _ l0_1 false _ ?side1 ?side2 ?side3 ?side4 A2.out).mono ?_); (case side1 => exact uc (Kd.C_below HR0_0.out HB.out)); (case side2 => exact HC0_0.out); (case side3 => exact uc (Kd.C_below HR0_1.out HB.out)); (case side4 => exact HC0_1.out); rintro e w11 ⟨rfl, hb⟩; refine ⟨_, rfl, ?_⟩; have n0_ := ak (blk_below (g := gb661) (o := .cells #[.slice A0_0 l0_0.length c0_0, .slice A0_1 l0_1.length c0_1] 25 (0, 0)) (ub BK661.out) hb); have n1_ := ak (below_step (by repeat with_reducible first | exact HB.out | apply b1 | apply b2 | apply b3 | refine b4 ?_ GE661.out) hb); clear BK661; clear HB; have BK661 := n0_; have HB := n1_; clear n0_ n1_; (try clear hb); (try clear hb2); (try clear hk); (try clear hi)) | ((with_reducible refine gate_dst (N := 34) rfl ?_); refine Kd.R_lit (Kd.int .i64) _ 3 ?hg (N := 34) ?hd (xs := ([0, 1, 3, 30, 31, (-1)] : List Int)) (inner := [.int .i64 0, .int .i64 1, .int .i64 3, .int .i64 30, .int .i64 31, .int .i64 (-1)]) (ok := fun _ => True) (okp := fun _ => True) ?hr ?hp (fun _ hk => hk) trivial (Below.refl _ _) (Nat.le_refl _) (by simp) ?_; (case hd => rfl); (case hg => rfl); (case hr => first | (go_simp; done) | (go_simp; rfl)); (case hp => exact (Reps.one (show Kd.M (Kd.int .i64) _ _ _ 0 [.int .i64 0] from rfl) (Reps.one (show Kd.M (Kd.int .i64) _ _ _ 1 [.int .i64 1] from rfl) (Reps.one (show Kd.M (Kd.int .i64) _ _ _ 3 [.int .i64 3] from rfl) (Reps.one (show Kd.M (Kd.int .i64) _ _ _ 30 [.int .i64 30] from rfl) (Reps.one (show Kd.M (Kd.int .i64) _ _ _ 31 [.int .i64 31] from rfl) (Reps.one (show Kd.M (Kd.int .i64) _ _ _ (-1) [.int .i64 (-1)] from rfl) (Reps.none _ _)))))))); intro v664 w12 ho13 hb hg_ hnew_; clear hg_ hnew_; (first | rw [← Ny663.out] at ho13 | (simp only [Int.reduceToNat] at ho13; rw [← Ny663.out] at ho13)); have n0_ := ak (Kd.R_lower ho13 (below_size (by repeat with_reducible first | exact HB.out | apply b1 | apply b2 | apply b3 | refine b4 ?_ GE661.out))); have n1_ := ak (blk_below (g := gb661) (o := .cells #[.slice A0_0 l0_0.length c0_0, .slice A0_1 l0_1.length c0_1] 25 (0, 0)) (ub BK661.out) hb); have n2_ := ak (below_step (by repeat with_reducible first | exact HB.out | apply b1 | apply b2 | apply b3 | refine b4 ?_ GE661.out) hb); clear BK661; clear HB; have HO665 := n0_; have BK661 := n1_; have HB := n2_; clear n0_ n1_ n2_; clear hb ho13; have hcz14_0 : w12.cell? ⟨gb661, 0, none⟩ = some (.slice A0_0 l0_0.length c0_0) := (blk_cell BK661.out 0).trans rfl; have hcz14_1 : w12.cell? ⟨gb661, 1, none⟩ = some (.slice A0_1 l0_1.length c0_1) := (blk_cell BK661.out 1).trans rfl; have hfz14_0 := blk_frozen BK661.out 0; have hfz14_1 := blk_frozen BK661.out 1) | ((with_reducible refine gate_builtin (b := .append) (xs := #[.tmp 34, .tmp 36]) rfl ?_); at_builtin; refine Kd.R_append_rows (Kd.int .i64) (w0 := w) w.heap.size rfl (.tmp 34) (.tmp 36) 23 3 (.int .i64 0) 8 rfl Try.underlying23 info3 rfl (by decide) (by omega) v664 y663 l0_1 _ _ _ (fun _ => True) (fun _ => False) rfl rfl ?aO ?aR (fun _ _ h => h) (fun _ h => h.elim) ?aF ?aB ?aS ?aL ?_; (case aR => exact uc (Kd.C_below HR0_1.out HB.out)); (case aB => exact (by repeat with_reducible first | exact HB.out | apply b1 | apply b2 | apply b3 | refine b4 ?_ GE661.out)); (case aF => exact (fun _ _ => trivial)); (case aO => exact (ur <| HO665.out)); (case aS => exact (below_size (by repeat with_reducible first | exact HB.out | apply b1 | apply b2 | apply b3 | refine b4 ?_ GE661.out))); (case aL => have := LMc7.out; omega); intro v667 w15 ho hb hg hat; rw [← Ny666.out] at ho; have n0_ := ak (blk_grown (g := gb661) (o := .cells #[.slice A0_0 l0_0.length c0_0, .slice A0_1 l0_1.length c0_1] 25 (0, 0)) (ub BK661.out) hg (Kd.R_ne HO665.out BK661.out (by decide))); have n1_ := ak (hb); have n2_ := ak (ho); clear BK661; clear HB; clear HO665; have BK661 := n0_; have HB := n1_; have HO668 := n2_; clear n0_ n1_ n2_; clear ho hb hg hat; obtain ⟨Ao16, co16, eo16⟩ := Kd.R_slice HO668.out; subst eo16))
   (try simp only [Act.put, s1, s2, s3])
   go_cut [3] from 40 to 40 (fun v3 wc => ∃ (kq : Nat) (x3_7 : List Int), Aside0 (herbariumlaw1_BitsExact.j0 kq x3_7 l0_0 l0_1 = some true) ∧ Aside0 (kq ≤ k) ∧ Aside0 (Kd.R (Kd.int .i64) 3 wc w.heap.size (fun _ => True) v3 x3_7) ∧ Aside0 (wc.heap[gb661]? = some (.cells #[(.slice A0_0 l0_0.length c0_0), (.slice A0_1 l0_1.length c0_1)] 25 (0, 0))) ∧ Aside0 (Below w.heap.size w wc))
   case first =>
     have H := HC8.out
     clear HC8
     by_cases c17 : (y666.length : Int) > 12
     rotate_left
     · rw [if_neg c17] at H
       have c17b0 : decide (12 < (y666.length : Int)) = false := decide_eq_false c17
       have c17b1 : decide (12 < y666.length) = false := decide_eq_false (by omega)
       clear c17
       (first | rw [c17b0] | (simp only [i64_w, i32_w]; rw [c17b0]) | skip)
       have H' := ak H
       clear H
       go_wp2
       go_meet
       case rel => exact ⟨_, (y666), H', ⟨by first | omega | exact Nat.le_refl _⟩, ⟨ur <| HO668.out⟩, ⟨ub BK661.out⟩, ⟨by repeat with_reducible first | exact HB.out | apply b1 | apply b2 | apply b3 | refine b4 ?_ GE661.out⟩⟩
     rw [if_pos c17] at H
     have c17b0 : decide (12 < (y666.length : Int)) = true := decide_eq_true c17
     have c17b1 : decide (12 < y666.length) = true := decide_eq_true (by omega)
     clear c17
     (first | rw [c17b0] | (simp only [i64_w, i32_w]; rw [c17b0]) | skip)
     by_cases c18 : 12 ≤ (y666.length : Int)
     rotate_left
     · rw [if_neg c18] at H
       exact absurd H (by simp)
     rw [if_pos c18] at H
     have c18b0 := eq_true c18
     have c18b1 : decide (12 ≤ (y666.length : Int)) = true := decide_eq_true c18
     clear c18
     obtain ⟨y669, hy669⟩ : ∃ y_ : List Int, y_ = (y666.take (12 : Int).toNat) := ⟨_, rfl⟩
     replace H : (herbariumlaw1_BitsExact.j0 k y669 l0_0 l0_1) = some true := by first | (rw [hy669]; with_reducible exact H) | (have H2_ := (Option.bind_some _ _).symm.trans H; rw [hy669]; with_reducible exact H2_) | (have H2_ := (Option.bind_some _ _).symm.trans H; with_reducible exact H2_) | with_reducible exact H | (rw [hy669]; exact H) | exact H
     have Ny669 := ak hy669
     clear hy669
     have H' := ak H
     clear H
     have q19 : (12 : Int) ≤ ((y666.length : Int) : Int) := of_decide_eq_true (by first | (with_reducible assumption) | assumption)
     obtain ⟨i019, hi019, _, hsz19, _⟩ := info_parts info3
     have hcut19 := cut_to (P := Try.prog) 23 3 .i64 Try.underlying23 hi019 Ao16 y666.length co16 12 (by omega) q19 (Kd.R_reads' HO668.out).2.1
     have hr19 := Kd.R_take (m := (12 : Int).toNat) HO668.out (by omega)
     have hy19 : y669.length = (12 : Int).toNat := (by rw [Ny669.out, List.length_take]; omega)
     rw [← Ny669.out] at hr19
     rw [← hy19] at hr19 hcut19
     clear hy19 hi019 hsz19 HO668
     have HO671 := ak hr19
     clear hr19
     replace q19 := eq_true q19
     go_wp2
     go_meet
     case rel => exact ⟨_, (y669), H', ⟨by first | omega | exact Nat.le_refl _⟩, ⟨ur <| HO671.out⟩, ⟨ub BK661.out⟩, ⟨by repeat with_reducible first | exact HB.out | apply b1 | apply b2 | apply b3 | refine b4 ?_ GE661.out⟩⟩
   clear HC8
   try clear c3
   try clear c7
   try clear hcz10_0
   try clear hcz10_1
   try clear hcz14_0
   try clear hcz14_1
   try clear hfz10_0
   try clear hfz10_1
   try clear hfz14_0
   try clear hfz14_1
   try clear HA
   try clear HJ7
   try clear HO_3
   try clear BK661
   try clear HB
   obtain ⟨kq, x3_7, HA, HJ7, HO_3, BK661, HB⟩ := hcut
   rename_i z1_1 z1_2 z1_3 z1_4
   revert k A0_0 c0_0 l0_0 A0_1 c0_1 l0_1 w hu25 hu27 HR0_0 HC0_0 HR0_1 HC0_1 A2 y663 Ny663 LMc7 y666 Ny666 z1_1 gb661 w9 GW661 GE661 w11 z1_2 v664 w12 w15 Ao16 co16 HO668 z1_3 z1_4 wc u3 u40 u41 u42 kq x3_7 HA HJ7 HO_3 BK661 HB
   exact hP_.out
end Go.Proofs.Ytnpghcikhpglkaa.Q
namespace Go.Proofs.Ytnpghcikhpglkaa.Q
open Go.RowKit Go.Proofs.YtnpghcikhpglkaaW.PrintWords Go.Proofs.YtnpghcikhpglkaaW.PrintLast Go.Proofs.YtnpghcikhpglkaaW.PrintMore
attribute [local go_sem] max2_int min2_int max_two min_two max_three min_three max_four min_four   -- for this text's walks alone
set_option linter.unusedVariables false
set_option linter.unusedSimpArgs false
attribute [local go_sem high] eqA27
set_option maxHeartbeats 8000000 in
set_option maxRecDepth 100000 in
noncomputable def herbariumlaw1_BitsExact.p2 : PSigma fun P_ : Prop => Later P_ → herbariumlaw1_BitsExact.p1.1 := by
  refine' ⟨_, fun hP_ => ?_⟩
  rotate_left
  focus
   intro k A0_0 c0_0 l0_0 A0_1 c0_1 l0_1 w hu25 hu27 HR0_0 HC0_0 HR0_1 HC0_1 A2 y663 Ny663 LMc7 y666 Ny666 z1_1 gb661 w9 GW661 GE661 w11 z1_2 v664 w12 w15 Ao16 co16 HO668 z1_3 z1_4 wc u3 u40 u41 u42 kq x3_7 HA HJ7 HO_3 BK661 HB
   cases kq with
   | zero => exact absurd HA.out (by simp [herbariumlaw1_BitsExact.j0])
   | succ kj7 => ?_
   have H := HA.out
   clear HA
   simp only [herbariumlaw1_BitsExact.j0] at H
   have H' := ak H
   clear H
   go_wp2
   go_loopg [4] kj7 (fun kq v4 w' => ∃ (x4_2 : Int), v4 = .int .i64 x4_2 ∧ Aside0 (herbariumlaw1_BitsExact.l0 kq x3_7 x4_2 l0_0 l0_1 = some true) ∧ Aside0 (kq ≤ kj7) ∧ Aside0 (Kd.R (Kd.int .i64) 3 w' w.heap.size (fun _ => True) u3 x3_7) ∧ Aside0 (w'.heap[gb661]? = some (.cells #[(.slice A0_0 l0_0.length c0_0), (.slice A0_1 l0_1.length c0_1)] 25 (0, 0))) ∧ Aside0 (Below w.heap.size w w'))
   case atStart => exact ⟨(0), (by first | rfl | (simp; done) | (simp [*]; done)), H', ⟨Nat.le_refl _⟩, ⟨ur <| HO_3.out⟩, ⟨ub BK661.out⟩, ⟨by repeat with_reducible first | exact HB.out | apply b1 | apply b2 | apply b3 | refine b4 ?_ GE661.out⟩⟩
   clear H'
   try clear c3
   try clear c7
   try clear hcz10_0
   try clear hcz10_1
   try clear hcz14_0
   try clear hcz14_1
   try clear hfz10_0
   try clear hfz10_1
   try clear hfz14_0
   try clear hfz14_1
   try clear HA
   try clear HK2
   try clear HO_3
   try clear BK661
   try clear HB
   obtain ⟨x4_2, rfl, HA, HK2, HO_3, BK661, HB⟩ := hrel
   rename_i z2_1 z2_2 z2_3 z2_4 z2_5 z2_6
   revert k A0_0 c0_0 l0_0 A0_1 c0_1 l0_1 w hu25 hu27 HR0_0 HC0_0 HR0_1 HC0_1 A2 y663 Ny663 LMc7 y666 Ny666 z1_1 gb661 w9 GW661 GE661 w11 z1_2 v664 w12 w15 Ao16 co16 HO668 wc u3 u40 u41 u42 x3_7 kj7 HJ7 z2_1 z2_2 gk wr u2 u5 u6 u7 u8 u9 u10 u11 u12 u13 u14 u15 u16 u17 u18 u19 u20 u21 u22 u23 u24 u25 u26 u27 u28 u29 u30 u31 u43 u44 u45 u46 u47 u48 u49 u50 u51 u52 u53 u54 u55 u56 u57 u58 u59 u60 u61 u62 u63 u64 u65 u66 u67 u68 u69 u70 u71 u72 u73 u74 u75 u76 u77 u78 u79 u80 u81 u82 u83 u84 u85 u86 u87 u88 u89 u90 u91 u92 u93 u94 u95 u96 u97 u98 u99 u100 u101 u102 u103 u104 u105 u106 u107 u108 u109 u110 u111 u112 u113 u114 u115 u116 u117 u118 u119 u120 u121 u122 u123 u124 u125 u126 u127 u128 u129 u130 u131 u132 u133 u134 u135 u136 u137 u138 u139 u140 u141 u142 u143 u144 u145 u146 u147 u148 u149 u150 u151 u152 u153 u154 u155 u156 u157 u158 u159 u160 u161 u162 u163 u164 u165 u166 u167 u168 u169 u170 u171 u172 u173 u174 u175 u176 u177 u178 u179 u180 u181 u182 u183 u184 u185 u186 u187 u188 u189 u190 u191 u192 u193 u194 u195 u196 u197 u198 u199 u200 u201 u202 u203 u204 u205 u206 u207 u208 u209 u210 u211 u212 u213 u214 u215 u216 u217 u218 u219 u220 u221 u222 u223 u224 u225 u226 u227 u228 u229 u230 u231 u232 u233 u234 u235 u236 u237 u238 u239 u240 u241 u242 u243 u244 u245 u246 u247 u248 u249 u250 u251 u252 u253 u254 u255 u256 u257 u258 u259 u260 u261 u262 u263 u264 u265 u266 u267 u268 u269 u270 u271 u272 u273 u274 u275 u276 u277 u278 u279 u280 u281 u282 u283 u284 u285 u286 u287 u288 u289 u290 u291 u292 u293 u294 u295 u296 u297 u298 u299 u300 u301 u302 u303 u304 u305 u306 u307 u308 u309 u310 u311 u312 u313 u314 u315 u316 u317 u318 u319 u320 u321 u322 u323 u324 u325 u326 u327 u328 u329 u330 u331 u332 u333 u334 u335 u336 u337 u338 u339 u340 u341 u342 u343 u344 u345 u346 u347 u348 u349 u350 u351 u352 u353 u354 u355 u356 u357 u358 u359 u360 u361 u362 u363 u364 u365 u366 u367 u368 u369 u370 u371 u372 u373 u374 u375 u376 z2_3 z2_4 z2_5 z2_6 x4_2 HA HK2 HO_3 BK661 HB
   exact hP_.out
end Go.Proofs.Ytnpghcikhpglkaa.Q
namespace Go.Proofs.Ytnpghcikhpglkaa.Q
open Go.RowKit Go.Proofs.YtnpghcikhpglkaaW.PrintWords Go.Proofs.YtnpghcikhpglkaaW.PrintLast Go.Proofs.YtnpghcikhpglkaaW.PrintMore
attribute [local go_sem] max2_int min2_int max_two min_two max_three min_three max_four min_four   -- for this text's walks alone
set_option linter.unusedVariables false
set_option linter.unusedSimpArgs false
attribute [local go_sem high] eqA27
set_option maxHeartbeats 8000000 in
set_option maxRecDepth 100000 in
noncomputable def herbariumlaw1_BitsExact.p3 : PSigma fun P_ : Prop => Later P_ → herbariumlaw1_BitsExact.p2.1 := by
  refine' ⟨_, fun hP_ => ?_⟩
  rotate_left
  focus
   intro k A0_0 c0_0 l0_0 A0_1 c0_1 l0_1 w hu25 hu27 HR0_0 HC0_0 HR0_1 HC0_1 A2 y663 Ny663 LMc7 y666 Ny666 z1_1 gb661 w9 GW661 GE661 w11 z1_2 v664 w12 w15 Ao16 co16 HO668 wc u3 u40 u41 u42 x3_7 kj7 HJ7 z2_1 z2_2 gk wr u2 u5 u6 u7 u8 u9 u10 u11 u12 u13 u14 u15 u16 u17 u18 u19 u20 u21 u22 u23 u24 u25 u26 u27 u28 u29 u30 u31 u43 u44 u45 u46 u47 u48 u49 u50 u51 u52 u53 u54 u55 u56 u57 u58 u59 u60 u61 u62 u63 u64 u65 u66 u67 u68 u69 u70 u71 u72 u73 u74 u75 u76 u77 u78 u79 u80 u81 u82 u83 u84 u85 u86 u87 u88 u89 u90 u91 u92 u93 u94 u95 u96 u97 u98 u99 u100 u101 u102 u103 u104 u105 u106 u107 u108 u109 u110 u111 u112 u113 u114 u115 u116 u117 u118 u119 u120 u121 u122 u123 u124 u125 u126 u127 u128 u129 u130 u131 u132 u133 u134 u135 u136 u137 u138 u139 u140 u141 u142 u143 u144 u145 u146 u147 u148 u149 u150 u151 u152 u153 u154 u155 u156 u157 u158 u159 u160 u161 u162 u163 u164 u165 u166 u167 u168 u169
   intro u170 u171 u172 u173 u174 u175 u176 u177 u178 u179 u180 u181 u182 u183 u184 u185 u186 u187 u188 u189 u190 u191 u192 u193 u194 u195 u196 u197 u198 u199 u200 u201 u202 u203 u204 u205 u206 u207 u208 u209 u210 u211 u212 u213 u214 u215 u216 u217 u218 u219 u220 u221 u222 u223 u224 u225 u226 u227 u228 u229 u230 u231 u232 u233 u234 u235 u236 u237 u238 u239 u240 u241 u242 u243 u244 u245 u246 u247 u248 u249 u250 u251 u252 u253 u254 u255 u256 u257 u258 u259 u260 u261 u262 u263 u264 u265 u266 u267 u268 u269 u270 u271 u272 u273 u274 u275 u276 u277 u278 u279 u280 u281 u282 u283 u284 u285 u286 u287 u288 u289 u290 u291 u292 u293 u294 u295 u296 u297 u298 u299 u300 u301 u302 u303 u304 u305 u306 u307 u308 u309 u310 u311 u312 u313 u314 u315 u316 u317 u318 u319 u320 u321 u322 u323 u324 u325 u326 u327 u328 u329 u330 u331 u332 u333 u334 u335 u336 u337 u338 u339 u340 u341 u342 u343 u344 u345 u346 u347 u348 u349 u350 u351 u352 u353 u354 u355 u356 u357 u358 u359 u360 u361 u362 u363 u364 u365 u366 u367 u368 u369
   intro u370 u371 u372 u373 u374 u375 u376 z2_3 z2_4 z2_5 z2_6 x4_2 HA HK2 HO_3 BK661 HB
   cases gk with
   | zero => exact absurd HA.out (by simp [herbariumlaw1_BitsExact.l0])
   | succ k2 => ?_
   have H := HA.out
   clear HA
   simp only [herbariumlaw1_BitsExact.l0] at H
   have HC20 := ak H
   clear H
   go_upto_region 7 with (fail)
   go_cut [51] from 9999 to 0 (fun v51 wc => ∃ (kq : Nat) (x51_19 : Bool), v51 = .bool x51_19 ∧ Aside0 (herbariumlaw1_BitsExact.j2 kq x3_7 x4_2 x51_19 l0_0 l0_1 = some true) ∧ Aside0 (kq ≤ k2) ∧ Aside0 (Kd.R (Kd.int .i64) 3 wc w.heap.size (fun _ => True) u3 x3_7) ∧ Aside0 (wc.heap[gb661]? = some (.cells #[(.slice A0_0 l0_0.length c0_0), (.slice A0_1 l0_1.length c0_1)] 25 (0, 0))) ∧ Aside0 (Below w.heap.size w wc))
   case first =>
     have H := HC20.out
     clear HC20
     by_cases c21 : x4_2 < (l0_0.length : Int)
     rotate_left
     · rw [if_neg c21] at H
       have c21b0 : decide (x4_2 < (l0_0.length : Int)) = false := decide_eq_false c21
       clear c21
       (first | rw [c21b0] | (simp only [i64_w, i32_w]; rw [c21b0]) | skip)
       have H' := ak H
       clear H
       have hcz23_0 : wr.cell? ⟨gb661, 0, none⟩ = some (.slice A0_0 l0_0.length c0_0) := (blk_cell BK661.out 0).trans rfl
       have hcz23_1 : wr.cell? ⟨gb661, 1, none⟩ = some (.slice A0_1 l0_1.length c0_1) := (blk_cell BK661.out 1).trans rfl
       have hfz23_0 := blk_frozen BK661.out 0
       have hfz23_1 := blk_frozen BK661.out 1
       go_wp2
       go_meet
       case rel => exact ⟨_, (false), (by first | rfl | (simp; done) | (simp [*]; done)), H', ⟨by have := HJ7.out; have := HK2.out; first | omega | exact Nat.le_refl _⟩, ⟨ur <| HO_3.out⟩, ⟨ub BK661.out⟩, ⟨by repeat with_reducible first | exact HB.out | apply b1 | apply b2 | apply b3 | refine b4 ?_ GE661.out⟩⟩
     rw [if_pos c21] at H
     have c21b0 : decide (x4_2 < (l0_0.length : Int)) = true := decide_eq_true c21
     clear c21
     (first | rw [c21b0] | (simp only [i64_w, i32_w]; rw [c21b0]) | skip)
     have H' := ak H
     clear H
     have hcz22_0 : wr.cell? ⟨gb661, 0, none⟩ = some (.slice A0_0 l0_0.length c0_0) := (blk_cell BK661.out 0).trans rfl
     have hcz22_1 : wr.cell? ⟨gb661, 1, none⟩ = some (.slice A0_1 l0_1.length c0_1) := (blk_cell BK661.out 1).trans rfl
     have hfz22_0 := blk_frozen BK661.out 0
     have hfz22_1 := blk_frozen BK661.out 1
     go_wp2
     go_meet
     case rel => exact ⟨_, (decide (x4_2 < 6)), (by first | rfl | (simp; done) | (simp [*]; done)), H', ⟨by have := HJ7.out; have := HK2.out; first | omega | exact Nat.le_refl _⟩, ⟨ur <| HO_3.out⟩, ⟨ub BK661.out⟩, ⟨by repeat with_reducible first | exact HB.out | apply b1 | apply b2 | apply b3 | refine b4 ?_ GE661.out⟩⟩
   clear HC20
   try clear c3
   try clear c7
   try clear hcz10_0
   try clear hcz10_1
   try clear hcz14_0
   try clear hcz14_1
   try clear hfz10_0
   try clear hfz10_1
   try clear hfz14_0
   try clear hfz14_1
   try clear HA
   try clear HJ19
   try clear HO_3
   try clear BK661
   try clear HB
   obtain ⟨kq, x51_19, rfl, HA, HJ19, HO_3, BK661, HB⟩ := hcut
   cases kq with
   | zero => exact absurd HA.out (by simp [herbariumlaw1_BitsExact.j2])
   | succ kj19 => ?_
   have H := HA.out
   clear HA
   simp only [herbariumlaw1_BitsExact.j2] at H
   by_cases c24 : x51_19 = true
   rotate_left
   · replace c24 := Bool.eq_false_iff.mpr c24
     subst c24
     have H1 : ((herbariumlaw1_wakes.f kj19).bind fun t672 => (some t672)) = some true := by rw [if_neg (show ¬ (false = true) by decide)] at H; exact H
     clear H
     have H := H1
     clear H1
     replace H := Option.bind_eq_some_iff.mp H
     obtain ⟨t672, A3000, H⟩ := H
     try dsimp only at H
     have A300 := ak A3000
     clear A3000
     obtain rfl := Option.some.inj H
     go_wp2_with (first | ((with_reducible refine gate_callee (f := 27) rfl ?_); refine goesL_ (some 377) rfl rfl Try.func27 (by kernel_rfl) rfl #[] rfl (by (try simp only [List.map_toArray, List.map_cons, List.map_nil]); first | done | rfl | (simp only [List.length_drop, List.length_take]; rfl)) ?_; (with_reducible refine (herbariumlaw1_wakes.calls kj19  true _ A300.out).mono ?_); rintro e w301 ⟨rfl, hb⟩; refine ⟨_, rfl, ?_⟩; have n0_ := ak (Kd.R_below (ur <| HO_3.out) hb); have n1_ := ak (blk_below (g := gb661) (o := .cells #[.slice A0_0 l0_0.length c0_0, .slice A0_1 l0_1.length c0_1] 25 (0, 0)) (ub BK661.out) hb); have n2_ := ak (below_step (by repeat with_reducible first | exact HB.out | apply b1 | apply b2 | apply b3 | refine b4 ?_ GE661.out) hb); clear HO_3; clear BK661; clear HB; have HO_3 := n0_; have BK661 := n1_; have HB := n2_; clear n0_ n1_ n2_; (try clear hb); (try clear hb2); (try clear hk); (try clear hi)))
     go_ret
     exact ⟨by first | rfl | (simp [errW_none, errW_some] <;> rfl) | (simp [*, errW_none, errW_some] <;> rfl), by repeat with_reducible first | exact HB.out | apply b1 | apply b2 | apply b3 | refine b4 ?_ GE661.out⟩
   subst c24
   have H1 : (if 0 ≤ x4_2 then (if x4_2 < (l0_0.length : Int) then ((herbariumref1_Bits.f kj19 ((rd_T27 l0_0 x4_2).f0) ((rd_T27 l0_0 x4_2).f1)).bind fun t675 => ((bits_Check.f ((rd_T27 l0_0 x4_2).f0) ((rd_T27 l0_0 x4_2).f1)).bind fun t676 => ((herbariumlaw1_num.f t676).bind fun t677 => (if ((t677 == 0) != t675) = true then (some false) else (if t675 = true then ((herbariumref1_Of.f kj19 ((rd_T27 l0_0 x4_2).f0) ((rd_T27 l0_0 x4_2).f1)).bind fun t678 => (herbariumlaw1_BitsExact.j3 kj19 x3_7 x4_2 t675 t678 l0_0 l0_1 ((rd_T27 l0_0 x4_2).f0) ((rd_T27 l0_0 x4_2).f1))) else (herbariumlaw1_BitsExact.j3 kj19 x3_7 x4_2 t675 ([] : List Int) l0_0 l0_1 ((rd_T27 l0_0 x4_2).f0) ((rd_T27 l0_0 x4_2).f1))))))) else (none)) else (none)) = some true := by rw [if_pos rfl] at H; exact H
   clear H
   have H := H1
   clear H1
   by_cases c25 : 0 ≤ x4_2
   rotate_left
   · rw [if_neg c25] at H
     exact absurd H (by simp)
   rw [if_pos c25] at H
   have c25b0 : decide (0 ≤ x4_2) = true := decide_eq_true c25
   clear c25
   by_cases c26 : x4_2 < (l0_0.length : Int)
   rotate_left
   · rw [if_neg c26] at H
     exact absurd H (by simp)
   rw [if_pos c26] at H
   have c26b0 : decide (x4_2 < (l0_0.length : Int)) = true := decide_eq_true c26
   clear c26
   replace H := Option.bind_eq_some_iff.mp H
   obtain ⟨t675, A270, H⟩ := H
   try dsimp only at H
   have A27 := ak A270
   clear A270
   replace H := Option.bind_eq_some_iff.mp H
   obtain ⟨t676, A280, H⟩ := H
   try dsimp only at H
   have A28 := ak A280
   clear A280
   replace H := Option.bind_eq_some_iff.mp H
   obtain ⟨t677, A290, H⟩ := H
   try dsimp only at H
   have A29 := ak A290
   clear A290
   by_cases c30 : ((t677 == 0) != t675) = true
   · rw [if_pos c30] at H
     have c30b0 : ((t677 == 0) != t675) = true := c30
     (try (have c30b1 : decide ((t677 == 0) = t675) = false := by simpa using c30))
     (try (have c30b2 : ((t677 == 0) == t675) = false := by simpa using c30))
     (try (have c30b3 : ¬ ((t677 == 0) = t675) := by simpa using c30))
     clear c30
     exact absurd (Option.some.inj H) (by decide)
   rw [if_neg c30] at H
   have c30b0 : ((t677 == 0) != t675) = false := by simpa using c30
   (try (have c30b1 : decide ((t677 == 0) = t675) = true := by simpa using c30))
   (try (have c30b2 : ((t677 == 0) == t675) = true := by simpa using c30))
   clear c30
   have HC31 := ak H
   clear H
   have hcz32_0 : wc.cell? ⟨gb661, 0, none⟩ = some (.slice A0_0 l0_0.length c0_0) := (blk_cell BK661.out 0).trans rfl
   have hcz32_1 : wc.cell? ⟨gb661, 1, none⟩ = some (.slice A0_1 l0_1.length c0_1) := (blk_cell BK661.out 1).trans rfl
   have hfz32_0 := blk_frozen BK661.out 0
   have hfz32_1 := blk_frozen BK661.out 1
   have p673 : 0 ≤ (x4_2 : Int) := of_decide_eq_true (by first | (with_reducible assumption) | assumption)
   have q673 : x4_2 < (l0_0.length : Int) := of_decide_eq_true (by first | (with_reducible assumption) | assumption)
   obtain ⟨ad673, e673, hx673_0, hx673_1⟩ := at_T27 HR0_0.out x4_2 p673 q673
   cases e673
   replace hx673_0 := (HB.out.cell (World.block_lt_of_cell? w _ hx673_0)).trans hx673_0
   replace hx673_1 := (HB.out.cell (World.block_lt_of_cell? w _ hx673_1)).trans hx673_1
   replace p673 := eq_true p673
   replace q673 := eq_true q673
   go_upto_if 67 with (first | ((with_reducible refine gate_dst (N := 5) rfl ?_); refine box_event ?hg (N := 5) ?hd (cs := #[.string (⟨#[]⟩ : ByteArray), .int .i64 0]) (t := 27) ?hr ?_; (case hd => rfl); (case hg => rfl); (case hr => first | (go_simp; done) | (go_simp; rfl)); intro gb674 hg w33 hbox hb; have n0_ := ak (Kd.R_below (ur <| HO_3.out) hb); have n1_ := ak (blk_below (g := gb661) (o := .cells #[.slice (some ad673) l0_0.length c0_0, .slice A0_1 l0_1.length c0_1] 25 (0, 0)) (ub BK661.out) hb); have n2_ := ak (below_step (by repeat with_reducible first | exact HB.out | apply b1 | apply b2 | apply b3 | refine b4 ?_ GE661.out) hb); have n3_ := ak (hbox); have n4_ := ak ((by rw [hg]; exact (below_size (by repeat with_reducible first | exact HB.out | apply b1 | apply b2 | apply b3 | refine b4 ?_ GE661.out)) : w.heap.size ≤ gb674)); have n5_ := ak ((by rw [hg]; exact (below_size (by repeat with_reducible first | exact HB.out | apply b1 | apply b2 | apply b3 | refine b4 ?_ GE661.out)) : w.heap.size ≤ gb674)); have n6_ := ak ((by rw [hg]; exact Nat.ne_of_lt (blk_lt (g := gb661) (o := .cells #[.slice (some ad673) l0_0.length c0_0, .slice A0_1 l0_1.length c0_1] 25 (0, 0)) (ub BK661.out)) : gb661 ≠ gb674)); have n7_ := ak ((by rw [hg]; exact Nat.ne_of_gt (blk_lt (g := gb661) (o := .cells #[.slice (some ad673) l0_0.length c0_0, .slice A0_1 l0_1.length c0_1] 25 (0, 0)) (ub BK661.out)) : gb674 ≠ gb661)); clear HO_3; clear BK661; clear HB; have HO_3 := n0_; have BK661 := n1_; have HB := n2_; have BK674 := n3_; have GW674 := n4_; have GE674 := n5_; have NB661_674 := n6_; have NB674_661 := n7_; clear n0_ n1_ n2_ n3_ n4_ n5_ n6_ n7_; clear hb hbox hg; have hnb34 := NB674_661.out; have hnc34 := NB661_674.out; have hcz35_0 : w33.cell? ⟨gb674, 0, none⟩ = some (.string (⟨#[]⟩ : ByteArray)) := (blk_cell BK674.out 0).trans rfl; have hcz35_1 : w33.cell? ⟨gb674, 1, none⟩ = some (.int .i64 0) := (blk_cell BK674.out 1).trans rfl; have hfz35_0 := blk_frozen BK674.out 0; have hfz35_1 := blk_frozen BK674.out 1) | ((with_reducible refine gate_callee (f := 50) rfl ?_); refine goesL_ (some 60) rfl rfl Try.func50 (by kernel_rfl) rfl #[.agg #[.string ((rd_T27 l0_0 x4_2).f0), .int .i64 ((rd_T27 l0_0 x4_2).f1)]] rfl (by (try simp only [List.map_toArray, List.map_cons, List.map_nil]); first | done | rfl | (simp only [List.length_drop, List.length_take]; rfl)) ?_; (with_reducible refine (herbariumref1_Bits.calls kj19 ((rd_T27 l0_0 x4_2).f0) ((rd_T27 l0_0 x4_2).f1) t675 _ A27.out).mono ?_); rintro e w36 ⟨rfl, hb⟩; refine ⟨_, rfl, ?_⟩; have n0_ := ak (Kd.R_below (ur <| (Kd.R_mono (Kd.R_far (p := ⟨gb674, 1, none⟩) (Kd.R_far (p := ⟨gb674, 0, none⟩) (Kd.R_types HO_3.out BK674.out (by decide)) (fun _ hk => hk.2) (.string ((rd_T27 l0_0 x4_2).f0))) (fun _ hk => hk.2) (.int .i64 ((rd_T27 l0_0 x4_2).f1))) (fun _ h_ => h_.1))) hb); have n1_ := ak (blk_below (g := gb661) (o := .cells #[.slice (some ad673) l0_0.length c0_0, .slice A0_1 l0_1.length c0_1] 25 (0, 0)) (by (with_reducible repeat (first | refine blk_drewN ?_ _ | refine blk_drew ?_ | refine blk_alloc ?_ _)); refine blk_far ?_ NB661_674.out _; (with_reducible repeat (first | refine blk_drewN ?_ _ | refine blk_drew ?_ | refine blk_alloc ?_ _)); refine blk_far ?_ NB661_674.out _; (with_reducible repeat (first | refine blk_drewN ?_ _ | refine blk_drew ?_ | refine blk_alloc ?_ _)); exact BK661.out) hb); have n2_ := ak (blk_below (g := gb674) (o := .cells #[.string ((rd_T27 l0_0 x4_2).f0), .int .i64 ((rd_T27 l0_0 x4_2).f1)] 27 (0, 0)) (by (with_reducible repeat (first | refine blk_drewN ?_ _ | refine blk_drew ?_ | refine blk_alloc ?_ _)); refine blk_put (cs := #[.string ((rd_T27 l0_0 x4_2).f0), .int .i64 0]) ?_ 1 _ rfl; (with_reducible repeat (first | refine blk_drewN ?_ _ | refine blk_drew ?_ | refine blk_alloc ?_ _)); refine blk_put (cs := #[.string (⟨#[]⟩ : ByteArray), .int .i64 0]) ?_ 0 _ rfl; (with_reducible repeat (first | refine blk_drewN ?_ _ | refine blk_drew ?_ | refine blk_alloc ?_ _)); exact BK674.out) hb); have n3_ := ak (below_step (by repeat with_reducible first | exact HB.out | apply b1 | apply b2 | apply b3 | refine b4 ?_ GE661.out | refine b4 ?_ GE674.out) hb); clear HO_3; clear BK661; clear BK674; clear HB; have HO_3 := n0_; have BK661 := n1_; have BK674 := n2_; have HB := n3_; clear n0_ n1_ n2_ n3_; (try clear hb); (try clear hb2); (try clear hk); (try clear hi); have hcz37_0 : w36.cell? ⟨gb674, 0, none⟩ = some (.string ((rd_T27 l0_0 x4_2).f0)) := (blk_cell BK674.out 0).trans rfl; have hcz37_1 : w36.cell? ⟨gb674, 1, none⟩ = some (.int .i64 ((rd_T27 l0_0 x4_2).f1)) := (blk_cell BK674.out 1).trans rfl; have hfz37_0 := blk_frozen BK674.out 0; have hfz37_1 := blk_frozen BK674.out 1) | ((with_reducible refine gate_callee (f := 40) rfl ?_); refine goesL_ (some 62) rfl rfl Try.func40 (by kernel_rfl) rfl #[.agg #[.string ((rd_T27 l0_0 x4_2).f0), .int .i64 ((rd_T27 l0_0 x4_2).f1)]] rfl (by (try simp only [List.map_toArray, List.map_cons, List.map_nil]); first | done | rfl | (simp only [List.length_drop, List.length_take]; rfl)) ?_; (with_reducible refine (bits_Check.calls ((rd_T27 l0_0 x4_2).f0) ((rd_T27 l0_0 x4_2).f1) t676 _ A28.out).mono ?_); rintro e w38 ⟨rfl, hb⟩; refine ⟨_, rfl, ?_⟩; have n0_ := ak (Kd.R_below (ur <| HO_3.out) hb); have n1_ := ak (blk_below (g := gb661) (o := .cells #[.slice (some ad673) l0_0.length c0_0, .slice A0_1 l0_1.length c0_1] 25 (0, 0)) (ub BK661.out) hb); have n2_ := ak (blk_below (g := gb674) (o := .cells #[.string ((rd_T27 l0_0 x4_2).f0), .int .i64 ((rd_T27 l0_0 x4_2).f1)] 27 (0, 0)) (ub BK674.out) hb); have n3_ := ak (below_step (by repeat with_reducible first | exact HB.out | apply b1 | apply b2 | apply b3 | refine b4 ?_ GE661.out | refine b4 ?_ GE674.out) hb); clear HO_3; clear BK661; clear BK674; clear HB; have HO_3 := n0_; have BK661 := n1_; have BK674 := n2_; have HB := n3_; clear n0_ n1_ n2_ n3_; (try clear hb); (try clear hb2); (try clear hk); (try clear hi)) | ((with_reducible refine gate_callee (f := 26) rfl ?_); refine goesL_ (some 63) rfl rfl Try.func26 (by kernel_rfl) rfl #[.int .i64 t676] rfl (by (try simp only [List.map_toArray, List.map_cons, List.map_nil]); first | done | rfl | (simp only [List.length_drop, List.length_take]; rfl)) ?_; (with_reducible refine (herbariumlaw1_num.calls t676 t677 _ A29.out).mono ?_); rintro e w' ⟨rfl, ⟨nd, rfl⟩⟩; refine ⟨_, rfl, ?_⟩))
   (try simp only [Act.put, s1, s2, s3])
   go_cut [7] from 67 to 67 (fun v7 wc => ∃ (kq : Nat) (x7_30 : List Int), Aside0 (herbariumlaw1_BitsExact.j3 kq x3_7 x4_2 t675 x7_30 l0_0 l0_1 ((rd_T27 l0_0 x4_2).f0) ((rd_T27 l0_0 x4_2).f1) = some true) ∧ Aside0 (kq ≤ kj19) ∧ Aside0 (Kd.R (Kd.int .i64) 3 wc w.heap.size (fun _ => True) u3 x3_7) ∧ Aside0 (Kd.R (Kd.int .u8) 5 wc w.heap.size (fun _ => True) v7 x7_30) ∧ Aside0 (wc.heap[gb661]? = some (.cells #[(.slice (some ad673) l0_0.length c0_0), (.slice A0_1 l0_1.length c0_1)] 25 (0, 0))) ∧ Aside0 (wc.heap[gb674]? = some (.cells #[.string ((rd_T27 l0_0 x4_2).f0), .int .i64 ((rd_T27 l0_0 x4_2).f1)] 27 (0, 0))) ∧ Aside0 (Below w.heap.size w wc))
   case first =>
     have H := HC31.out
     clear HC31
     by_cases c39 : t675 = true
     rotate_left
     · replace c39 := Bool.eq_false_iff.mpr c39
       subst c39
       have H1 : (herbariumlaw1_BitsExact.j3 kj19 x3_7 x4_2 false ([] : List Int) l0_0 l0_1 ((rd_T27 l0_0 x4_2).f0) ((rd_T27 l0_0 x4_2).f1)) = some true := by rw [if_neg (show ¬ (false = true) by decide)] at H; exact H
       clear H
       have H := H1
       clear H1
       have H' := ak H
       clear H
       go_wp2
       go_meet
       case rel => exact ⟨_, (([] : List Int)), H', ⟨by have := HJ7.out; have := HK2.out; have := HJ19.out; first | omega | exact Nat.le_refl _⟩, ⟨ur <| HO_3.out⟩, ⟨by first | exact Kd.R_nil _ _ _ _ _ | exact Kd.N_nil _ _ _ _ _ | exact Kd.V_nil _ _ _ _ _ | exact Kd.Q_nil _ _ _ _ _ | exact Kd.S_nil _ _ _ _ _⟩, ⟨ub BK661.out⟩, ⟨ub BK674.out⟩, ⟨by repeat with_reducible first | exact HB.out | apply b1 | apply b2 | apply b3 | refine b4 ?_ GE661.out | refine b4 ?_ GE674.out⟩⟩
     subst c39
     have H1 : ((herbariumref1_Of.f kj19 ((rd_T27 l0_0 x4_2).f0) ((rd_T27 l0_0 x4_2).f1)).bind fun t678 => (herbariumlaw1_BitsExact.j3 kj19 x3_7 x4_2 true t678 l0_0 l0_1 ((rd_T27 l0_0 x4_2).f0) ((rd_T27 l0_0 x4_2).f1))) = some true := by rw [if_pos rfl] at H; exact H
     clear H
     have H := H1
     clear H1
     replace H := Option.bind_eq_some_iff.mp H
     obtain ⟨t678, A400, H⟩ := H
     try dsimp only at H
     have A40 := ak A400
     clear A400
     have H' := ak H
     clear H
     have hnb41 := NB674_661.out
     have hnc41 := NB661_674.out
     have hcz42_0 : w38.cell? ⟨gb674, 0, none⟩ = some (.string ((rd_T27 l0_0 x4_2).f0)) := (blk_cell BK674.out 0).trans rfl
     have hcz42_1 : w38.cell? ⟨gb674, 1, none⟩ = some (.int .i64 ((rd_T27 l0_0 x4_2).f1)) := (blk_cell BK674.out 1).trans rfl
     have hfz42_0 := blk_frozen BK674.out 0
     have hfz42_1 := blk_frozen BK674.out 1
     go_wp2_with (first | ((with_reducible refine gate_callee (f := 52) rfl ?_); refine goesL_ (some 69) rfl rfl Try.func52 (by kernel_rfl) rfl #[.agg #[.string ((rd_T27 l0_0 x4_2).f0), .int .i64 ((rd_T27 l0_0 x4_2).f1)]] rfl (by (try simp only [List.map_toArray, List.map_cons, List.map_nil]); first | done | rfl | (simp only [List.length_drop, List.length_take]; rfl)) ?_; (with_reducible refine (herbariumref1_Of.calls kj19 ((rd_T27 l0_0 x4_2).f0) ((rd_T27 l0_0 x4_2).f1) t678 _ A40.out).mono ?_); rintro e w43 ⟨v679, rfl, ho0, hb⟩; refine ⟨_, rfl, ?_⟩; have n0_ := ak (Kd.R_below (ur <| HO_3.out) hb); have n1_ := ak (Kd.R_lower ho0 (below_size (by repeat with_reducible first | exact HB.out | apply b1 | apply b2 | apply b3 | refine b4 ?_ GE661.out | refine b4 ?_ GE674.out))); have n2_ := ak (blk_below (g := gb661) (o := .cells #[.slice (some ad673) l0_0.length c0_0, .slice A0_1 l0_1.length c0_1] 25 (0, 0)) (ub BK661.out) hb); have n3_ := ak (blk_below (g := gb674) (o := .cells #[.string ((rd_T27 l0_0 x4_2).f0), .int .i64 ((rd_T27 l0_0 x4_2).f1)] 27 (0, 0)) (ub BK674.out) hb); have n4_ := ak (below_step (by repeat with_reducible first | exact HB.out | apply b1 | apply b2 | apply b3 | refine b4 ?_ GE661.out | refine b4 ?_ GE674.out) hb); clear HO_3; clear BK661; clear BK674; clear HB; have HO_3 := n0_; have HO680 := n1_; have BK661 := n2_; have BK674 := n3_; have HB := n4_; clear n0_ n1_ n2_ n3_ n4_; (try clear hb); (try clear hb2); (try clear hk); (try clear hi); (try clear ho0)))
     go_meet
     case rel => exact ⟨_, (t678), H', ⟨by have := HJ7.out; have := HK2.out; have := HJ19.out; first | omega | exact Nat.le_refl _⟩, ⟨ur <| HO_3.out⟩, ⟨ur <| HO680.out⟩, ⟨ub BK661.out⟩, ⟨ub BK674.out⟩, ⟨by repeat with_reducible first | exact HB.out | apply b1 | apply b2 | apply b3 | refine b4 ?_ GE661.out | refine b4 ?_ GE674.out⟩⟩
   clear HC31
   try clear c3
   try clear c7
   try clear c24
   try clear c25
   try clear c25b0
   try clear c26
   try clear c26b0
   try clear c30
   try clear c30b0
   try clear c30b1
   try clear c30b2
   try clear hcz10_0
   try clear hcz10_1
   try clear hcz14_0
   try clear hcz14_1
   try clear hcz32_0
   try clear hcz32_1
   try clear hcz35_0
   try clear hcz35_1
   try clear hcz37_0
   try clear hcz37_1
   try clear hfz10_0
   try clear hfz10_1
   try clear hfz14_0
   try clear hfz14_1
   try clear hfz32_0
   try clear hfz32_1
   try clear hfz35_0
   try clear hfz35_1
   try clear hfz37_0
   try clear hfz37_1
   try clear hx673_0
   try clear hx673_1
   try clear p673
   try clear q673
   try clear HA
   try clear HJ30
   try clear HO_3
   try clear HO_7
   try clear BK661
   try clear BK674
   try clear HB
   obtain ⟨kq, x7_30, HA, HJ30, HO_3, HO_7, BK661, BK674, HB⟩ := hcut
   rename_i z3_1 z3_2 z3_3 z3_4 z3_5 z3_6 z3_7 z3_8 z3_9 z3_10 z3_11 z3_12 z3_13 z3_14 z3_15 z3_16 z3_17 z3_18
   revert k c0_0 l0_0 A0_1 c0_1 l0_1 w hu25 hu27 HC0_0 HR0_1 HC0_1 A2 y663 Ny663 LMc7 y666 Ny666 z1_1 gb661 w9 GW661 GE661 w11 z1_2 v664 w12 w15 Ao16 co16 HO668 z3_1 u3 u40 u41 u42 x3_7 kj7 HJ7 z2_1 z2_2 wr u2 u5 u6 z3_2 u8 u9 u10 u11 u12 u13 u14 u15 u16 u17 u18 u19 u20 u21 u22 u23 u24 u25 u26 u27 u28 u29 u30 u31 z3_3 z3_4 z3_5 z3_6 z3_7 z3_8 z3_9 z3_10 u51 u52 u53 u54 u55 u56 u57 u58 u59 u60 u61 u62 u63 u64 u65 u66 z3_11 z3_12 z3_13 u70 u71 u72 u73 u74 u75 u76 u77 u78 u79 u80 u81 u82 u83 u84 u85 u86 u87 u88 u89 u90 u91 u92 u93 u94 u95 u96 u97 u98 u99 u100 u101 u102 u103 u104 u105 u106 u107 u108 u109 u110 u111 u112 u113 u114 u115 u116 u117 u118 u119 u120 u121 u122 u123 u124 u125 u126 u127 u128 u129 u130 u131 u132 u133 u134 u135 u136 u137 u138 u139 u140 u141 u142 u143 u144 u145 u146 u147 u148 u149 u150 u151 u152 u153 u154 u155 u156 u157 u158 u159 u160 u161 u162 u163 u164 u165 u166 u167 u168 u169 u170 u171 u172 u173 u174 u175 u176 u177 u178 u179 u180 u181 u182 u183 u184 u185 u186 u187 u188 u189 u190 u191 u192 u193 u194 u195 u196 u197 u198 u199 u200 u201 u202 u203 u204 u205 u206 u207 u208 u209 u210 u211 u212 u213 u214 u215 u216 u217 u218 u219 u220 u221 u222 u223 u224 u225 u226 u227 u228 u229 u230 u231 u232 u233 u234 u235 u236 u237 u238 u239 u240 u241 u242 u243 u244 u245 u246 u247 u248 u249 u250 u251 u252 u253 u254 u255 u256 u257 u258 u259 u260 u261 u262 u263 u264 u265 u266 u267 u268 u269 u270 u271 u272 u273 u274 u275 u276 u277 u278 u279 u280 u281 u282 u283 u284 u285 u286 u287 u288 u289 u290 u291 u292 u293 u294 u295 u296 u297 u298 u299 u300 u301 u302 u303 u304 u305 u306 u307 u308 u309 u310 u311 u312 u313 u314 u315 u316 u317 u318 u319 u320 u321 u322 u323 u324 u325 u326 u327 u328 u329 u330 u331 u332 u333 u334 u335 u336 u337 u338 u339 u340 u341 u342 u343 u344 u345 u346 u347 u348 u349 u350 u351 u352 u353 u354 u355 u356 u357 u358 u359 u360 u361 u362 u363 u364 u365 u366 u367 u368 u369 u370 u371 u372 u373 u374 u375 u376 z2_3 z2_4 x4_2 k2 z2_6 HK2 z3_14 u43 u44 u45 u46 u47 u48 u49 u50 kj19 HJ19 t675 A27 t676 A28 t677 A29 ad673 HR0_0 z2_5 z3_15 z3_16 gb674 w33 GW674 GE674 NB661_674 NB674_661 hnb34 hnc34 w36 w38 nd z3_17 z3_18 wc u7 u67 u68 u69 kq x7_30 HA HJ30 HO_3 HO_7 BK661 BK674 HB
   exact hP_.out
end Go.Proofs.Ytnpghcikhpglkaa.Q
namespace Go.Proofs.Ytnpghcikhpglkaa.Q
open Go.RowKit Go.Proofs.YtnpghcikhpglkaaW.PrintWords Go.Proofs.YtnpghcikhpglkaaW.PrintLast Go.Proofs.YtnpghcikhpglkaaW.PrintMore
attribute [local go_sem] max2_int min2_int max_two min_two max_three min_three max_four min_four   -- for this text's walks alone
set_option linter.unusedVariables false
set_option linter.unusedSimpArgs false
attribute [local go_sem high] eqA27
set_option maxHeartbeats 8000000 in
set_option maxRecDepth 100000 in
noncomputable def herbariumlaw1_BitsExact.p4 : PSigma fun P_ : Prop => Later P_ → herbariumlaw1_BitsExact.p3.1 := by
  refine' ⟨_, fun hP_ => ?_⟩
  rotate_left
  focus
   intro k c0_0 l0_0 A0_1 c0_1 l0_1 w hu25 hu27 HC0_0 HR0_1 HC0_1 A2 y663 Ny663 LMc7 y666 Ny666 z1_1 gb661 w9 GW661 GE661 w11 z1_2 v664 w12 w15 Ao16 co16 HO668 z3_1 u3 u40 u41 u42 x3_7 kj7 HJ7 z2_1 z2_2 wr u2 u5 u6 z3_2 u8 u9 u10 u11 u12 u13 u14 u15 u16 u17 u18 u19 u20 u21 u22 u23 u24 u25 u26 u27 u28 u29 u30 u31 z3_3 z3_4 z3_5 z3_6 z3_7 z3_8 z3_9 z3_10 u51 u52 u53 u54 u55 u56 u57 u58 u59 u60 u61 u62 u63 u64 u65 u66 z3_11 z3_12 z3_13 u70 u71 u72 u73 u74 u75 u76 u77 u78 u79 u80 u81 u82 u83 u84 u85 u86 u87 u88 u89 u90 u91 u92 u93 u94 u95 u96 u97 u98 u99 u100 u101 u102 u103 u104 u105 u106 u107 u108 u109 u110 u111 u112 u113 u114 u115 u116 u117 u118 u119 u120 u121 u122 u123 u124 u125 u126 u127 u128 u129 u130 u131 u132 u133 u134 u135 u136 u137 u138 u139 u140 u141 u142 u143 u144 u145 u146 u147 u148 u149 u150 u151 u152 u153 u154 u155 u156 u157 u158 u159 u160 u161 u162 u163 u164 u165 u166 u167 u168 u169 u170 u171 u172
   intro u173 u174 u175 u176 u177 u178 u179 u180 u181 u182 u183 u184 u185 u186 u187 u188 u189 u190 u191 u192 u193 u194 u195 u196 u197 u198 u199 u200 u201 u202 u203 u204 u205 u206 u207 u208 u209 u210 u211 u212 u213 u214 u215 u216 u217 u218 u219 u220 u221 u222 u223 u224 u225 u226 u227 u228 u229 u230 u231 u232 u233 u234 u235 u236 u237 u238 u239 u240 u241 u242 u243 u244 u245 u246 u247 u248 u249 u250 u251 u252 u253 u254 u255 u256 u257 u258 u259 u260 u261 u262 u263 u264 u265 u266 u267 u268 u269 u270 u271 u272 u273 u274 u275 u276 u277 u278 u279 u280 u281 u282 u283 u284 u285 u286 u287 u288 u289 u290 u291 u292 u293 u294 u295 u296 u297 u298 u299 u300 u301 u302 u303 u304 u305 u306 u307 u308 u309 u310 u311 u312 u313 u314 u315 u316 u317 u318 u319 u320 u321 u322 u323 u324 u325 u326 u327 u328 u329 u330 u331 u332 u333 u334 u335 u336 u337 u338 u339 u340 u341 u342 u343 u344 u345 u346 u347 u348 u349 u350 u351 u352 u353 u354 u355 u356 u357 u358 u359 u360 u361 u362 u363 u364 u365 u366 u367 u368 u369 u370 u371 u372
   intro u373 u374 u375 u376 z2_3 z2_4 x4_2 k2 z2_6 HK2 z3_14 u43 u44 u45 u46 u47 u48 u49 u50 kj19 HJ19 t675 A27 t676 A28 t677 A29 ad673 HR0_0 z2_5 z3_15 z3_16 gb674 w33 GW674 GE674 NB661_674 NB674_661 hnb34 hnc34 w36 w38 nd z3_17 z3_18 wc u7 u67 u68 u69 kq x7_30 HA HJ30 HO_3 HO_7 BK661 BK674 HB
   cases kq with
   | zero => exact absurd HA.out (by simp [herbariumlaw1_BitsExact.j3])
   | succ kj30 => ?_
   have H := HA.out
   clear HA
   simp only [herbariumlaw1_BitsExact.j3] at H
   have H' := ak H
   clear H
   go_wp2
   go_loopg [8] kj30 (fun kq v8 w' => ∃ (x8_5 : Int), v8 = .int .i64 x8_5 ∧ Aside0 (herbariumlaw1_BitsExact.l1 kq x3_7 x4_2 t675 x7_30 x8_5 l0_0 l0_1 ((rd_T27 l0_0 x4_2).f0) ((rd_T27 l0_0 x4_2).f1) = some true) ∧ Aside0 (kq ≤ kj30) ∧ Aside0 (Kd.R (Kd.int .i64) 3 w' w.heap.size (fun _ => True) u3 x3_7) ∧ Aside0 (Kd.R (Kd.int .u8) 5 w' w.heap.size (fun _ => True) u7 x7_30) ∧ Aside0 (w'.heap[gb661]? = some (.cells #[(.slice (some ad673) l0_0.length c0_0), (.slice A0_1 l0_1.length c0_1)] 25 (0, 0))) ∧ Aside0 (w'.heap[gb674]? = some (.cells #[.string ((rd_T27 l0_0 x4_2).f0), .int .i64 ((rd_T27 l0_0 x4_2).f1)] 27 (0, 0))) ∧ Aside0 (Below w.heap.size w w'))
   case atStart => exact ⟨(0), (by first | rfl | (simp; done) | (simp [*]; done)), H', ⟨Nat.le_refl _⟩, ⟨ur <| HO_3.out⟩, ⟨ur <| HO_7.out⟩, ⟨ub BK661.out⟩, ⟨ub BK674.out⟩, ⟨by repeat with_reducible first | exact HB.out | apply b1 | apply b2 | apply b3 | refine b4 ?_ GE661.out | refine b4 ?_ GE674.out⟩⟩
   clear H'
   try clear c3
   try clear c7
   try clear c24
   try clear c25
   try clear c25b0
   try clear c26
   try clear c26b0
   try clear c30
   try clear c30b0
   try clear c30b1
   try clear c30b2
   try clear hcz10_0
   try clear hcz10_1
   try clear hcz14_0
   try clear hcz14_1
   try clear hcz32_0
   try clear hcz32_1
   try clear hcz35_0
   try clear hcz35_1
   try clear hcz37_0
   try clear hcz37_1
   try clear hfz10_0
   try clear hfz10_1
   try clear hfz14_0
   try clear hfz14_1
   try clear hfz32_0
   try clear hfz32_1
   try clear hfz35_0
   try clear hfz35_1
   try clear hfz37_0
   try clear hfz37_1
   try clear hx673_0
   try clear hx673_1
   try clear p673
   try clear q673
   try clear HA
   try clear HK5
   try clear HO_3
   try clear HO_7
   try clear BK661
   try clear BK674
   try clear HB
   obtain ⟨x8_5, rfl, HA, HK5, HO_3, HO_7, BK661, BK674, HB⟩ := hrel
   rename_i z4_1 z4_2 z4_3 z4_4 z4_5 z4_6 z4_7 z4_8 z4_9 z4_10 z4_11 z4_12 z4_13 z4_14 z4_15 z4_16 z4_17 z4_18 z4_19 z4_20 z4_21 z4_22 z4_23 z4_24 z4_25 z4_26 z4_27 z4_28 z4_29 z4_30 z4_31 z4_32 z4_33 z4_34 z4_35 z4_36 z4_37 z4_38 z4_39 z4_40 z4_41 z4_42 z4_43 z4_44 z4_45 z4_46 z4_47 z4_48 z4_49 z4_50 z4_51 z4_52 z4_53 z4_54 z4_55 z4_56 z4_57 z4_58 z4_59 z4_60 z4_61 z4_62 z4_63 z4_64 z4_65 z4_66 z4_67 z4_68 z4_69 z4_70 z4_71 z4_72 z4_73 z4_74 z4_75 z4_76 z4_77 z4_78 z4_79 z4_80 z4_81 z4_82 z4_83 z4_84 z4_85 z4_86 z4_87 z4_88 z4_89 z4_90 z4_91 z4_92 z4_93 z4_94 z4_95 z4_96 z4_97 z4_98 z4_99 z4_100 z4_101 z4_102 z4_103 z4_104 z4_105 z4_106 z4_107 z4_108 z4_109 z4_110 z4_111 z4_112 z4_113 z4_114 z4_115 z4_116 z4_117 z4_118 z4_119 z4_120 z4_121 z4_122 z4_123 z4_124 z4_125 z4_126 z4_127 z4_128 z4_129 z4_130 z4_131 z4_132 z4_133 z4_134 z4_135 z4_136 z4_137 z4_138 z4_139 z4_140 z4_141 z4_142 z4_143 z4_144 z4_145 z4_146 z4_147 z4_148 z4_149 z4_150 z4_151 z4_152 z4_153 z4_154 z4_155 z4_156 z4_157 z4_158 z4_159 z4_160 z4_161 z4_162 z4_163 z4_164 z4_165 z4_166 z4_167 z4_168 z4_169 z4_170 z4_171 z4_172 z4_173 z4_174 z4_175 z4_176 z4_177 z4_178 z4_179 z4_180 z4_181 z4_182 z4_183 z4_184 z4_185 z4_186 z4_187 z4_188 z4_189 z4_190 z4_191 z4_192 z4_193 z4_194 z4_195 z4_196 z4_197 z4_198 z4_199 z4_200 z4_201 z4_202 z4_203 z4_204 z4_205 z4_206 z4_207 z4_208 z4_209 z4_210 z4_211 z4_212 z4_213 z4_214 z4_215 z4_216 z4_217 z4_218 z4_219 z4_220 z4_221 z4_222 z4_223 z4_224 z4_225 z4_226 z4_227 z4_228 z4_229 z4_230 z4_231 z4_232 z4_233 z4_234 z4_235 z4_236 z4_237 z4_238 z4_239 z4_240 z4_241 z4_242 z4_243 z4_244 z4_245 z4_246 z4_247 z4_248 z4_249 z4_250 z4_251 z4_252 z4_253 z4_254 z4_255 z4_256 z4_257 z4_258 z4_259 z4_260 z4_261 z4_262 z4_263 z4_264 z4_265 z4_266 z4_267 z4_268 z4_269 z4_270 z4_271 z4_272
   revert k c0_0 l0_0 A0_1 c0_1 l0_1 w hu25 hu27 HC0_0 HR0_1 HC0_1 A2 y663 Ny663 LMc7 y666 Ny666 z1_1 gb661 w9 GW661 GE661 w11 z1_2 v664 w12 w15 Ao16 co16 HO668 z3_1 u3 u40 u41 u42 x3_7 kj7 HJ7 z2_1 z2_2 z4_1 z4_2 u5 u6 z3_2 u8 z4_3 z4_4 z4_5 z4_6 z4_7 z4_8 z4_9 z4_10 z4_11 z4_12 z4_13 z4_14 z4_15 z4_16 z4_17 z4_18 z4_19 z4_20 u27 u28 u29 u30 u31 z3_3 z3_4 z3_5 z3_6 z3_7 z3_8 z3_9 z3_10 u51 u52 u53 u54 u55 u56 u57 u58 u59 u60 u61 u62 u63 u64 u65 u66 z3_11 z3_12 z3_13 z4_21 z4_22 z4_23 z4_24 z4_25 z4_26 z4_27 z4_28 z4_29 z4_30 z4_31 z4_32 z4_33 z4_34 z4_35 z4_36 z4_37 z4_38 z4_39 z4_40 z4_41 z4_42 z4_43 z4_44 z4_45 z4_46 z4_47 z4_48 z4_49 z4_50 z4_51 z4_52 z4_53 z4_54 z4_55 z4_56 z4_57 z4_58 z4_59 z4_60 z4_61 z4_62 z4_63 z4_64 z4_65 z4_66 z4_67 z4_68 z4_69 z4_70 z4_71 z4_72 z4_73 z4_74 z4_75 z4_76 z4_77 z4_78 z4_79 z4_80 z4_81 z4_82 z4_83 z4_84 z4_85 z4_86 z4_87 z4_88 z4_89 z4_90 z4_91 z4_92 z4_93 z4_94 z4_95 z4_96 z4_97 z4_98 z4_99 z4_100 z4_101 z4_102 z4_103 z4_104 z4_105 z4_106 z4_107 z4_108 z4_109 z4_110 z4_111 z4_112 z4_113 z4_114 z4_115 z4_116 z4_117 z4_118 z4_119 z4_120 z4_121 z4_122 z4_123 z4_124 z4_125 z4_126 z4_127 z4_128 z4_129 z4_130 z4_131 z4_132 z4_133 z4_134 z4_135 z4_136 z4_137 z4_138 z4_139 z4_140 z4_141 z4_142 z4_143 z4_144 z4_145 z4_146 z4_147 z4_148 z4_149 z4_150 z4_151 z4_152 z4_153 z4_154 z4_155 z4_156 z4_157 z4_158 z4_159 z4_160 z4_161 z4_162 z4_163 z4_164 z4_165 z4_166 z4_167 z4_168 z4_169 z4_170 z4_171 z4_172 z4_173 z4_174 z4_175 z4_176 z4_177 z4_178 z4_179 z4_180 z4_181 z4_182 z4_183 z4_184 z4_185 z4_186 z4_187 z4_188 z4_189 z4_190 z4_191 z4_192 z4_193 z4_194 z4_195 z4_196 z4_197 z4_198 z4_199 z4_200 z4_201 z4_202 z4_203 z4_204 z4_205 z4_206 z4_207 z4_208 z4_209 z4_210 z4_211 z4_212 z4_213 z4_214 z4_215 z4_216 z4_217 z4_218 z4_219 z4_220 z4_221 z4_222 z4_223 z4_224 z4_225 z4_226 z4_227 z4_228 z4_229 z4_230 z4_231 z4_232 z4_233 z4_234 z4_235 z4_236 z4_237 z4_238 z4_239 z4_240 z4_241 z4_242 z4_243 z4_244 z4_245 z4_246 z4_247 z4_248 z4_249 z4_250 z4_251 z4_252 z4_253 z4_254 z4_255 z4_256 z4_257 z4_258 z4_259 z4_260 z4_261 z4_262 z4_263 z4_264 z4_265 z4_266 u316 u317 u318 u319 u320 u321 u322 u323 u324 u325 u326 u327 u328 u329 u330 u331 u332 u333 u334 u335 u336 u337 u338 u339 u340 u341 u342 u343 u344 u345 u346 u347 u348 u349 u350 u351 u352 u353 u354 u355 u356 u357 u358 u359 u360 u361 u362 u363 u364 u365 u366 u367 u368 u369 u370 u371 u372 u373 u374 u375 u376 z2_3 z2_4 x4_2 k2 z2_6 HK2 z3_14 u43 u44 u45 u46 u47 u48 u49 u50 kj19 HJ19 t675 A27 t676 A28 t677 A29 ad673 HR0_0 z2_5 z3_15 z3_16 gb674 w33 GW674 GE674 NB661_674 NB674_661 hnb34 hnc34 w36 w38 nd wc u7 u67 u68 u69 x7_30 kj30 HJ30 z4_267 z4_268 gk wr u2 u9 u10 u11 u12 u13 u14 u15 u16 u17 u18 u19 u20 u21 u22 u23 u24 u25 u26 u70 u71 u72 u73 u74 u75 u76 u77 u78 u79 u80 u81 u82 u83 u84 u85 u86 u87 u88 u89 u90 u91 u92 u93 u94 u95 u96 u97 u98 u99 u100 u101 u102 u103 u104 u105 u106 u107 u108 u109 u110 u111 u112 u113 u114 u115 u116 u117 u118 u119 u120 u121 u122 u123 u124 u125 u126 u127 u128 u129 u130 u131 u132 u133 u134 u135 u136 u137 u138 u139 u140 u141 u142 u143 u144 u145 u146 u147 u148 u149 u150 u151 u152 u153 u154 u155 u156 u157 u158 u159 u160 u161 u162 u163 u164 u165 u166 u167 u168 u169 u170 u171 u172 u173 u174 u175 u176 u177 u178 u179 u180 u181 u182 u183 u184 u185 u186 u187 u188 u189 u190 u191 u192 u193 u194 u195 u196 u197 u198 u199 u200 u201 u202 u203 u204 u205 u206 u207 u208 u209 u210 u211 u212 u213 u214 u215 u216 u217 u218 u219 u220 u221 u222 u223 u224 u225 u226 u227 u228 u229 u230 u231 u232 u233 u234 u235 u236 u237 u238 u239 u240 u241 u242 u243 u244 u245 u246 u247 u248 u249 u250 u251 u252 u253 u254 u255 u256 u257 u258 u259 u260 u261 u262 u263 u264 u265 u266 u267 u268 u269 u270 u271 u272 u273 u274 u275 u276 u277 u278 u279 u280 u281 u282 u283 u284 u285 u286 u287 u288 u289 u290 u291 u292 u293 u294 u295 u296 u297 u298 u299 u300 u301 u302 u303 u304 u305 u306 u307 u308 u309 u310 u311 u312 u313 u314 u315 z4_269 z4_270 z4_271 z4_272 x8_5 HA HK5 HO_3 HO_7 BK661 BK674 HB
   exact hP_.out
end Go.Proofs.Ytnpghcikhpglkaa.Q
namespace Go.Proofs.Ytnpghcikhpglkaa.Q
open Go.RowKit Go.Proofs.YtnpghcikhpglkaaW.PrintWords Go.Proofs.YtnpghcikhpglkaaW.PrintLast Go.Proofs.YtnpghcikhpglkaaW.PrintMore
attribute [local go_sem] max2_int min2_int max_two min_two max_three min_three max_four min_four   -- for this text's walks alone
set_option linter.unusedVariables false
set_option linter.unusedSimpArgs false
attribute [local go_sem high] eqA27
set_option maxHeartbeats 8000000 in
set_option maxRecDepth 100000 in
noncomputable def herbariumlaw1_BitsExact.p5 : PSigma fun P_ : Prop => Later P_ → herbariumlaw1_BitsExact.p4.1 := by
  refine' ⟨_, fun hP_ => ?_⟩
  rotate_left
  focus
   intro k c0_0 l0_0 A0_1 c0_1 l0_1 w hu25 hu27 HC0_0 HR0_1 HC0_1 A2 y663 Ny663 LMc7 y666 Ny666 z1_1 gb661 w9 GW661 GE661 w11 z1_2 v664 w12 w15 Ao16 co16 HO668 z3_1 u3 u40 u41 u42 x3_7 kj7 HJ7 z2_1 z2_2 z4_1 z4_2 u5 u6 z3_2 u8 z4_3 z4_4 z4_5 z4_6 z4_7 z4_8 z4_9 z4_10 z4_11 z4_12 z4_13 z4_14 z4_15 z4_16 z4_17 z4_18 z4_19 z4_20 u27 u28 u29 u30 u31 z3_3 z3_4 z3_5 z3_6 z3_7 z3_8 z3_9 z3_10 u51 u52 u53 u54 u55 u56 u57 u58 u59 u60 u61 u62 u63 u64 u65 u66 z3_11 z3_12 z3_13 z4_21 z4_22 z4_23 z4_24 z4_25 z4_26 z4_27 z4_28 z4_29 z4_30 z4_31 z4_32 z4_33 z4_34 z4_35 z4_36 z4_37 z4_38 z4_39 z4_40 z4_41 z4_42 z4_43 z4_44 z4_45 z4_46 z4_47 z4_48 z4_49 z4_50 z4_51 z4_52 z4_53 z4_54 z4_55 z4_56 z4_57 z4_58 z4_59 z4_60 z4_61 z4_62 z4_63 z4_64 z4_65 z4_66 z4_67 z4_68 z4_69 z4_70 z4_71 z4_72 z4_73 z4_74 z4_75 z4_76 z4_77 z4_78 z4_79 z4_80 z4_81 z4_82 z4_83 z4_84 z4_85 z4_86 z4_87 z4_88 z4_89 z4_90 z4_91 z4_92 z4_93 z4_94 z4_95 z4_96 z4_97 z4_98 z4_99 z4_100 z4_101 z4_102 z4_103 z4_104 z4_105 z4_106 z4_107 z4_108 z4_109 z4_110 z4_111 z4_112 z4_113 z4_114 z4_115 z4_116 z4_117 z4_118 z4_119 z4_120 z4_121 z4_122 z4_123
   intro z4_124 z4_125 z4_126 z4_127 z4_128 z4_129 z4_130 z4_131 z4_132 z4_133 z4_134 z4_135 z4_136 z4_137 z4_138 z4_139 z4_140 z4_141 z4_142 z4_143 z4_144 z4_145 z4_146 z4_147 z4_148 z4_149 z4_150 z4_151 z4_152 z4_153 z4_154 z4_155 z4_156 z4_157 z4_158 z4_159 z4_160 z4_161 z4_162 z4_163 z4_164 z4_165 z4_166 z4_167 z4_168 z4_169 z4_170 z4_171 z4_172 z4_173 z4_174 z4_175 z4_176 z4_177 z4_178 z4_179 z4_180 z4_181 z4_182 z4_183 z4_184 z4_185 z4_186 z4_187 z4_188 z4_189 z4_190 z4_191 z4_192 z4_193 z4_194 z4_195 z4_196 z4_197 z4_198 z4_199 z4_200 z4_201 z4_202 z4_203 z4_204 z4_205 z4_206 z4_207 z4_208 z4_209 z4_210 z4_211 z4_212 z4_213 z4_214 z4_215 z4_216 z4_217 z4_218 z4_219 z4_220 z4_221 z4_222 z4_223 z4_224 z4_225 z4_226 z4_227 z4_228 z4_229 z4_230 z4_231 z4_232 z4_233 z4_234 z4_235 z4_236 z4_237 z4_238 z4_239 z4_240 z4_241 z4_242 z4_243 z4_244 z4_245 z4_246 z4_247 z4_248 z4_249 z4_250 z4_251 z4_252 z4_253 z4_254 z4_255 z4_256 z4_257 z4_258 z4_259 z4_260 z4_261 z4_262 z4_263 z4_264 z4_265 z4_266 u316 u317 u318 u319 u320 u321 u322 u323 u324 u325 u326 u327 u328 u329 u330 u331 u332 u333 u334 u335 u336 u337 u338 u339 u340 u341 u342 u343 u344 u345 u346 u347 u348 u349 u350 u351 u352 u353 u354 u355 u356 u357 u358 u359 u360 u361 u362 u363 u364 u365 u366 u367 u368 u369 u370 u371 u372
   intro u373 u374 u375 u376 z2_3 z2_4 x4_2 k2 z2_6 HK2 z3_14 u43 u44 u45 u46 u47 u48 u49 u50 kj19 HJ19 t675 A27 t676 A28 t677 A29 ad673 HR0_0 z2_5 z3_15 z3_16 gb674 w33 GW674 GE674 NB661_674 NB674_661 hnb34 hnc34 w36 w38 nd wc u7 u67 u68 u69 x7_30 kj30 HJ30 z4_267 z4_268 gk wr u2 u9 u10 u11 u12 u13 u14 u15 u16 u17 u18 u19 u20 u21 u22 u23 u24 u25 u26 u70 u71 u72 u73 u74 u75 u76 u77 u78 u79 u80 u81 u82 u83 u84 u85 u86 u87 u88 u89 u90 u91 u92 u93 u94 u95 u96 u97 u98 u99 u100 u101 u102 u103 u104 u105 u106 u107 u108 u109 u110 u111 u112 u113 u114 u115 u116 u117 u118 u119 u120 u121 u122 u123 u124 u125 u126 u127 u128 u129 u130 u131 u132 u133 u134 u135 u136 u137 u138 u139 u140 u141 u142 u143 u144 u145 u146 u147 u148 u149 u150 u151 u152 u153 u154 u155 u156 u157 u158 u159 u160 u161 u162 u163 u164 u165 u166 u167 u168 u169 u170 u171 u172 u173 u174 u175 u176 u177 u178 u179 u180 u181 u182 u183 u184 u185 u186 u187 u188 u189 u190 u191 u192 u193 u194 u195
   intro u196 u197 u198 u199 u200 u201 u202 u203 u204 u205 u206 u207 u208 u209 u210 u211 u212 u213 u214 u215 u216 u217 u218 u219 u220 u221 u222 u223 u224 u225 u226 u227 u228 u229 u230 u231 u232 u233 u234 u235 u236 u237 u238 u239 u240 u241 u242 u243 u244 u245 u246 u247 u248 u249 u250 u251 u252 u253 u254 u255 u256 u257 u258 u259 u260 u261 u262 u263 u264 u265 u266 u267 u268 u269 u270 u271 u272 u273 u274 u275 u276 u277 u278 u279 u280 u281 u282 u283 u284 u285 u286 u287 u288 u289 u290 u291 u292 u293 u294 u295 u296 u297 u298 u299 u300 u301 u302 u303 u304 u305 u306 u307 u308 u309 u310 u311 u312 u313 u314 u315 z4_269 z4_270 z4_271 z4_272 x8_5 HA HK5 HO_3 HO_7 BK661 BK674 HB
   cases gk with
   | zero => exact absurd HA.out (by simp [herbariumlaw1_BitsExact.l1])
   | succ k5 => ?_
   have H := HA.out
   clear HA
   simp only [herbariumlaw1_BitsExact.l1] at H
   by_cases c44 : x8_5 < (x3_7.length : Int)
   rotate_left
   · rw [if_neg c44] at H
     have c44b0 : decide (x8_5 < (x3_7.length : Int)) = false := decide_eq_false c44
     clear c44
     have H' := ak H
     clear H
     obtain ⟨Ao218, co218, eo218⟩ := Kd.R_slice HO_3.out
     subst eo218
     go_wp2
     go_loopg [27] k5 (fun kq v27 w' => ∃ (x27_6 : Int), v27 = .int .i64 x27_6 ∧ Aside0 (herbariumlaw1_BitsExact.l3 kq x3_7 x4_2 t675 x7_30 x27_6 l0_0 l0_1 ((rd_T27 l0_0 x4_2).f0) ((rd_T27 l0_0 x4_2).f1) = some true) ∧ Aside0 (kq ≤ k5) ∧ Aside0 (Kd.R (Kd.int .i64) 3 w' w.heap.size (fun _ => True) (.slice Ao218 x3_7.length co218) x3_7) ∧ Aside0 (Kd.R (Kd.int .u8) 5 w' w.heap.size (fun _ => True) u7 x7_30) ∧ Aside0 (w'.heap[gb661]? = some (.cells #[(.slice (some ad673) l0_0.length c0_0), (.slice A0_1 l0_1.length c0_1)] 25 (0, 0))) ∧ Aside0 (w'.heap[gb674]? = some (.cells #[.string ((rd_T27 l0_0 x4_2).f0), .int .i64 ((rd_T27 l0_0 x4_2).f1)] 27 (0, 0))) ∧ Aside0 (Below w.heap.size w w'))
     case atStart => exact ⟨(0), (by first | rfl | (simp; done) | (simp [*]; done)), H', ⟨Nat.le_refl _⟩, ⟨ur <| HO_3.out⟩, ⟨ur <| HO_7.out⟩, ⟨ub BK661.out⟩, ⟨ub BK674.out⟩, ⟨by repeat with_reducible first | exact HB.out | apply b1 | apply b2 | apply b3 | refine b4 ?_ GE661.out | refine b4 ?_ GE674.out⟩⟩
     clear H'
     try clear c7
     try clear c26
     try clear c44
     try clear c44b0
     try clear HA
     try clear HK6
     try clear HO_3
     try clear HO_7
     try clear BK661
     try clear BK674
     try clear HB
     obtain ⟨x27_6, rfl, HA, HK6, HO_3, HO_7, BK661, BK674, HB⟩ := hrel
     cases gk with
     | zero => exact absurd HA.out (by simp [herbariumlaw1_BitsExact.l3])
     | succ k6 => ?_
     have H := HA.out
     clear HA
     simp only [herbariumlaw1_BitsExact.l3] at H
     have HC219 := ak H
     clear H
     go_upto_region 52 with (fail)
     go_cut [324] from 9999 to 0 (fun v324 wc => ∃ (kq : Nat) (x324_218 : Bool), v324 = .bool x324_218 ∧ Aside0 (herbariumlaw1_BitsExact.j17 kq x3_7 x4_2 t675 x7_30 x27_6 x324_218 l0_0 l0_1 ((rd_T27 l0_0 x4_2).f0) ((rd_T27 l0_0 x4_2).f1) = some true) ∧ Aside0 (kq ≤ k6) ∧ Aside0 (Kd.R (Kd.int .i64) 3 wc w.heap.size (fun _ => True) (.slice Ao218 x3_7.length co218) x3_7) ∧ Aside0 (Kd.R (Kd.int .u8) 5 wc w.heap.size (fun _ => True) u7 x7_30) ∧ Aside0 (wc.heap[gb661]? = some (.cells #[(.slice (some ad673) l0_0.length c0_0), (.slice A0_1 l0_1.length c0_1)] 25 (0, 0))) ∧ Aside0 (wc.heap[gb674]? = some (.cells #[.string ((rd_T27 l0_0 x4_2).f0), .int .i64 ((rd_T27 l0_0 x4_2).f1)] 27 (0, 0))) ∧ Aside0 (Below w.heap.size w wc))
     case first =>
       have H := HC219.out
       clear HC219
       by_cases c220 : x27_6 < (l0_0.length : Int)
       rotate_left
       · rw [if_neg c220] at H
         have c220b0 : decide (x27_6 < (l0_0.length : Int)) = false := decide_eq_false c220
         clear c220
         (first | rw [c220b0] | (simp only [i64_w, i32_w]; rw [c220b0]) | skip)
         have H' := ak H
         clear H
         have hnb223 := NB661_674.out
         have hnc223 := NB674_661.out
         have hcz224_0 : wr.cell? ⟨gb661, 0, none⟩ = some (.slice (some ad673) l0_0.length c0_0) := (blk_cell BK661.out 0).trans rfl
         have hcz224_1 : wr.cell? ⟨gb661, 1, none⟩ = some (.slice A0_1 l0_1.length c0_1) := (blk_cell BK661.out 1).trans rfl
         have hfz224_0 := blk_frozen BK661.out 0
         have hfz224_1 := blk_frozen BK661.out 1
         go_wp2
         go_meet
         case rel => exact ⟨_, (false), (by first | rfl | (simp; done) | (simp [*]; done)), H', ⟨by have := HJ7.out; have := HK2.out; have := HJ19.out; have := HJ30.out; have := HK5.out; have := HK6.out; first | omega | exact Nat.le_refl _⟩, ⟨ur <| HO_3.out⟩, ⟨ur <| HO_7.out⟩, ⟨ub BK661.out⟩, ⟨ub BK674.out⟩, ⟨by repeat with_reducible first | exact HB.out | apply b1 | apply b2 | apply b3 | refine b4 ?_ GE661.out | refine b4 ?_ GE674.out⟩⟩
       rw [if_pos c220] at H
       have c220b0 : decide (x27_6 < (l0_0.length : Int)) = true := decide_eq_true c220
       clear c220
       (first | rw [c220b0] | (simp only [i64_w, i32_w]; rw [c220b0]) | skip)
       have H' := ak H
       clear H
       have hnb221 := NB661_674.out
       have hnc221 := NB674_661.out
       have hcz222_0 : wr.cell? ⟨gb661, 0, none⟩ = some (.slice (some ad673) l0_0.length c0_0) := (blk_cell BK661.out 0).trans rfl
       have hcz222_1 : wr.cell? ⟨gb661, 1, none⟩ = some (.slice A0_1 l0_1.length c0_1) := (blk_cell BK661.out 1).trans rfl
       have hfz222_0 := blk_frozen BK661.out 0
       have hfz222_1 := blk_frozen BK661.out 1
       go_wp2
       go_meet
       case rel => exact ⟨_, (decide (x27_6 < 6)), (by first | rfl | (simp; done) | (simp [*]; done)), H', ⟨by have := HJ7.out; have := HK2.out; have := HJ19.out; have := HJ30.out; have := HK5.out; have := HK6.out; first | omega | exact Nat.le_refl _⟩, ⟨ur <| HO_3.out⟩, ⟨ur <| HO_7.out⟩, ⟨ub BK661.out⟩, ⟨ub BK674.out⟩, ⟨by repeat with_reducible first | exact HB.out | apply b1 | apply b2 | apply b3 | refine b4 ?_ GE661.out | refine b4 ?_ GE674.out⟩⟩
     clear HC219
     try clear c7
     try clear c26
     try clear c44
     try clear c44b0
     try clear HA
     try clear HJ218
     try clear HO_3
     try clear HO_7
     try clear BK661
     try clear BK674
     try clear HB
     obtain ⟨kq, x324_218, rfl, HA, HJ218, HO_3, HO_7, BK661, BK674, HB⟩ := hcut
     cases kq with
     | zero => exact absurd HA.out (by simp [herbariumlaw1_BitsExact.j17])
     | succ kj218 => ?_
     have H := HA.out
     clear HA
     simp only [herbariumlaw1_BitsExact.j17] at H
     by_cases c225 : x324_218 = true
     rotate_left
     · replace c225 := Bool.eq_false_iff.mpr c225
       subst c225
       have H1 : (herbariumlaw1_BitsExact.l0 kj218 x3_7 (wrap64 (x4_2 + 1)) l0_0 l0_1) = some true := by rw [if_neg (show ¬ (false = true) by decide)] at H; exact H
       clear H
       have H := H1
       clear H1
       have H' := ak H
       clear H
       go_wp2
       go_roundg kj218
       case measure => have := HJ7.out; have := HK2.out; have := HJ19.out; have := HJ30.out; have := HK5.out; have := HK6.out; have := HJ218.out; omega
       case rel => exact ⟨(wrap64 (x4_2 + 1)), (by first | rfl | (simp; done) | (simp [*]; done)), H', ⟨by have := HJ7.out; have := HK2.out; have := HJ19.out; have := HJ30.out; have := HK5.out; have := HK6.out; have := HJ218.out; omega⟩, ⟨ur <| HO_3.out⟩, ⟨ub BK661.out⟩, ⟨by repeat with_reducible first | exact HB.out | apply b1 | apply b2 | apply b3 | refine b4 ?_ GE661.out | refine b4 ?_ GE674.out⟩⟩
     subst c225
     have H1 : (if 0 ≤ x27_6 then (if x27_6 < (l0_0.length : Int) then ((bits_Cat.f ((rd_T27 l0_0 x4_2).f0) ((rd_T27 l0_0 x4_2).f1) ((rd_T27 l0_0 x27_6).f0) ((rd_T27 l0_0 x27_6).f1)).bind fun bt751 => (if t675 = true then ((herbariumref1_Bits.f kj218 ((rd_T27 l0_0 x27_6).f0) ((rd_T27 l0_0 x27_6).f1)).bind fun t757 => (herbariumlaw1_BitsExact.j18 kj218 x3_7 x4_2 t675 x7_30 x27_6 bt751.2.2 1 t757 l0_0 l0_1 ((rd_T27 l0_0 x4_2).f0) ((rd_T27 l0_0 x4_2).f1) bt751.1 bt751.2.1 (⟨#[]⟩ : ByteArray) 0)) else (herbariumlaw1_BitsExact.j18 kj218 x3_7 x4_2 t675 x7_30 x27_6 bt751.2.2 1 false l0_0 l0_1 ((rd_T27 l0_0 x4_2).f0) ((rd_T27 l0_0 x4_2).f1) bt751.1 bt751.2.1 (⟨#[]⟩ : ByteArray) 0))) else (none)) else (none)) = some true := by rw [if_pos rfl] at H; exact H
     clear H
     have H := H1
     clear H1
     by_cases c226 : 0 ≤ x27_6
     rotate_left
     · rw [if_neg c226] at H
       exact absurd H (by simp)
     rw [if_pos c226] at H
     have c226b0 : decide (0 ≤ x27_6) = true := decide_eq_true c226
     clear c226
     by_cases c227 : x27_6 < (l0_0.length : Int)
     rotate_left
     · rw [if_neg c227] at H
       exact absurd H (by simp)
     rw [if_pos c227] at H
     have c227b0 : decide (x27_6 < (l0_0.length : Int)) = true := decide_eq_true c227
     clear c227
     replace H := Option.bind_eq_some_iff.mp H
     obtain ⟨⟨t751, t752, t753⟩, A2280, H⟩ := H
     try dsimp only at H
     have A228 := ak A2280
     clear A2280
     have HC229 := ak H
     clear H
     try go_wp2
     have n0_ := ak (Kd.R_drew HO_3.out)
     have n1_ := ak (Kd.R_drew HO_7.out)
     have n2_ := ak (blk_drew BK661.out)
     have n3_ := ak (blk_drew BK674.out)
     have n4_ := ak (below_drew1 HB.out)
     clear HO_3
     clear HO_7
     clear BK661
     clear BK674
     clear HB
     have HO_3 := n0_
     have HO_7 := n1_
     have BK661 := n2_
     have BK674 := n3_
     have HB := n4_
     clear n0_ n1_ n2_ n3_ n4_
     have p750 : 0 ≤ (x27_6 : Int) := of_decide_eq_true (by first | (with_reducible assumption) | assumption)
     have q750 : x27_6 < (l0_0.length : Int) := of_decide_eq_true (by first | (with_reducible assumption) | assumption)
     obtain ⟨ad750, e750, hx750_0, hx750_1⟩ := at_T27 HR0_0.out x27_6 p750 q750
     have hw750_1 := hx750_1
     have hw750_0 := hx750_0
     obtain rfl : ad673 = ad750 := (by injection e750)
     replace hx750_0 := (HB.out.cell (World.block_lt_of_cell? w _ hx750_0)).trans hx750_0
     replace hx750_1 := (HB.out.cell (World.block_lt_of_cell? w _ hx750_1)).trans hx750_1
     replace p750 := eq_true p750
     replace q750 := eq_true q750
     refine start_ (n := 13) (S := fun w' => w'.cell? ⟨gb674, 0, none⟩ = some (.string ((rd_T27 l0_0 x4_2).f0)) ∧ w'.cell? ⟨gb674, 1, none⟩ = some (.int .i64 ((rd_T27 l0_0 x4_2).f1)) ∧ w'.cell? ⟨gb661, 0, none⟩ = some (.slice (some ad673) l0_0.length c0_0) ∧ w'.cell? ⟨gb661, 1, none⟩ = some (.slice A0_1 l0_1.length c0_1) ∧ w'.cell? (ad673.add ((x27_6).toNat * 2)) = some (.string ((rd_T27 l0_0 x27_6).f0)) ∧ w'.cell? ⟨(ad673.add ((x27_6).toNat * 2)).block, (ad673.add ((x27_6).toNat * 2)).off + 1, none⟩ = some (.int .i64 ((rd_T27 l0_0 x27_6).f1))) (ds := []) #[false, false, false, false, false, false, false, false, false, false, false, false, false] (by kernel_rfl) rfl rfl ⟨(blk_cell BK674.out 0).trans rfl, (blk_cell BK674.out 1).trans rfl, (blk_cell BK661.out 0).trans rfl, (blk_cell BK661.out 1).trans rfl, ((HB.out.cell (World.block_lt_of_cell? w _ hw750_0)).trans hw750_0), ((HB.out.cell (World.block_lt_of_cell? w _ hw750_1)).trans hw750_1)⟩ (fun hHeld => ?_); refine with_tabW herbariumlaw1_BitsExact.tab54 herbariumlaw1_BitsExact.bits54 (fun HT_ HW_ => ?_)
     generalize wc.drew = w230 at HO_3 HO_7 BK661 BK674 HB hx750_0 hx750_1 hHeld ⊢
     refine pure_ (i := 1) (N := some 329) (v := ?_) (a' := ?_) #[false, true, false, false, false, false, false, false, false, false, false, false, false] rfl rfl (any_of HT_.out (by kernel_rfl)) (fun _ _ _ h => h) (Or.inl ⟨by rfl, ?_⟩) ?_ ?_
     rotate_left
     · intro w'
       go_simp
       with_reducible rfl
     rotate_left
     · simp only [Act.put, s1, s2, s3, i64_w, i32_w]
       rfl
     refine pure_ (i := 3) (N := some 331) (v := ?_) (a' := ?_) #[false, true, false, true, false, false, false, false, false, false, false, false, false] rfl rfl (any_of HT_.out (by kernel_rfl)) (fun _ _ _ h => h) (Or.inl ⟨by rfl, ?_⟩) ?_ ?_
     rotate_left
     · intro w'
       go_simp
       with_reducible rfl
     rotate_left
     · simp only [Act.put, s1, s2, s3, i64_w, i32_w]
       rfl
     refine take_ (i := 0) (N := some 328) (v := ?_) (a' := ?_) #[true, true, false, true, false, false, false, false, false, false, false, false, false] rfl rfl (take_ofW HT_.out HW_.out (by kernel_rfl)) (fun _ _ _ h => h) (Or.inl ⟨by rfl, ?_⟩) hHeld ?_ ?_
     rotate_left
     · rintro w' ⟨s0, s1, s2, s3, s4, s5⟩
       go_simp
       with_reducible rfl
     rotate_left
     · simp only [Act.put, s1, s2, s3, i64_w, i32_w]
       rfl
     refine take_ (i := 2) (N := some 330) (v := ?_) (a' := ?_) #[true, true, true, true, false, false, false, false, false, false, false, false, false] rfl rfl (take_ofW HT_.out HW_.out (by kernel_rfl)) (fun _ _ _ h => h) (Or.inl ⟨by rfl, ?_⟩) hHeld ?_ ?_
     rotate_left
     · rintro w' ⟨s0, s1, s2, s3, s4, s5⟩
       go_simp
       with_reducible rfl
     rotate_left
     · simp only [Act.put, s1, s2, s3, i64_w, i32_w]
       rfl
     refine pure_ (i := 4) (N := some 332) (v := ?_) (a' := ?_) #[true, true, true, true, true, false, false, false, false, false, false, false, false] rfl rfl (any_of HT_.out (by kernel_rfl)) (fun _ _ _ h => h) (Or.inl ⟨by rfl, ?_⟩) ?_ ?_
     rotate_left
     · intro w'
       go_simp
       with_reducible rfl
     rotate_left
     · simp only [Act.put, s1, s2, s3, i64_w, i32_w]
       rfl
     refine take_ (i := 5) (N := some 333) (v := ?_) (a' := ?_) #[true, true, true, true, true, true, false, false, false, false, false, false, false] rfl rfl (take_ofW HT_.out HW_.out (by kernel_rfl)) (fun _ _ _ h => h) (Or.inl ⟨by rfl, ?_⟩) hHeld ?_ ?_
     rotate_left
     · rintro w' ⟨s0, s1, s2, s3, s4, s5⟩
       go_simp
       with_reducible rfl
     rotate_left
     · simp only [Act.put, s1, s2, s3, i64_w, i32_w]
       rfl
     refine join_ (σ := Nat) 2 #[true, true, true, true, true, true, true, true, true, true, true, false, false] (fun s_ => [(334, .tuple #[.agg #[.string t751, .int .i64 t752], .int .i64 t753]), (28, .pointer (some ⟨s_, 0, none⟩)), (327, .tuple #[.agg #[.string t751, .int .i64 t752], .int .i64 t753]), (335, .agg #[.string t751, .int .i64 t752]), (336, .int .i64 t753)]) (fun s_ w' => (w'.cell? ⟨gb674, 0, none⟩ = some (.string ((rd_T27 l0_0 x4_2).f0)) ∧ w'.cell? ⟨gb674, 1, none⟩ = some (.int .i64 ((rd_T27 l0_0 x4_2).f1)) ∧ w'.cell? ⟨gb661, 0, none⟩ = some (.slice (some ad673) l0_0.length c0_0) ∧ w'.cell? ⟨gb661, 1, none⟩ = some (.slice A0_1 l0_1.length c0_1) ∧ w'.cell? (ad673.add ((x27_6).toNat * 2)) = some (.string ((rd_T27 l0_0 x27_6).f0)) ∧ w'.cell? ⟨(ad673.add ((x27_6).toNat * 2)).block, (ad673.add ((x27_6).toNat * 2)).off + 1, none⟩ = some (.int .i64 ((rd_T27 l0_0 x27_6).f1))) ∧ (Kd.R (Kd.int .i64) 3 w' w.heap.size (fun _ => True) (.slice Ao218 x3_7.length co218) x3_7) ∧ (Kd.R (Kd.int .u8) 5 w' w.heap.size (fun _ => True) u7 x7_30) ∧ (w'.heap[gb661]? = some (.cells #[.slice (some ad673) l0_0.length c0_0, .slice A0_1 l0_1.length c0_1] 25 (0, 0))) ∧ (w'.heap[gb674]? = some (.cells #[.string ((rd_T27 l0_0 x4_2).f0), .int .i64 ((rd_T27 l0_0 x4_2).f1)] 27 (0, 0))) ∧ (w'.heap[s_]? = some (.cells #[.string (⟨#[]⟩ : ByteArray), .int .i64 0] 27 (0, 0))) ∧ (w.heap.size ≤ s_) ∧ (w.heap.size ≤ s_) ∧ (gb661 ≠ s_) ∧ (s_ ≠ gb661) ∧ (gb674 ≠ s_) ∧ (s_ ≠ gb674) ∧ (Below w.heap.size w w')) ?_ ?_
     rotate_left
     · intro hCont
       refine two_ (i := 6) (j := 10) (Ni := some 334) (Nj := some 28) #[true, true, true, true, true, true, true, false, false, false, false, false, false] #[true, true, true, true, true, true, false, false, false, false, true, false, false] rfl rfl rfl rfl (two_of HT_.out (by kernel_rfl)) (by decide) (by decide) (fun K hK => ?_) (fun K hK => ?_)
       · skip
         refine goes_ Try.func43 (by kernel_rfl) rfl #[.agg #[.string ((rd_T27 l0_0 x4_2).f0), .int .i64 ((rd_T27 l0_0 x4_2).f1)], .agg #[.string ((rd_T27 l0_0 x27_6).f0), .int .i64 ((rd_T27 l0_0 x27_6).f1)]] (by rfl) rfl rfl (by (try simp only [List.map_toArray, List.map_cons, List.map_nil]); first | done | rfl | (simp only [List.length_drop, List.length_take]; rfl)) ?_
         with_reducible refine (bits_Cat.calls ((rd_T27 l0_0 x4_2).f0) ((rd_T27 l0_0 x4_2).f1) ((rd_T27 l0_0 x27_6).f0) ((rd_T27 l0_0 x27_6).f1) t751 t752 t753 _ A228.out).mono ?_
         rintro e w231 ⟨rfl, hb⟩
         refine ⟨_, rfl, ?_⟩
         have n0_ := ak (Kd.R_below (ur <| HO_3.out) hb)
         have n1_ := ak (Kd.R_below (ur <| HO_7.out) hb)
         have n2_ := ak (blk_below (g := gb661) (o := .cells #[.slice (some ad673) l0_0.length c0_0, .slice A0_1 l0_1.length c0_1] 25 (0, 0)) (ub BK661.out) hb)
         have n3_ := ak (blk_below (g := gb674) (o := .cells #[.string ((rd_T27 l0_0 x4_2).f0), .int .i64 ((rd_T27 l0_0 x4_2).f1)] 27 (0, 0)) (ub BK674.out) hb)
         have n4_ := ak (below_step (by repeat with_reducible first | exact HB.out | apply b1 | apply b2 | apply b3 | refine b4 ?_ GE661.out | refine b4 ?_ GE674.out) hb)
         clear HO_3
         clear HO_7
         clear BK661
         clear BK674
         clear HB
         have HO_3 := n0_
         have HO_7 := n1_
         have BK661 := n2_
         have BK674 := n3_
         have HB := n4_
         clear n0_ n1_ n2_ n3_ n4_
         (try clear hb)
         (try clear hb2)
         (try clear hk)
         (try clear hi)
         refine hK.out _ _ ⟨(blk_cell BK674.out 0).trans rfl, (blk_cell BK674.out 1).trans rfl, (blk_cell BK661.out 0).trans rfl, (blk_cell BK661.out 1).trans rfl, ((HB.out.cell (World.block_lt_of_cell? w _ hw750_0)).trans hw750_0), ((HB.out.cell (World.block_lt_of_cell? w _ hw750_1)).trans hw750_1)⟩ (fun hHeld => ?_)
         clear hK K
         refine norm_ (a' := ?_) ?_ ?_
         rotate_left
         · show Act.put _ (some 334) _ = _
           simp only [Act.put, s1, s2, s3, i64_w, i32_w]
           rfl
         refine pure_ (i := 7) (N := some 327) (v := ?_) (a' := ?_) #[true, true, true, true, true, true, true, true, false, false, false, false, false] rfl rfl (any_of HT_.out (by kernel_rfl)) (fun _ _ _ h => h) (Or.inl ⟨by rfl, ?_⟩) ?_ ?_
         rotate_left
         · intro w'
           go_simp
           with_reducible rfl
         rotate_left
         · simp only [Act.put, s1, s2, s3, i64_w, i32_w]
           rfl
         refine pure_ (i := 8) (N := some 335) (v := ?_) (a' := ?_) #[true, true, true, true, true, true, true, true, true, false, false, false, false] rfl rfl (any_of HT_.out (by kernel_rfl)) (fun _ _ _ h => h) (Or.inl ⟨by rfl, ?_⟩) ?_ ?_
         rotate_left
         · intro w'
           go_simp
           with_reducible rfl
         rotate_left
         · simp only [Act.put, s1, s2, s3, i64_w, i32_w]
           rfl
         refine pure_ (i := 9) (N := some 336) (v := ?_) (a' := ?_) #[true, true, true, true, true, true, true, true, true, true, false, false, false] rfl rfl (any_of HT_.out (by kernel_rfl)) (fun _ _ _ h => h) (Or.inl ⟨by rfl, ?_⟩) ?_ ?_
         rotate_left
         · intro w'
           go_simp
           with_reducible rfl
         rotate_left
         · simp only [Act.put, s1, s2, s3, i64_w, i32_w]
           rfl
         refine one_ (i := 10) (N := some 28) #[true, true, true, true, true, true, true, true, true, true, true, false, false] rfl rfl (one_of HT_.out (by kernel_rfl)) (by decide) (fun K hK => ?_)
         refine box_step ?hg (N := 28) ?hd (cs := #[.string (⟨#[]⟩ : ByteArray), .int .i64 0]) (t := 27) ?hr ?_; (case hd => rfl); (case hg => rfl); (case hr => first | (go_simp; done) | (go_simp; rfl))
         intro gb754 hg w232 hbox hb
         have n0_ := ak (Kd.R_below (ur <| HO_3.out) hb)
         have n1_ := ak (Kd.R_below (ur <| HO_7.out) hb)
         have n2_ := ak (blk_below (g := gb661) (o := .cells #[.slice (some ad673) l0_0.length c0_0, .slice A0_1 l0_1.length c0_1] 25 (0, 0)) (ub BK661.out) hb)
         have n3_ := ak (blk_below (g := gb674) (o := .cells #[.string ((rd_T27 l0_0 x4_2).f0), .int .i64 ((rd_T27 l0_0 x4_2).f1)] 27 (0, 0)) (ub BK674.out) hb)
         have n4_ := ak (below_step (by repeat with_reducible first | exact HB.out | apply b1 | apply b2 | apply b3 | refine b4 ?_ GE661.out | refine b4 ?_ GE674.out) hb)
         have n5_ := ak (hbox)
         have n6_ := ak ((by rw [hg]; exact (below_size (by repeat with_reducible first | exact HB.out | apply b1 | apply b2 | apply b3 | refine b4 ?_ GE661.out | refine b4 ?_ GE674.out)) : w.heap.size ≤ gb754))
         have n7_ := ak ((by rw [hg]; exact (below_size (by repeat with_reducible first | exact HB.out | apply b1 | apply b2 | apply b3 | refine b4 ?_ GE661.out | refine b4 ?_ GE674.out)) : w.heap.size ≤ gb754))
         have n8_ := ak ((by rw [hg]; exact Nat.ne_of_lt (blk_lt (g := gb661) (o := .cells #[.slice (some ad673) l0_0.length c0_0, .slice A0_1 l0_1.length c0_1] 25 (0, 0)) (ub BK661.out)) : gb661 ≠ gb754))
         have n9_ := ak ((by rw [hg]; exact Nat.ne_of_gt (blk_lt (g := gb661) (o := .cells #[.slice (some ad673) l0_0.length c0_0, .slice A0_1 l0_1.length c0_1] 25 (0, 0)) (ub BK661.out)) : gb754 ≠ gb661))
         have n10_ := ak ((by rw [hg]; exact Nat.ne_of_lt (blk_lt (g := gb674) (o := .cells #[.string ((rd_T27 l0_0 x4_2).f0), .int .i64 ((rd_T27 l0_0 x4_2).f1)] 27 (0, 0)) (ub BK674.out)) : gb674 ≠ gb754))
         have n11_ := ak ((by rw [hg]; exact Nat.ne_of_gt (blk_lt (g := gb674) (o := .cells #[.string ((rd_T27 l0_0 x4_2).f0), .int .i64 ((rd_T27 l0_0 x4_2).f1)] 27 (0, 0)) (ub BK674.out)) : gb754 ≠ gb674))
         clear HO_3
         clear HO_7
         clear BK661
         clear BK674
         clear HB
         have HO_3 := n0_
         have HO_7 := n1_
         have BK661 := n2_
         have BK674 := n3_
         have HB := n4_
         have BK754 := n5_
         have GW754 := n6_
         have GE754 := n7_
         have NB661_754 := n8_
         have NB754_661 := n9_
         have NB674_754 := n10_
         have NB754_674 := n11_
         clear n0_ n1_ n2_ n3_ n4_ n5_ n6_ n7_ n8_ n9_ n10_ n11_
         clear hb hbox hg
         refine hK.out _ _ ⟨(blk_cell BK674.out 0).trans rfl, (blk_cell BK674.out 1).trans rfl, (blk_cell BK661.out 0).trans rfl, (blk_cell BK661.out 1).trans rfl, ((HB.out.cell (World.block_lt_of_cell? w _ hw750_0)).trans hw750_0), ((HB.out.cell (World.block_lt_of_cell? w _ hw750_1)).trans hw750_1)⟩ (fun hHeld => ?_)
         clear hK K
         refine norm_ (a' := ?_) ?_ ?_
         rotate_left
         · show Act.put _ (some 28) _ = _
           simp only [Act.put, s1, s2, s3, i64_w, i32_w]
           rfl
         exact norm_ (by simp only [putAll, Act.put, s1, s2, s3]) (hCont (gb754) _ ⟨hHeld, (ur <| HO_3.out), (ur <| HO_7.out), (ub BK661.out), (ub BK674.out), (ub BK754.out), GW754.out, GE754.out, NB661_754.out, NB754_661.out, NB674_754.out, NB754_674.out, (by repeat with_reducible first | exact HB.out | apply b1 | apply b2 | apply b3 | refine b4 ?_ GE661.out | refine b4 ?_ GE674.out | refine b4 ?_ GE754.out)⟩)
       · skip
         refine box_step ?hg (N := 28) ?hd (cs := #[.string (⟨#[]⟩ : ByteArray), .int .i64 0]) (t := 27) ?hr ?_; (case hd => rfl); (case hg => rfl); (case hr => first | (go_simp; done) | (go_simp; rfl))
         intro gb754 hg w231 hbox hb
         have n0_ := ak (Kd.R_below (ur <| HO_3.out) hb)
         have n1_ := ak (Kd.R_below (ur <| HO_7.out) hb)
         have n2_ := ak (blk_below (g := gb661) (o := .cells #[.slice (some ad673) l0_0.length c0_0, .slice A0_1 l0_1.length c0_1] 25 (0, 0)) (ub BK661.out) hb)
         have n3_ := ak (blk_below (g := gb674) (o := .cells #[.string ((rd_T27 l0_0 x4_2).f0), .int .i64 ((rd_T27 l0_0 x4_2).f1)] 27 (0, 0)) (ub BK674.out) hb)
         have n4_ := ak (below_step (by repeat with_reducible first | exact HB.out | apply b1 | apply b2 | apply b3 | refine b4 ?_ GE661.out | refine b4 ?_ GE674.out) hb)
         have n5_ := ak (hbox)
         have n6_ := ak ((by rw [hg]; exact (below_size (by repeat with_reducible first | exact HB.out | apply b1 | apply b2 | apply b3 | refine b4 ?_ GE661.out | refine b4 ?_ GE674.out)) : w.heap.size ≤ gb754))
         have n7_ := ak ((by rw [hg]; exact (below_size (by repeat with_reducible first | exact HB.out | apply b1 | apply b2 | apply b3 | refine b4 ?_ GE661.out | refine b4 ?_ GE674.out)) : w.heap.size ≤ gb754))
         have n8_ := ak ((by rw [hg]; exact Nat.ne_of_lt (blk_lt (g := gb661) (o := .cells #[.slice (some ad673) l0_0.length c0_0, .slice A0_1 l0_1.length c0_1] 25 (0, 0)) (ub BK661.out)) : gb661 ≠ gb754))
         have n9_ := ak ((by rw [hg]; exact Nat.ne_of_gt (blk_lt (g := gb661) (o := .cells #[.slice (some ad673) l0_0.length c0_0, .slice A0_1 l0_1.length c0_1] 25 (0, 0)) (ub BK661.out)) : gb754 ≠ gb661))
         have n10_ := ak ((by rw [hg]; exact Nat.ne_of_lt (blk_lt (g := gb674) (o := .cells #[.string ((rd_T27 l0_0 x4_2).f0), .int .i64 ((rd_T27 l0_0 x4_2).f1)] 27 (0, 0)) (ub BK674.out)) : gb674 ≠ gb754))
         have n11_ := ak ((by rw [hg]; exact Nat.ne_of_gt (blk_lt (g := gb674) (o := .cells #[.string ((rd_T27 l0_0 x4_2).f0), .int .i64 ((rd_T27 l0_0 x4_2).f1)] 27 (0, 0)) (ub BK674.out)) : gb754 ≠ gb674))
         clear HO_3
         clear HO_7
         clear BK661
         clear BK674
         clear HB
         have HO_3 := n0_
         have HO_7 := n1_
         have BK661 := n2_
         have BK674 := n3_
         have HB := n4_
         have BK754 := n5_
         have GW754 := n6_
         have GE754 := n7_
         have NB661_754 := n8_
         have NB754_661 := n9_
         have NB674_754 := n10_
         have NB754_674 := n11_
         clear n0_ n1_ n2_ n3_ n4_ n5_ n6_ n7_ n8_ n9_ n10_ n11_
         clear hb hbox hg
         refine hK.out _ _ ⟨(blk_cell BK674.out 0).trans rfl, (blk_cell BK674.out 1).trans rfl, (blk_cell BK661.out 0).trans rfl, (blk_cell BK661.out 1).trans rfl, ((HB.out.cell (World.block_lt_of_cell? w _ hw750_0)).trans hw750_0), ((HB.out.cell (World.block_lt_of_cell? w _ hw750_1)).trans hw750_1)⟩ (fun hHeld => ?_)
         clear hK K
         refine norm_ (a' := ?_) ?_ ?_
         rotate_left
         · show Act.put _ (some 28) _ = _
           simp only [Act.put, s1, s2, s3, i64_w, i32_w]
           rfl
         refine one_ (i := 6) (N := some 334) #[true, true, true, true, true, true, true, false, false, false, true, false, false] rfl rfl (one_of HT_.out (by kernel_rfl)) (by decide) (fun K hK => ?_)
         refine goes_ Try.func43 (by kernel_rfl) rfl #[.agg #[.string ((rd_T27 l0_0 x4_2).f0), .int .i64 ((rd_T27 l0_0 x4_2).f1)], .agg #[.string ((rd_T27 l0_0 x27_6).f0), .int .i64 ((rd_T27 l0_0 x27_6).f1)]] (by rfl) rfl rfl (by (try simp only [List.map_toArray, List.map_cons, List.map_nil]); first | done | rfl | (simp only [List.length_drop, List.length_take]; rfl)) ?_
         with_reducible refine (bits_Cat.calls ((rd_T27 l0_0 x4_2).f0) ((rd_T27 l0_0 x4_2).f1) ((rd_T27 l0_0 x27_6).f0) ((rd_T27 l0_0 x27_6).f1) t751 t752 t753 _ A228.out).mono ?_
         rintro e w232 ⟨rfl, hb⟩
         refine ⟨_, rfl, ?_⟩
         have n0_ := ak (Kd.R_below (ur <| HO_3.out) hb)
         have n1_ := ak (Kd.R_below (ur <| HO_7.out) hb)
         have n2_ := ak (blk_below (g := gb661) (o := .cells #[.slice (some ad673) l0_0.length c0_0, .slice A0_1 l0_1.length c0_1] 25 (0, 0)) (ub BK661.out) hb)
         have n3_ := ak (blk_below (g := gb674) (o := .cells #[.string ((rd_T27 l0_0 x4_2).f0), .int .i64 ((rd_T27 l0_0 x4_2).f1)] 27 (0, 0)) (ub BK674.out) hb)
         have n4_ := ak (blk_below (g := gb754) (o := .cells #[.string (⟨#[]⟩ : ByteArray), .int .i64 0] 27 (0, 0)) (ub BK754.out) hb)
         have n5_ := ak (below_step (by repeat with_reducible first | exact HB.out | apply b1 | apply b2 | apply b3 | refine b4 ?_ GE661.out | refine b4 ?_ GE674.out | refine b4 ?_ GE754.out) hb)
         clear HO_3
         clear HO_7
         clear BK661
         clear BK674
         clear BK754
         clear HB
         have HO_3 := n0_
         have HO_7 := n1_
         have BK661 := n2_
         have BK674 := n3_
         have BK754 := n4_
         have HB := n5_
         clear n0_ n1_ n2_ n3_ n4_ n5_
         (try clear hb)
         (try clear hb2)
         (try clear hk)
         (try clear hi)
         refine hK.out _ _ ⟨(blk_cell BK674.out 0).trans rfl, (blk_cell BK674.out 1).trans rfl, (blk_cell BK661.out 0).trans rfl, (blk_cell BK661.out 1).trans rfl, ((HB.out.cell (World.block_lt_of_cell? w _ hw750_0)).trans hw750_0), ((HB.out.cell (World.block_lt_of_cell? w _ hw750_1)).trans hw750_1)⟩ (fun hHeld => ?_)
         clear hK K
         refine norm_ (a' := ?_) ?_ ?_
         rotate_left
         · show Act.put _ (some 334) _ = _
           simp only [Act.put, s1, s2, s3, i64_w, i32_w]
           rfl
         refine pure_ (i := 7) (N := some 327) (v := ?_) (a' := ?_) #[true, true, true, true, true, true, true, true, false, false, true, false, false] rfl rfl (any_of HT_.out (by kernel_rfl)) (fun _ _ _ h => h) (Or.inl ⟨by rfl, ?_⟩) ?_ ?_
         rotate_left
         · intro w'
           go_simp
           with_reducible rfl
         rotate_left
         · simp only [Act.put, s1, s2, s3, i64_w, i32_w]
           rfl
         refine pure_ (i := 8) (N := some 335) (v := ?_) (a' := ?_) #[true, true, true, true, true, true, true, true, true, false, true, false, false] rfl rfl (any_of HT_.out (by kernel_rfl)) (fun _ _ _ h => h) (Or.inl ⟨by rfl, ?_⟩) ?_ ?_
         rotate_left
         · intro w'
           go_simp
           with_reducible rfl
         rotate_left
         · simp only [Act.put, s1, s2, s3, i64_w, i32_w]
           rfl
         refine pure_ (i := 9) (N := some 336) (v := ?_) (a' := ?_) #[true, true, true, true, true, true, true, true, true, true, true, false, false] rfl rfl (any_of HT_.out (by kernel_rfl)) (fun _ _ _ h => h) (Or.inl ⟨by rfl, ?_⟩) ?_ ?_
         rotate_left
         · intro w'
           go_simp
           with_reducible rfl
         rotate_left
         · simp only [Act.put, s1, s2, s3, i64_w, i32_w]
           rfl
         exact norm_ (by simp only [putAll, Act.put, s1, s2, s3]) (hCont (gb754) _ ⟨hHeld, (ur <| HO_3.out), (ur <| HO_7.out), (ub BK661.out), (ub BK674.out), (ub BK754.out), GW754.out, GE754.out, NB661_754.out, NB754_661.out, NB674_754.out, NB754_674.out, (by repeat with_reducible first | exact HB.out | apply b1 | apply b2 | apply b3 | refine b4 ?_ GE661.out | refine b4 ?_ GE674.out | refine b4 ?_ GE754.out)⟩)
     rintro gb754 w233 ⟨hS_, h0_, h1_, h2_, h3_, h4_, h5_, h6_, h7_, h8_, h9_, h10_, h11_⟩
     have n0_ : Aside0 (Kd.R (Kd.int .i64) 3 w233 w.heap.size (fun _ => True) (.slice Ao218 x3_7.length co218) x3_7) := ⟨h0_⟩
     have n1_ : Aside0 (Kd.R (Kd.int .u8) 5 w233 w.heap.size (fun _ => True) u7 x7_30) := ⟨h1_⟩
     have n2_ : Aside0 (w233.heap[gb661]? = some (.cells #[.slice (some ad673) l0_0.length c0_0, .slice A0_1 l0_1.length c0_1] 25 (0, 0))) := ⟨h2_⟩
     have n3_ : Aside0 (w233.heap[gb674]? = some (.cells #[.string ((rd_T27 l0_0 x4_2).f0), .int .i64 ((rd_T27 l0_0 x4_2).f1)] 27 (0, 0))) := ⟨h3_⟩
     have n4_ : Aside0 (w233.heap[gb754]? = some (.cells #[.string (⟨#[]⟩ : ByteArray), .int .i64 0] 27 (0, 0))) := ⟨h4_⟩
     have n5_ : Aside0 (w.heap.size ≤ gb754) := ⟨h5_⟩
     have n6_ : Aside0 (w.heap.size ≤ gb754) := ⟨h6_⟩
     have n7_ : Aside0 (gb661 ≠ gb754) := ⟨h7_⟩
     have n8_ : Aside0 (gb754 ≠ gb661) := ⟨h8_⟩
     have n9_ : Aside0 (gb674 ≠ gb754) := ⟨h9_⟩
     have n10_ : Aside0 (gb754 ≠ gb674) := ⟨h10_⟩
     have n11_ : Aside0 (Below w.heap.size w w233) := ⟨h11_⟩
     clear HO_3
     clear HO_7
     clear BK661
     clear BK674
     clear HB
     clear h0_ h1_ h2_ h3_ h4_ h5_ h6_ h7_ h8_ h9_ h10_ h11_
     have HO_3 := n0_
     have HO_7 := n1_
     have BK661 := n2_
     have BK674 := n3_
     have BK754 := n4_
     have GW754 := n5_
     have GE754 := n6_
     have NB661_754 := n7_
     have NB754_661 := n8_
     have NB674_754 := n9_
     have NB754_674 := n10_
     have HB := n11_
     clear n0_ n1_ n2_ n3_ n4_ n5_ n6_ n7_ n8_ n9_ n10_ n11_
     have hHeld : w233.cell? ⟨gb674, 0, none⟩ = some (.string ((rd_T27 l0_0 x4_2).f0)) ∧ w233.cell? ⟨gb674, 1, none⟩ = some (.int .i64 ((rd_T27 l0_0 x4_2).f1)) ∧ w233.cell? ⟨gb661, 0, none⟩ = some (.slice (some ad673) l0_0.length c0_0) ∧ w233.cell? ⟨gb661, 1, none⟩ = some (.slice A0_1 l0_1.length c0_1) ∧ w233.cell? (ad673.add ((x27_6).toNat * 2)) = some (.string ((rd_T27 l0_0 x27_6).f0)) ∧ w233.cell? ⟨(ad673.add ((x27_6).toNat * 2)).block, (ad673.add ((x27_6).toNat * 2)).off + 1, none⟩ = some (.int .i64 ((rd_T27 l0_0 x27_6).f1)) := hS_
     refine norm_ (a' := ?_) ?_ ?_
     rotate_left
     · simp only [putAll, Act.put, s1, s2, s3]
       rfl
     refine one_ (i := 11) (N := none) #[true, true, true, true, true, true, true, true, true, true, true, true, false] rfl rfl (one_of HT_.out (by kernel_rfl)) (by decide) (fun K hK => ?_)
     have hs234 : w233.cell? ⟨gb754, 0, none⟩ = some (.string (⟨#[]⟩ : ByteArray)) := (blk_cell BK754.out 0).trans rfl
     have hfs234 := blk_frozen BK754.out 0
     have hns234_0 := NB661_754.out
     have hns234_1 := NB674_754.out
     have hms234_0 := NB754_661.out
     have hms234_1 := NB754_674.out
     have hs235 : w233.cell? ⟨gb754, 1, none⟩ = some (.int .i64 0) := (blk_cell BK754.out 1).trans rfl
     have hfs235 := blk_frozen BK754.out 1
     have hns235_0 := NB661_754.out
     have hns235_1 := NB674_754.out
     have hms235_0 := NB754_661.out
     have hms235_1 := NB754_674.out
     refine skip_ (w1 := ?_) (by rfl) rfl ?_ ?_
     rotate_left
     · go_simp
       rfl
     refine hK.out _ _ ⟨((cell_far (p := ⟨gb754, _, none⟩) NB674_754.out _).trans (((cell_far (p := ⟨gb754, _, none⟩) NB674_754.out _).trans (hHeld.1)))), ((cell_far (p := ⟨gb754, _, none⟩) NB674_754.out _).trans (((cell_far (p := ⟨gb754, _, none⟩) NB674_754.out _).trans (hHeld.2.1)))), ((cell_far (p := ⟨gb754, _, none⟩) NB661_754.out _).trans (((cell_far (p := ⟨gb754, _, none⟩) NB661_754.out _).trans (hHeld.2.2.1)))), ((cell_far (p := ⟨gb754, _, none⟩) NB661_754.out _).trans (((cell_far (p := ⟨gb754, _, none⟩) NB661_754.out _).trans (hHeld.2.2.2.1)))), ((cell_far (p := ⟨gb754, _, none⟩) (by first | exact Nat.ne_of_lt (Nat.lt_of_lt_of_le (by have := World.block_lt_of_cell? _ _ hw750_0; first | rwa [add_block] at this | exact this) GW754.out) | (rw [add_block]; exact Nat.ne_of_lt (Nat.lt_of_lt_of_le (by have := World.block_lt_of_cell? _ _ hw750_0; first | rwa [add_block] at this | exact this) GW754.out)) | (show (Addr.add _ _).block ≠ _; rw [add_block]; exact Nat.ne_of_lt (Nat.lt_of_lt_of_le (by have := World.block_lt_of_cell? _ _ hw750_0; first | rwa [add_block] at this | exact this) GW754.out)) | (dsimp only; exact Nat.ne_of_lt (Nat.lt_of_lt_of_le (by have := World.block_lt_of_cell? _ _ hw750_0; first | rwa [add_block] at this | exact this) GW754.out))) _).trans (((cell_far (p := ⟨gb754, _, none⟩) (by first | exact Nat.ne_of_lt (Nat.lt_of_lt_of_le (by have := World.block_lt_of_cell? _ _ hw750_0; first | rwa [add_block] at this | exact this) GW754.out) | (rw [add_block]; exact Nat.ne_of_lt (Nat.lt_of_lt_of_le (by have := World.block_lt_of_cell? _ _ hw750_0; first | rwa [add_block] at this | exact this) GW754.out)) | (show (Addr.add _ _).block ≠ _; rw [add_block]; exact Nat.ne_of_lt (Nat.lt_of_lt_of_le (by have := World.block_lt_of_cell? _ _ hw750_0; first | rwa [add_block] at this | exact this) GW754.out)) | (dsimp only; exact Nat.ne_of_lt (Nat.lt_of_lt_of_le (by have := World.block_lt_of_cell? _ _ hw750_0; first | rwa [add_block] at this | exact this) GW754.out))) _).trans (hHeld.2.2.2.2.1)))), ((cell_far (p := ⟨gb754, _, none⟩) (by first | exact Nat.ne_of_lt (Nat.lt_of_lt_of_le (by have := World.block_lt_of_cell? _ _ hw750_1; first | rwa [add_block] at this | exact this) GW754.out) | (rw [add_block]; exact Nat.ne_of_lt (Nat.lt_of_lt_of_le (by have := World.block_lt_of_cell? _ _ hw750_1; first | rwa [add_block] at this | exact this) GW754.out)) | (show (Addr.add _ _).block ≠ _; rw [add_block]; exact Nat.ne_of_lt (Nat.lt_of_lt_of_le (by have := World.block_lt_of_cell? _ _ hw750_1; first | rwa [add_block] at this | exact this) GW754.out)) | (dsimp only; exact Nat.ne_of_lt (Nat.lt_of_lt_of_le (by have := World.block_lt_of_cell? _ _ hw750_1; first | rwa [add_block] at this | exact this) GW754.out))) _).trans (((cell_far (p := ⟨gb754, _, none⟩) (by first | exact Nat.ne_of_lt (Nat.lt_of_lt_of_le (by have := World.block_lt_of_cell? _ _ hw750_1; first | rwa [add_block] at this | exact this) GW754.out) | (rw [add_block]; exact Nat.ne_of_lt (Nat.lt_of_lt_of_le (by have := World.block_lt_of_cell? _ _ hw750_1; first | rwa [add_block] at this | exact this) GW754.out)) | (show (Addr.add _ _).block ≠ _; rw [add_block]; exact Nat.ne_of_lt (Nat.lt_of_lt_of_le (by have := World.block_lt_of_cell? _ _ hw750_1; first | rwa [add_block] at this | exact this) GW754.out)) | (dsimp only; exact Nat.ne_of_lt (Nat.lt_of_lt_of_le (by have := World.block_lt_of_cell? _ _ hw750_1; first | rwa [add_block] at this | exact this) GW754.out))) _).trans (hHeld.2.2.2.2.2))))⟩ (fun hHeld => ?_)
     clear hK K
     refine pure_ (i := 12) (N := some 29) (v := ?_) (a' := ?_) #[true, true, true, true, true, true, true, true, true, true, true, true, true] rfl rfl (any_of HT_.out (by kernel_rfl)) (fun _ _ _ h => h) (Or.inl ⟨by rfl, ?_⟩) ?_ ?_
     rotate_left
     · intro w'
       go_simp
       with_reducible rfl
     rotate_left
     · simp only [Act.put, s1, s2, s3, i64_w, i32_w]
       rfl
     refine done_ (done_of HT_.out (by kernel_rfl)) ?_
     go_upto_region 56 with (first | ((with_reducible refine gate_dst (N := 31) rfl ?_); refine box_event ?hg (N := 31) ?hd (cs := #[.string (⟨#[]⟩ : ByteArray), .int .i64 0]) (t := 27) ?hr ?_; (case hd => rfl); (case hg => rfl); (case hr => first | (go_simp; done) | (go_simp; rfl)); intro gb755 hg w236 hbox hb; have n0_ := ak (Kd.R_below (ur <| (Kd.R_mono (Kd.R_far (p := ⟨gb754, 1, none⟩) (Kd.R_far (p := ⟨gb754, 0, none⟩) (Kd.R_types HO_3.out BK754.out (by decide)) (fun _ hk => hk.2) (.string t751)) (fun _ hk => hk.2) (.int .i64 t752)) (fun _ h_ => h_.1))) hb); have n1_ := ak (Kd.R_below (ur <| (Kd.R_mono (Kd.R_far (p := ⟨gb754, 1, none⟩) (Kd.R_far (p := ⟨gb754, 0, none⟩) (Kd.R_types HO_7.out BK754.out (by decide)) (fun _ hk => hk.2) (.string t751)) (fun _ hk => hk.2) (.int .i64 t752)) (fun _ h_ => h_.1))) hb); have n2_ := ak (blk_below (g := gb661) (o := .cells #[.slice (some ad673) l0_0.length c0_0, .slice A0_1 l0_1.length c0_1] 25 (0, 0)) (by (with_reducible repeat (first | refine blk_drewN ?_ _ | refine blk_drew ?_ | refine blk_alloc ?_ _)); refine blk_far ?_ NB661_754.out _; (with_reducible repeat (first | refine blk_drewN ?_ _ | refine blk_drew ?_ | refine blk_alloc ?_ _)); refine blk_far ?_ NB661_754.out _; (with_reducible repeat (first | refine blk_drewN ?_ _ | refine blk_drew ?_ | refine blk_alloc ?_ _)); exact BK661.out) hb); have n3_ := ak (blk_below (g := gb674) (o := .cells #[.string ((rd_T27 l0_0 x4_2).f0), .int .i64 ((rd_T27 l0_0 x4_2).f1)] 27 (0, 0)) (by (with_reducible repeat (first | refine blk_drewN ?_ _ | refine blk_drew ?_ | refine blk_alloc ?_ _)); refine blk_far ?_ NB674_754.out _; (with_reducible repeat (first | refine blk_drewN ?_ _ | refine blk_drew ?_ | refine blk_alloc ?_ _)); refine blk_far ?_ NB674_754.out _; (with_reducible repeat (first | refine blk_drewN ?_ _ | refine blk_drew ?_ | refine blk_alloc ?_ _)); exact BK674.out) hb); have n4_ := ak (blk_below (g := gb754) (o := .cells #[.string t751, .int .i64 t752] 27 (0, 0)) (by (with_reducible repeat (first | refine blk_drewN ?_ _ | refine blk_drew ?_ | refine blk_alloc ?_ _)); refine blk_put (cs := #[.string t751, .int .i64 0]) ?_ 1 _ rfl; (with_reducible repeat (first | refine blk_drewN ?_ _ | refine blk_drew ?_ | refine blk_alloc ?_ _)); refine blk_put (cs := #[.string (⟨#[]⟩ : ByteArray), .int .i64 0]) ?_ 0 _ rfl; (with_reducible repeat (first | refine blk_drewN ?_ _ | refine blk_drew ?_ | refine blk_alloc ?_ _)); exact BK754.out) hb); have n5_ := ak (below_step (by repeat with_reducible first | exact HB.out | apply b1 | apply b2 | apply b3 | refine b4 ?_ GE661.out | refine b4 ?_ GE674.out | refine b4 ?_ GE754.out) hb); have n6_ := ak (hbox); have n7_ := ak ((by rw [hg]; exact (below_size (by repeat with_reducible first | exact HB.out | apply b1 | apply b2 | apply b3 | refine b4 ?_ GE661.out | refine b4 ?_ GE674.out | refine b4 ?_ GE754.out)) : w.heap.size ≤ gb755)); have n8_ := ak ((by rw [hg]; exact (below_size (by repeat with_reducible first | exact HB.out | apply b1 | apply b2 | apply b3 | refine b4 ?_ GE661.out | refine b4 ?_ GE674.out | refine b4 ?_ GE754.out)) : w.heap.size ≤ gb755)); have n9_ := ak ((by rw [hg]; exact Nat.ne_of_lt (blk_lt (g := gb661) (o := .cells #[.slice (some ad673) l0_0.length c0_0, .slice A0_1 l0_1.length c0_1] 25 (0, 0)) (by (with_reducible repeat (first | refine blk_drewN ?_ _ | refine blk_drew ?_ | refine blk_alloc ?_ _)); refine blk_far ?_ NB661_754.out _; (with_reducible repeat (first | refine blk_drewN ?_ _ | refine blk_drew ?_ | refine blk_alloc ?_ _)); refine blk_far ?_ NB661_754.out _; (with_reducible repeat (first | refine blk_drewN ?_ _ | refine blk_drew ?_ | refine blk_alloc ?_ _)); exact BK661.out)) : gb661 ≠ gb755)); have n10_ := ak ((by rw [hg]; exact Nat.ne_of_gt (blk_lt (g := gb661) (o := .cells #[.slice (some ad673) l0_0.length c0_0, .slice A0_1 l0_1.length c0_1] 25 (0, 0)) (by (with_reducible repeat (first | refine blk_drewN ?_ _ | refine blk_drew ?_ | refine blk_alloc ?_ _)); refine blk_far ?_ NB661_754.out _; (with_reducible repeat (first | refine blk_drewN ?_ _ | refine blk_drew ?_ | refine blk_alloc ?_ _)); refine blk_far ?_ NB661_754.out _; (with_reducible repeat (first | refine blk_drewN ?_ _ | refine blk_drew ?_ | refine blk_alloc ?_ _)); exact BK661.out)) : gb755 ≠ gb661)); have n11_ := ak ((by rw [hg]; exact Nat.ne_of_lt (blk_lt (g := gb674) (o := .cells #[.string ((rd_T27 l0_0 x4_2).f0), .int .i64 ((rd_T27 l0_0 x4_2).f1)] 27 (0, 0)) (by (with_reducible repeat (first | refine blk_drewN ?_ _ | refine blk_drew ?_ | refine blk_alloc ?_ _)); refine blk_far ?_ NB674_754.out _; (with_reducible repeat (first | refine blk_drewN ?_ _ | refine blk_drew ?_ | refine blk_alloc ?_ _)); refine blk_far ?_ NB674_754.out _; (with_reducible repeat (first | refine blk_drewN ?_ _ | refine blk_drew ?_ | refine blk_alloc ?_ _)); exact BK674.out)) : gb674 ≠ gb755)); have n12_ := ak ((by rw [hg]; exact Nat.ne_of_gt (blk_lt (g := gb674) (o := .cells #[.string ((rd_T27 l0_0 x4_2).f0), .int .i64 ((rd_T27 l0_0 x4_2).f1)] 27 (0, 0)) (by (with_reducible repeat (first | refine blk_drewN ?_ _ | refine blk_drew ?_ | refine blk_alloc ?_ _)); refine blk_far ?_ NB674_754.out _; (with_reducible repeat (first | refine blk_drewN ?_ _ | refine blk_drew ?_ | refine blk_alloc ?_ _)); refine blk_far ?_ NB674_754.out _; (with_reducible repeat (first | refine blk_drewN ?_ _ | refine blk_drew ?_ | refine blk_alloc ?_ _)); exact BK674.out)) : gb755 ≠ gb674)); have n13_ := ak ((by rw [hg]; exact Nat.ne_of_lt (blk_lt (g := gb754) (o := .cells #[.string t751, .int .i64 t752] 27 (0, 0)) (by (with_reducible repeat (first | refine blk_drewN ?_ _ | refine blk_drew ?_ | refine blk_alloc ?_ _)); refine blk_put (cs := #[.string t751, .int .i64 0]) ?_ 1 _ rfl; (with_reducible repeat (first | refine blk_drewN ?_ _ | refine blk_drew ?_ | refine blk_alloc ?_ _)); refine blk_put (cs := #[.string (⟨#[]⟩ : ByteArray), .int .i64 0]) ?_ 0 _ rfl; (with_reducible repeat (first | refine blk_drewN ?_ _ | refine blk_drew ?_ | refine blk_alloc ?_ _)); exact BK754.out)) : gb754 ≠ gb755)); have n14_ := ak ((by rw [hg]; exact Nat.ne_of_gt (blk_lt (g := gb754) (o := .cells #[.string t751, .int .i64 t752] 27 (0, 0)) (by (with_reducible repeat (first | refine blk_drewN ?_ _ | refine blk_drew ?_ | refine blk_alloc ?_ _)); refine blk_put (cs := #[.string t751, .int .i64 0]) ?_ 1 _ rfl; (with_reducible repeat (first | refine blk_drewN ?_ _ | refine blk_drew ?_ | refine blk_alloc ?_ _)); refine blk_put (cs := #[.string (⟨#[]⟩ : ByteArray), .int .i64 0]) ?_ 0 _ rfl; (with_reducible repeat (first | refine blk_drewN ?_ _ | refine blk_drew ?_ | refine blk_alloc ?_ _)); exact BK754.out)) : gb755 ≠ gb754)); clear HO_3; clear HO_7; clear BK661; clear BK674; clear BK754; clear HB; have HO_3 := n0_; have HO_7 := n1_; have BK661 := n2_; have BK674 := n3_; have BK754 := n4_; have HB := n5_; have BK755 := n6_; have GW755 := n7_; have GE755 := n8_; have NB661_755 := n9_; have NB755_661 := n10_; have NB674_755 := n11_; have NB755_674 := n12_; have NB754_755 := n13_; have NB755_754 := n14_; clear n0_ n1_ n2_ n3_ n4_ n5_ n6_ n7_ n8_ n9_ n10_ n11_ n12_ n13_ n14_; clear hb hbox hg; have hnb237 := NB755_661.out; have hnc237 := NB661_755.out; have hnb238 := NB755_674.out; have hnc238 := NB674_755.out; have hnb239 := NB755_754.out; have hnc239 := NB754_755.out; have hcz240_0 : w236.cell? ⟨gb755, 0, none⟩ = some (.string (⟨#[]⟩ : ByteArray)) := (blk_cell BK755.out 0).trans rfl; have hcz240_1 : w236.cell? ⟨gb755, 1, none⟩ = some (.int .i64 0) := (blk_cell BK755.out 1).trans rfl; have hfz240_0 := blk_frozen BK755.out 0; have hfz240_1 := blk_frozen BK755.out 1))
     (try simp only [Act.put, s1, s2, s3])
     go_cut [346] from 9999 to 0 (fun v346 wc => ∃ (kq : Nat) (x346_228 : Bool), v346 = .bool x346_228 ∧ Aside0 (herbariumlaw1_BitsExact.j18 kq x3_7 x4_2 t675 x7_30 x27_6 t753 1 x346_228 l0_0 l0_1 ((rd_T27 l0_0 x4_2).f0) ((rd_T27 l0_0 x4_2).f1) t751 t752 (⟨#[]⟩ : ByteArray) 0 = some true) ∧ Aside0 (kq ≤ kj218) ∧ Aside0 (Kd.R (Kd.int .i64) 3 wc w.heap.size (fun _ => True) (.slice Ao218 x3_7.length co218) x3_7) ∧ Aside0 (Kd.R (Kd.int .u8) 5 wc w.heap.size (fun _ => True) u7 x7_30) ∧ Aside0 (wc.heap[gb661]? = some (.cells #[(.slice (some ad673) l0_0.length c0_0), (.slice A0_1 l0_1.length c0_1)] 25 (0, 0))) ∧ Aside0 (wc.heap[gb674]? = some (.cells #[.string ((rd_T27 l0_0 x4_2).f0), .int .i64 ((rd_T27 l0_0 x4_2).f1)] 27 (0, 0))) ∧ Aside0 (wc.heap[gb754]? = some (.cells #[.string t751, .int .i64 t752] 27 (0, 0))) ∧ Aside0 (wc.heap[gb755]? = some (.cells #[.string (⟨#[]⟩ : ByteArray), .int .i64 0] 27 (0, 0))) ∧ Aside0 (Below w.heap.size w wc))
     case first =>
       have H := HC229.out
       clear HC229
       by_cases c241 : t675 = true
       rotate_left
       · replace c241 := Bool.eq_false_iff.mpr c241
         subst c241
         have H1 : (herbariumlaw1_BitsExact.j18 kj218 x3_7 x4_2 false x7_30 x27_6 t753 1 false l0_0 l0_1 ((rd_T27 l0_0 x4_2).f0) ((rd_T27 l0_0 x4_2).f1) t751 t752 (⟨#[]⟩ : ByteArray) 0) = some true := by rw [if_neg (show ¬ (false = true) by decide)] at H; exact H
         clear H
         have H := H1
         clear H1
         have H' := ak H
         clear H
         go_wp2
         go_meet
         case rel => exact ⟨_, (false), (by first | rfl | (simp; done) | (simp [*]; done)), H', ⟨by have := HJ7.out; have := HK2.out; have := HJ19.out; have := HJ30.out; have := HK5.out; have := HK6.out; have := HJ218.out; first | omega | exact Nat.le_refl _⟩, ⟨ur <| Kd.R_mono (Kd.R_far (p := ⟨gb755, 1, none⟩) (Kd.R_far (p := ⟨gb755, 0, none⟩) (Kd.R_types HO_3.out BK755.out (by decide)) (fun _ hk => hk.2) (.string (⟨#[]⟩ : ByteArray))) (fun _ hk => hk.2) (.int .i64 0)) (fun _ hk => trivial)⟩, ⟨ur <| Kd.R_mono (Kd.R_far (p := ⟨gb755, 1, none⟩) (Kd.R_far (p := ⟨gb755, 0, none⟩) (Kd.R_types HO_7.out BK755.out (by decide)) (fun _ hk => hk.2) (.string (⟨#[]⟩ : ByteArray))) (fun _ hk => hk.2) (.int .i64 0)) (fun _ hk => trivial)⟩, ⟨by (with_reducible repeat (first | refine blk_drewN ?_ _ | refine blk_drew ?_ | refine blk_alloc ?_ _)); refine blk_far ?_ NB661_755.out _; (with_reducible repeat (first | refine blk_drewN ?_ _ | refine blk_drew ?_ | refine blk_alloc ?_ _)); refine blk_far ?_ NB661_755.out _; (with_reducible repeat (first | refine blk_drewN ?_ _ | refine blk_drew ?_ | refine blk_alloc ?_ _)); exact BK661.out⟩, ⟨by (with_reducible repeat (first | refine blk_drewN ?_ _ | refine blk_drew ?_ | refine blk_alloc ?_ _)); refine blk_far ?_ NB674_755.out _; (with_reducible repeat (first | refine blk_drewN ?_ _ | refine blk_drew ?_ | refine blk_alloc ?_ _)); refine blk_far ?_ NB674_755.out _; (with_reducible repeat (first | refine blk_drewN ?_ _ | refine blk_drew ?_ | refine blk_alloc ?_ _)); exact BK674.out⟩, ⟨by (with_reducible repeat (first | refine blk_drewN ?_ _ | refine blk_drew ?_ | refine blk_alloc ?_ _)); refine blk_far ?_ NB754_755.out _; (with_reducible repeat (first | refine blk_drewN ?_ _ | refine blk_drew ?_ | refine blk_alloc ?_ _)); refine blk_far ?_ NB754_755.out _; (with_reducible repeat (first | refine blk_drewN ?_ _ | refine blk_drew ?_ | refine blk_alloc ?_ _)); exact BK754.out⟩, ⟨by (with_reducible repeat (first | refine blk_drewN ?_ _ | refine blk_drew ?_ | refine blk_alloc ?_ _)); refine blk_put (cs := #[.string (⟨#[]⟩ : ByteArray), .int .i64 0]) ?_ 1 _ rfl; (with_reducible repeat (first | refine blk_drewN ?_ _ | refine blk_drew ?_ | refine blk_alloc ?_ _)); refine blk_put (cs := #[.string (⟨#[]⟩ : ByteArray), .int .i64 0]) ?_ 0 _ rfl; (with_reducible repeat (first | refine blk_drewN ?_ _ | refine blk_drew ?_ | refine blk_alloc ?_ _)); exact BK755.out⟩, ⟨by repeat with_reducible first | exact HB.out | apply b1 | apply b2 | apply b3 | refine b4 ?_ GE661.out | refine b4 ?_ GE674.out | refine b4 ?_ GE754.out | refine b4 ?_ GE755.out⟩⟩
       subst c241
       have H1 : ((herbariumref1_Bits.f kj218 ((rd_T27 l0_0 x27_6).f0) ((rd_T27 l0_0 x27_6).f1)).bind fun t757 => (herbariumlaw1_BitsExact.j18 kj218 x3_7 x4_2 true x7_30 x27_6 t753 1 t757 l0_0 l0_1 ((rd_T27 l0_0 x4_2).f0) ((rd_T27 l0_0 x4_2).f1) t751 t752 (⟨#[]⟩ : ByteArray) 0)) = some true := by rw [if_pos rfl] at H; exact H
       clear H
       have H := H1
       clear H1
       replace H := Option.bind_eq_some_iff.mp H
       obtain ⟨t757, A2420, H⟩ := H
       try dsimp only at H
       have A242 := ak A2420
       clear A2420
       have H' := ak H
       clear H
       have hnb243 := NB661_674.out
       have hnc243 := NB674_661.out
       have hnb244 := NB661_754.out
       have hnc244 := NB754_661.out
       have hnb245 := NB661_755.out
       have hnc245 := NB755_661.out
       have hcz246_0 : w236.cell? ⟨gb661, 0, none⟩ = some (.slice (some ad673) l0_0.length c0_0) := (blk_cell BK661.out 0).trans rfl
       have hcz246_1 : w236.cell? ⟨gb661, 1, none⟩ = some (.slice A0_1 l0_1.length c0_1) := (blk_cell BK661.out 1).trans rfl
       have hfz246_0 := blk_frozen BK661.out 0
       have hfz246_1 := blk_frozen BK661.out 1
       have p756 : 0 ≤ (x27_6 : Int) := of_decide_eq_true (by first | (with_reducible assumption) | assumption)
       have q756 : x27_6 < (l0_0.length : Int) := of_decide_eq_true (by first | (with_reducible assumption) | assumption)
       obtain ⟨ad756, e756, hx756_0, hx756_1⟩ := at_T27 HR0_0.out x27_6 p756 q756
       obtain rfl : ad673 = ad756 := (by injection e756)
       have hn756_0 : ad673.block ≠ gb755 := Nat.ne_of_lt (Nat.lt_of_lt_of_le (by have := World.block_lt_of_cell? _ _ hx756_0; first | rwa [add_block] at this | exact this) GW755.out)
       have hn756_1 : ad673.block ≠ gb755 := Nat.ne_of_lt (Nat.lt_of_lt_of_le (by have := World.block_lt_of_cell? _ _ hx756_0; first | rwa [add_block] at this | exact this) GW755.out)
       replace hx756_0 := (HB.out.cell (World.block_lt_of_cell? w _ hx756_0)).trans hx756_0
       replace hx756_1 := (HB.out.cell (World.block_lt_of_cell? w _ hx756_1)).trans hx756_1
       replace hx756_0 := (cell_far (p := ⟨gb755, 0, none⟩) (by first | (rw [add_block]; exact hn756_0) | (show (Addr.add _ _).block ≠ _; rw [add_block]; exact hn756_0) | exact hn756_0) (.string (⟨#[]⟩ : ByteArray))).trans hx756_0
       replace hx756_1 := (cell_far (p := ⟨gb755, 0, none⟩) (by first | (rw [add_block]; exact hn756_0) | (show (Addr.add _ _).block ≠ _; rw [add_block]; exact hn756_0) | exact hn756_0) (.string (⟨#[]⟩ : ByteArray))).trans hx756_1
       replace hx756_0 := (cell_far (p := ⟨gb755, 1, none⟩) (by first | (rw [add_block]; exact hn756_1) | (show (Addr.add _ _).block ≠ _; rw [add_block]; exact hn756_1) | exact hn756_1) (.int .i64 0)).trans hx756_0
       replace hx756_1 := (cell_far (p := ⟨gb755, 1, none⟩) (by first | (rw [add_block]; exact hn756_1) | (show (Addr.add _ _).block ≠ _; rw [add_block]; exact hn756_1) | exact hn756_1) (.int .i64 0)).trans hx756_1
       clear hn756_0
       clear hn756_1
       replace p756 := eq_true p756
       replace q756 := eq_true q756
       go_wp2_with (first | (go_at_call 50; (with_reducible refine (herbariumref1_Bits.calls kj218 ((rd_T27 l0_0 x27_6).f0) ((rd_T27 l0_0 x27_6).f1) t757 _ A242.out).mono ?_); rintro e w247 ⟨rfl, hb⟩; have n0_ := ak (Kd.R_below (ur <| (Kd.R_mono (Kd.R_far (p := ⟨gb755, 1, none⟩) (Kd.R_far (p := ⟨gb755, 0, none⟩) (Kd.R_types HO_3.out BK755.out (by decide)) (fun _ hk => hk.2) (.string (⟨#[]⟩ : ByteArray))) (fun _ hk => hk.2) (.int .i64 0)) (fun _ h_ => h_.1))) hb); have n1_ := ak (Kd.R_below (ur <| (Kd.R_mono (Kd.R_far (p := ⟨gb755, 1, none⟩) (Kd.R_far (p := ⟨gb755, 0, none⟩) (Kd.R_types HO_7.out BK755.out (by decide)) (fun _ hk => hk.2) (.string (⟨#[]⟩ : ByteArray))) (fun _ hk => hk.2) (.int .i64 0)) (fun _ h_ => h_.1))) hb); have n2_ := ak (blk_below (g := gb661) (o := .cells #[.slice (some ad673) l0_0.length c0_0, .slice A0_1 l0_1.length c0_1] 25 (0, 0)) (by (with_reducible repeat (first | refine blk_drewN ?_ _ | refine blk_drew ?_ | refine blk_alloc ?_ _)); refine blk_far ?_ NB661_755.out _; (with_reducible repeat (first | refine blk_drewN ?_ _ | refine blk_drew ?_ | refine blk_alloc ?_ _)); refine blk_far ?_ NB661_755.out _; (with_reducible repeat (first | refine blk_drewN ?_ _ | refine blk_drew ?_ | refine blk_alloc ?_ _)); exact BK661.out) hb); have n3_ := ak (blk_below (g := gb674) (o := .cells #[.string ((rd_T27 l0_0 x4_2).f0), .int .i64 ((rd_T27 l0_0 x4_2).f1)] 27 (0, 0)) (by (with_reducible repeat (first | refine blk_drewN ?_ _ | refine blk_drew ?_ | refine blk_alloc ?_ _)); refine blk_far ?_ NB674_755.out _; (with_reducible repeat (first | refine blk_drewN ?_ _ | refine blk_drew ?_ | refine blk_alloc ?_ _)); refine blk_far ?_ NB674_755.out _; (with_reducible repeat (first | refine blk_drewN ?_ _ | refine blk_drew ?_ | refine blk_alloc ?_ _)); exact BK674.out) hb); have n4_ := ak (blk_below (g := gb754) (o := .cells #[.string t751, .int .i64 t752] 27 (0, 0)) (by (with_reducible repeat (first | refine blk_drewN ?_ _ | refine blk_drew ?_ | refine blk_alloc ?_ _)); refine blk_far ?_ NB754_755.out _; (with_reducible repeat (first | refine blk_drewN ?_ _ | refine blk_drew ?_ | refine blk_alloc ?_ _)); refine blk_far ?_ NB754_755.out _; (with_reducible repeat (first | refine blk_drewN ?_ _ | refine blk_drew ?_ | refine blk_alloc ?_ _)); exact BK754.out) hb); have n5_ := ak (blk_below (g := gb755) (o := .cells #[.string (⟨#[]⟩ : ByteArray), .int .i64 0] 27 (0, 0)) (by (with_reducible repeat (first | refine blk_drewN ?_ _ | refine blk_drew ?_ | refine blk_alloc ?_ _)); refine blk_put (cs := #[.string (⟨#[]⟩ : ByteArray), .int .i64 0]) ?_ 1 _ rfl; (with_reducible repeat (first | refine blk_drewN ?_ _ | refine blk_drew ?_ | refine blk_alloc ?_ _)); refine blk_put (cs := #[.string (⟨#[]⟩ : ByteArray), .int .i64 0]) ?_ 0 _ rfl; (with_reducible repeat (first | refine blk_drewN ?_ _ | refine blk_drew ?_ | refine blk_alloc ?_ _)); exact BK755.out) hb); have n6_ := ak (below_step (by repeat with_reducible first | exact HB.out | apply b1 | apply b2 | apply b3 | refine b4 ?_ GE661.out | refine b4 ?_ GE674.out | refine b4 ?_ GE754.out | refine b4 ?_ GE755.out) hb); clear HO_3; clear HO_7; clear BK661; clear BK674; clear BK754; clear BK755; clear HB; have HO_3 := n0_; have HO_7 := n1_; have BK661 := n2_; have BK674 := n3_; have BK754 := n4_; have BK755 := n5_; have HB := n6_; clear n0_ n1_ n2_ n3_ n4_ n5_ n6_; (try clear hb); (try clear hb2); (try clear hk); (try clear hi)))
       go_meet
       case rel => exact ⟨_, (t757), (by first | rfl | (simp; done) | (simp [*]; done)), H', ⟨by have := HJ7.out; have := HK2.out; have := HJ19.out; have := HJ30.out; have := HK5.out; have := HK6.out; have := HJ218.out; first | omega | exact Nat.le_refl _⟩, ⟨ur <| HO_3.out⟩, ⟨ur <| HO_7.out⟩, ⟨ub BK661.out⟩, ⟨ub BK674.out⟩, ⟨ub BK754.out⟩, ⟨ub BK755.out⟩, ⟨by repeat with_reducible first | exact HB.out | apply b1 | apply b2 | apply b3 | refine b4 ?_ GE661.out | refine b4 ?_ GE674.out | refine b4 ?_ GE754.out | refine b4 ?_ GE755.out⟩⟩
     clear HC229
     try clear c7
     try clear c24
     try clear c26
     try clear c44
     try clear c44b0
     try clear c225
     try clear c226
     try clear c226b0
     try clear c227
     try clear c227b0
     try clear hcz240_0
     try clear hcz240_1
     try clear hfz240_0
     try clear hfz240_1
     try clear hx750_0
     try clear hx750_1
     try clear p750
     try clear q750
     try clear HA
     try clear HJ228
     try clear HO_3
     try clear HO_7
     try clear BK661
     try clear BK674
     try clear BK754
     try clear BK755
     try clear HB
     obtain ⟨kq, x346_228, rfl, HA, HJ228, HO_3, HO_7, BK661, BK674, BK754, BK755, HB⟩ := hcut
     cases kq with
     | zero => exact absurd HA.out (by simp [herbariumlaw1_BitsExact.j18])
     | succ kj228 => ?_
     have H := HA.out
     clear HA
     simp only [herbariumlaw1_BitsExact.j18] at H
     by_cases c248 : x346_228 = true
     rotate_left
     · replace c248 := Bool.eq_false_iff.mpr c248
       subst c248
       have H1 : ((herbariumlaw1_num.f t753).bind fun t776 => (if t776 = 1 then (if (!(t751.toList == (⟨#[]⟩ : ByteArray).toList) || (!(t752 == 0))) = true then (some false) else (herbariumlaw1_BitsExact.l3 kj228 x3_7 x4_2 t675 x7_30 (wrap64 (x27_6 + 1)) l0_0 l0_1 ((rd_T27 l0_0 x4_2).f0) ((rd_T27 l0_0 x4_2).f1))) else (some false))) = some true := by rw [if_neg (show ¬ (false = true) by decide)] at H; exact H
       clear H
       have H := H1
       clear H1
       replace H := Option.bind_eq_some_iff.mp H
       obtain ⟨t776, A2900, H⟩ := H
       try dsimp only at H
       have A290 := ak A2900
       clear A2900
       by_cases c291 : t776 = 1
       rotate_left
       · rw [if_neg c291] at H
         have c291b0 : (t776 == 1) = false := beq_eq_false_iff_ne.mpr c291
         have c291b1 : (t776 != 1) = true := bne_iff_ne.mpr c291
         exact absurd (Option.some.inj H) (by decide)
       rw [if_pos c291] at H
       have c291b0 : (t776 == 1) = true := beq_iff_eq.mpr c291
       have c291b1 : (t776 != 1) = false := bne_eq_false_iff_eq.mpr c291
       clear c291
       by_cases c292 : (!(t751.toList == (⟨#[]⟩ : ByteArray).toList) || (!(t752 == 0))) = true
       · rw [if_pos c292] at H
         have c292b0 : (!(t751.toList == (⟨#[]⟩ : ByteArray).toList) || (!(t752 == 0))) = true := c292
         clear c292
         exact absurd (Option.some.inj H) (by decide)
       rw [if_neg c292] at H
       have c292b0 : (!(t751.toList == (⟨#[]⟩ : ByteArray).toList) || (!(t752 == 0))) = false := by simpa using c292
       have c292b1 := (herbariumlaw1_BitsExact.e_cut c292b0).1
       have c292b2 := (herbariumlaw1_BitsExact.e_cut c292b0).2
       clear c292
       have H' := ak H
       clear H
       go_wp2_with (first | ((with_reducible refine gate_callee (f := 26) rfl ?_); refine goesL_ (some 369) rfl rfl Try.func26 (by kernel_rfl) rfl #[.int .i64 t753] rfl (by (try simp only [List.map_toArray, List.map_cons, List.map_nil]); first | done | rfl | (simp only [List.length_drop, List.length_take]; rfl)) ?_; (with_reducible refine (herbariumlaw1_num.calls t753 t776 _ A290.out).mono ?_); rintro e w' ⟨rfl, ⟨nd, rfl⟩⟩; refine ⟨_, rfl, ?_⟩; have hnb293 := NB754_661.out; have hnc293 := NB661_754.out; have hnb294 := NB754_674.out; have hnc294 := NB674_754.out; have hnb295 := NB754_755.out; have hnc295 := NB755_754.out; have hcz296_0 : wc.cell? ⟨gb754, 0, none⟩ = some (.string t751) := (blk_cell BK754.out 0).trans rfl; have hcz296_1 : wc.cell? ⟨gb754, 1, none⟩ = some (.int .i64 t752) := (blk_cell BK754.out 1).trans rfl; have hfz296_0 := blk_frozen BK754.out 0; have hfz296_1 := blk_frozen BK754.out 1; have hnb297 := NB755_661.out; have hnc297 := NB661_755.out; have hnb298 := NB755_674.out; have hnc298 := NB674_755.out; have hcz299_0 : wc.cell? ⟨gb755, 0, none⟩ = some (.string (⟨#[]⟩ : ByteArray)) := (blk_cell BK755.out 0).trans rfl; have hcz299_1 : wc.cell? ⟨gb755, 1, none⟩ = some (.int .i64 0) := (blk_cell BK755.out 1).trans rfl; have hfz299_0 := blk_frozen BK755.out 0; have hfz299_1 := blk_frozen BK755.out 1))
       go_roundg kj228
       case measure => have := HJ7.out; have := HK2.out; have := HJ19.out; have := HJ30.out; have := HK5.out; have := HK6.out; have := HJ218.out; have := HJ228.out; omega
       case rel => exact ⟨(wrap64 (x27_6 + 1)), (by first | rfl | (simp; done) | (simp [*]; done)), H', ⟨by have := HJ7.out; have := HK2.out; have := HJ19.out; have := HJ30.out; have := HK5.out; have := HK6.out; have := HJ218.out; have := HJ228.out; omega⟩, ⟨ur <| HO_3.out⟩, ⟨ur <| HO_7.out⟩, ⟨ub BK661.out⟩, ⟨ub BK674.out⟩, ⟨by repeat with_reducible first | exact HB.out | apply b1 | apply b2 | apply b3 | refine b4 ?_ GE661.out | refine b4 ?_ GE674.out | refine b4 ?_ GE754.out | refine b4 ?_ GE755.out⟩⟩
     subst c248
     have H1 : (if 0 ≤ x27_6 then (if x27_6 < (l0_0.length : Int) then (if (wrap64 (((rd_T27 l0_0 x4_2).f1) + ((rd_T27 l0_0 x27_6).f1))) ≤ 6000 then ((some (([] : List Int) : List Int)).bind fun y759 => (if y759.length + x7_30.length < 140737488355328 then ((some (y759 ++ x7_30 : List Int)).bind fun y762 => ((herbariumref1_Of.f kj228 ((rd_T27 l0_0 x27_6).f0) ((rd_T27 l0_0 x27_6).f1)).bind fun t766 => (if y762.length + t766.length < 140737488355328 then ((herbariumref1_List_Pack.f kj228 (y762 ++ t766)).bind fun bt772 => ((herbariumlaw1_num.f t753).bind fun t774 => (if t774 = 0 then (if (!(t751.toList == bt772.1.toList) || (!(t752 == bt772.2))) = true then (some false) else (herbariumlaw1_BitsExact.l3 kj228 x3_7 x4_2 t675 x7_30 (wrap64 (x27_6 + 1)) l0_0 l0_1 ((rd_T27 l0_0 x4_2).f0) ((rd_T27 l0_0 x4_2).f1))) else (some false)))) else (none)))) else (none))) else ((herbariumlaw1_num.f t753).bind fun t775 => (if t775 = 2 then (if (!(t751.toList == (⟨#[]⟩ : ByteArray).toList) || (!(t752 == 0))) = true then (some false) else (herbariumlaw1_BitsExact.l3 kj228 x3_7 x4_2 t675 x7_30 (wrap64 (x27_6 + 1)) l0_0 l0_1 ((rd_T27 l0_0 x4_2).f0) ((rd_T27 l0_0 x4_2).f1))) else (some false)))) else (none)) else (none)) = some true := by rw [if_pos rfl] at H; exact H
     clear H
     have H := H1
     clear H1
     by_cases c249 : 0 ≤ x27_6
     rotate_left
     · rw [if_neg c249] at H
       exact absurd H (by simp)
     rw [if_pos c249] at H
     have c249b0 : decide (0 ≤ x27_6) = true := decide_eq_true c249
     clear c249
     by_cases c250 : x27_6 < (l0_0.length : Int)
     rotate_left
     · rw [if_neg c250] at H
       exact absurd H (by simp)
     rw [if_pos c250] at H
     have c250b0 : decide (x27_6 < (l0_0.length : Int)) = true := decide_eq_true c250
     clear c250
     by_cases c251 : (wrap64 (((rd_T27 l0_0 x4_2).f1) + ((rd_T27 l0_0 x27_6).f1))) ≤ 6000
     rotate_left
     · rw [if_neg c251] at H
       have c251b0 : decide ((wrap64 (((rd_T27 l0_0 x4_2).f1) + ((rd_T27 l0_0 x27_6).f1))) ≤ 6000) = false := decide_eq_false c251
       clear c251
       replace H := Option.bind_eq_some_iff.mp H
       obtain ⟨t775, A2790, H⟩ := H
       try dsimp only at H
       have A279 := ak A2790
       clear A2790
       by_cases c280 : t775 = 2
       rotate_left
       · rw [if_neg c280] at H
         have c280b0 : (t775 == 2) = false := beq_eq_false_iff_ne.mpr c280
         have c280b1 : (t775 != 2) = true := bne_iff_ne.mpr c280
         exact absurd (Option.some.inj H) (by decide)
       rw [if_pos c280] at H
       have c280b0 : (t775 == 2) = true := beq_iff_eq.mpr c280
       have c280b1 : (t775 != 2) = false := bne_eq_false_iff_eq.mpr c280
       clear c280
       by_cases c281 : (!(t751.toList == (⟨#[]⟩ : ByteArray).toList) || (!(t752 == 0))) = true
       · rw [if_pos c281] at H
         have c281b0 : (!(t751.toList == (⟨#[]⟩ : ByteArray).toList) || (!(t752 == 0))) = true := c281
         clear c281
         exact absurd (Option.some.inj H) (by decide)
       rw [if_neg c281] at H
       have c281b0 : (!(t751.toList == (⟨#[]⟩ : ByteArray).toList) || (!(t752 == 0))) = false := by simpa using c281
       have c281b1 := (herbariumlaw1_BitsExact.e_cut c281b0).1
       have c281b2 := (herbariumlaw1_BitsExact.e_cut c281b0).2
       clear c281
       have H' := ak H
       clear H
       try go_wp2
       have n0_ := ak (Kd.R_drew HO_3.out)
       have n1_ := ak (Kd.R_drew HO_7.out)
       have n2_ := ak (blk_drew BK661.out)
       have n3_ := ak (blk_drew BK674.out)
       have n4_ := ak (blk_drew BK754.out)
       have n5_ := ak (blk_drew BK755.out)
       have n6_ := ak (below_drew1 HB.out)
       clear HO_3
       clear HO_7
       clear BK661
       clear BK674
       clear BK754
       clear BK755
       clear HB
       have HO_3 := n0_
       have HO_7 := n1_
       have BK661 := n2_
       have BK674 := n3_
       have BK754 := n4_
       have BK755 := n5_
       have HB := n6_
       clear n0_ n1_ n2_ n3_ n4_ n5_ n6_
       have p758 : 0 ≤ (x27_6 : Int) := of_decide_eq_true (by first | (with_reducible assumption) | assumption)
       have q758 : x27_6 < (l0_0.length : Int) := of_decide_eq_true (by first | (with_reducible assumption) | assumption)
       obtain ⟨ad758, e758, hx758_0, hx758_1⟩ := at_T27 HR0_0.out x27_6 p758 q758
       have hw758_1 := hx758_1
       have hw758_0 := hx758_0
       obtain rfl : ad673 = ad758 := (by injection e758)
       replace hx758_0 := (HB.out.cell (World.block_lt_of_cell? w _ hx758_0)).trans hx758_0
       replace hx758_1 := (HB.out.cell (World.block_lt_of_cell? w _ hx758_1)).trans hx758_1
       replace p758 := eq_true p758
       replace q758 := eq_true q758
       refine start_ (n := 10) (S := fun w' => w'.cell? ⟨gb674, 0, none⟩ = some (.string ((rd_T27 l0_0 x4_2).f0)) ∧ w'.cell? ⟨gb674, 1, none⟩ = some (.int .i64 ((rd_T27 l0_0 x4_2).f1)) ∧ w'.cell? ⟨gb661, 0, none⟩ = some (.slice (some ad673) l0_0.length c0_0) ∧ w'.cell? ⟨gb661, 1, none⟩ = some (.slice A0_1 l0_1.length c0_1) ∧ w'.cell? (ad673.add ((x27_6).toNat * 2)) = some (.string ((rd_T27 l0_0 x27_6).f0)) ∧ w'.cell? ⟨(ad673.add ((x27_6).toNat * 2)).block, (ad673.add ((x27_6).toNat * 2)).off + 1, none⟩ = some (.int .i64 ((rd_T27 l0_0 x27_6).f1))) (ds := []) #[false, false, false, false, false, false, false, false, false, false] (by kernel_rfl) rfl rfl ⟨(blk_cell BK674.out 0).trans rfl, (blk_cell BK674.out 1).trans rfl, (blk_cell BK661.out 0).trans rfl, (blk_cell BK661.out 1).trans rfl, ((HB.out.cell (World.block_lt_of_cell? w _ hw758_0)).trans hw758_0), ((HB.out.cell (World.block_lt_of_cell? w _ hw758_1)).trans hw758_1)⟩ (fun hHeld => ?_); refine with_tabW herbariumlaw1_BitsExact.tab58 herbariumlaw1_BitsExact.bits58 (fun HT_ HW_ => ?_)
       generalize wc.drew = w282 at HO_3 HO_7 BK661 BK674 BK754 BK755 HB hx758_0 hx758_1 hHeld ⊢
       refine pure_ (i := 0) (N := some 347) (v := ?_) (a' := ?_) #[true, false, false, false, false, false, false, false, false, false] rfl rfl (any_of HT_.out (by kernel_rfl)) (fun _ _ _ h => h) (Or.inl ⟨by rfl, ?_⟩) ?_ ?_
       rotate_left
       · intro w'
         go_simp
         with_reducible rfl
       rotate_left
       · simp only [Act.put, s1, s2, s3, i64_w, i32_w]
         rfl
       refine pure_ (i := 2) (N := some 349) (v := ?_) (a' := ?_) #[true, false, true, false, false, false, false, false, false, false] rfl rfl (any_of HT_.out (by kernel_rfl)) (fun _ _ _ h => h) (Or.inl ⟨by rfl, ?_⟩) ?_ ?_
       rotate_left
       · intro w'
         go_simp
         with_reducible rfl
       rotate_left
       · simp only [Act.put, s1, s2, s3, i64_w, i32_w]
         rfl
       refine pure_ (i := 4) (N := some 351) (v := ?_) (a' := ?_) #[true, false, true, false, true, false, false, false, false, false] rfl rfl (any_of HT_.out (by kernel_rfl)) (fun _ _ _ h => h) (Or.inl ⟨by rfl, ?_⟩) ?_ ?_
       rotate_left
       · intro w'
         go_simp
         with_reducible rfl
       rotate_left
       · simp only [Act.put, s1, s2, s3, i64_w, i32_w]
         rfl
       refine take_ (i := 1) (N := some 348) (v := ?_) (a' := ?_) #[true, true, true, false, true, false, false, false, false, false] rfl rfl (take_ofW HT_.out HW_.out (by kernel_rfl)) (fun _ _ _ h => h) (Or.inl ⟨by rfl, ?_⟩) hHeld ?_ ?_
       rotate_left
       · rintro w' ⟨s0, s1, s2, s3, s4, s5⟩
         go_simp
         with_reducible rfl
       rotate_left
       · simp only [Act.put, s1, s2, s3, i64_w, i32_w]
         rfl
       refine take_ (i := 3) (N := some 350) (v := ?_) (a' := ?_) #[true, true, true, true, true, false, false, false, false, false] rfl rfl (take_ofW HT_.out HW_.out (by kernel_rfl)) (fun _ _ _ h => h) (Or.inl ⟨by rfl, ?_⟩) hHeld ?_ ?_
       rotate_left
       · rintro w' ⟨s0, s1, s2, s3, s4, s5⟩
         go_simp
         with_reducible rfl
       rotate_left
       · simp only [Act.put, s1, s2, s3, i64_w, i32_w]
         rfl
       refine pure_ (i := 5) (N := some 352) (v := ?_) (a' := ?_) #[true, true, true, true, true, true, false, false, false, false] rfl rfl (any_of HT_.out (by kernel_rfl)) (fun _ _ _ h => h) (Or.inl ⟨by rfl, ?_⟩) ?_ ?_
       rotate_left
       · intro w'
         go_simp
         with_reducible rfl
       rotate_left
       · simp only [Act.put, s1, s2, s3, i64_w, i32_w]
         rfl
       refine pure_ (i := 6) (N := some 353) (v := ?_) (a' := ?_) #[true, true, true, true, true, true, true, false, false, false] rfl rfl (any_of HT_.out (by kernel_rfl)) (fun _ _ _ h => h) (Or.inl ⟨by rfl, ?_⟩) ?_ ?_
       rotate_left
       · intro w'
         go_simp
         with_reducible rfl
       rotate_left
       · simp only [Act.put, s1, s2, s3, i64_w, i32_w]
         rfl
       refine take_ (i := 7) (N := some 354) (v := ?_) (a' := ?_) #[true, true, true, true, true, true, true, true, false, false] rfl rfl (take_ofW HT_.out HW_.out (by kernel_rfl)) (fun _ _ _ h => h) (Or.inl ⟨by rfl, ?_⟩) hHeld ?_ ?_
       rotate_left
       · rintro w' ⟨s0, s1, s2, s3, s4, s5⟩
         go_simp
         with_reducible rfl
       rotate_left
       · simp only [Act.put, s1, s2, s3, i64_w, i32_w]
         rfl
       refine pure_ (i := 8) (N := some 355) (v := ?_) (a' := ?_) #[true, true, true, true, true, true, true, true, true, false] rfl rfl (any_of HT_.out (by kernel_rfl)) (fun _ _ _ h => h) (Or.inl ⟨by rfl, ?_⟩) ?_ ?_
       rotate_left
       · intro w'
         go_simp
         with_reducible rfl
       rotate_left
       · simp only [Act.put, s1, s2, s3, i64_w, i32_w]
         rfl
       refine pure_ (i := 9) (N := some 356) (v := ?_) (a' := ?_) #[true, true, true, true, true, true, true, true, true, true] rfl rfl (any_of HT_.out (by kernel_rfl)) (fun _ _ _ h => h) (Or.inl ⟨by rfl, ?_⟩) ?_ ?_
       rotate_left
       · intro w'
         go_simp
         with_reducible rfl
       rotate_left
       · simp only [Act.put, s1, s2, s3, i64_w, i32_w]
         rfl
       refine done_ (done_of HT_.out (by kernel_rfl)) ?_
       try go_wp2_with (first | ((with_reducible refine gate_callee (f := 26) rfl ?_); refine goesL_ (some 369) rfl rfl Try.func26 (by kernel_rfl) rfl #[.int .i64 t753] rfl (by (try simp only [List.map_toArray, List.map_cons, List.map_nil]); first | done | rfl | (simp only [List.length_drop, List.length_take]; rfl)) ?_; (with_reducible refine (herbariumlaw1_num.calls t753 t775 _ A279.out).mono ?_); rintro e w' ⟨rfl, ⟨nd, rfl⟩⟩; refine ⟨_, rfl, ?_⟩; have hnb283 := NB754_661.out; have hnc283 := NB661_754.out; have hnb284 := NB754_674.out; have hnc284 := NB674_754.out; have hnb285 := NB754_755.out; have hnc285 := NB755_754.out; have hcz286_0 : w282.cell? ⟨gb754, 0, none⟩ = some (.string t751) := (blk_cell BK754.out 0).trans rfl; have hcz286_1 : w282.cell? ⟨gb754, 1, none⟩ = some (.int .i64 t752) := (blk_cell BK754.out 1).trans rfl; have hfz286_0 := blk_frozen BK754.out 0; have hfz286_1 := blk_frozen BK754.out 1; have hnb287 := NB755_661.out; have hnc287 := NB661_755.out; have hnb288 := NB755_674.out; have hnc288 := NB674_755.out; have hcz289_0 : w282.cell? ⟨gb755, 0, none⟩ = some (.string (⟨#[]⟩ : ByteArray)) := (blk_cell BK755.out 0).trans rfl; have hcz289_1 : w282.cell? ⟨gb755, 1, none⟩ = some (.int .i64 0) := (blk_cell BK755.out 1).trans rfl; have hfz289_0 := blk_frozen BK755.out 0; have hfz289_1 := blk_frozen BK755.out 1))
       go_roundg kj228
       case measure => have := HJ7.out; have := HK2.out; have := HJ19.out; have := HJ30.out; have := HK5.out; have := HK6.out; have := HJ218.out; have := HJ228.out; omega
       case rel => exact ⟨(wrap64 (x27_6 + 1)), (by first | rfl | (simp; done) | (simp [*]; done)), H', ⟨by have := HJ7.out; have := HK2.out; have := HJ19.out; have := HJ30.out; have := HK5.out; have := HK6.out; have := HJ218.out; have := HJ228.out; omega⟩, ⟨ur <| HO_3.out⟩, ⟨ur <| HO_7.out⟩, ⟨ub BK661.out⟩, ⟨ub BK674.out⟩, ⟨by repeat with_reducible first | exact HB.out | apply b1 | apply b2 | apply b3 | refine b4 ?_ GE661.out | refine b4 ?_ GE674.out | refine b4 ?_ GE754.out | refine b4 ?_ GE755.out⟩⟩
     rw [if_pos c251] at H
     have c251b0 : decide ((wrap64 (((rd_T27 l0_0 x4_2).f1) + ((rd_T27 l0_0 x27_6).f1))) ≤ 6000) = true := decide_eq_true c251
     clear c251
     obtain ⟨y759, hy759⟩ : ∃ y_ : List Int, y_ = (([] : List Int)) := ⟨_, rfl⟩
     replace H : (if y759.length + x7_30.length < 140737488355328 then ((some (y759 ++ x7_30 : List Int)).bind fun y762 => ((herbariumref1_Of.f kj228 ((rd_T27 l0_0 x27_6).f0) ((rd_T27 l0_0 x27_6).f1)).bind fun t766 => (if y762.length + t766.length < 140737488355328 then ((herbariumref1_List_Pack.f kj228 (y762 ++ t766)).bind fun bt772 => ((herbariumlaw1_num.f t753).bind fun t774 => (if t774 = 0 then (if (!(t751.toList == bt772.1.toList) || (!(t752 == bt772.2))) = true then (some false) else (herbariumlaw1_BitsExact.l3 kj228 x3_7 x4_2 t675 x7_30 (wrap64 (x27_6 + 1)) l0_0 l0_1 ((rd_T27 l0_0 x4_2).f0) ((rd_T27 l0_0 x4_2).f1))) else (some false)))) else (none)))) else (none)) = some true := by first | (rw [hy759]; with_reducible exact H) | (have H2_ := (Option.bind_some _ _).symm.trans H; rw [hy759]; with_reducible exact H2_) | (have H2_ := (Option.bind_some _ _).symm.trans H; with_reducible exact H2_) | with_reducible exact H | (rw [hy759]; exact H) | exact H
     have Ny759 := ak hy759
     clear hy759
     by_cases c252 : y759.length + x7_30.length < 140737488355328
     rotate_left
     · rw [if_neg c252] at H
       exact absurd H (by simp)
     rw [if_pos c252] at H
     have LMc252 := ak c252
     clear c252
     obtain ⟨y762, hy762⟩ : ∃ y_ : List Int, y_ = (y759 ++ x7_30) := ⟨_, rfl⟩
     replace H : ((herbariumref1_Of.f kj228 ((rd_T27 l0_0 x27_6).f0) ((rd_T27 l0_0 x27_6).f1)).bind fun t766 => (if y762.length + t766.length < 140737488355328 then ((herbariumref1_List_Pack.f kj228 (y762 ++ t766)).bind fun bt772 => ((herbariumlaw1_num.f t753).bind fun t774 => (if t774 = 0 then (if (!(t751.toList == bt772.1.toList) || (!(t752 == bt772.2))) = true then (some false) else (herbariumlaw1_BitsExact.l3 kj228 x3_7 x4_2 t675 x7_30 (wrap64 (x27_6 + 1)) l0_0 l0_1 ((rd_T27 l0_0 x4_2).f0) ((rd_T27 l0_0 x4_2).f1))) else (some false)))) else (none))) = some true := by first | (rw [hy762]; with_reducible exact H) | (have H2_ := (Option.bind_some _ _).symm.trans H; rw [hy762]; with_reducible exact H2_) | (have H2_ := (Option.bind_some _ _).symm.trans H; with_reducible exact H2_) | with_reducible exact H | (rw [hy762]; exact H) | exact H
     have Ny762 := ak hy762
     clear hy762
     replace H := Option.bind_eq_some_iff.mp H
     obtain ⟨t766, A2530, H⟩ := H
     try dsimp only at H
     have A253 := ak A2530
     clear A2530
     by_cases c254 : y762.length + t766.length < 140737488355328
     rotate_left
     · rw [if_neg c254] at H
       exact absurd H (by simp)
     rw [if_pos c254] at H
     have LMc254 := ak c254
     clear c254
     obtain ⟨y769, hy769⟩ : ∃ y_ : List Int, y_ = (y762 ++ t766) := ⟨_, rfl⟩
     replace H : ((herbariumref1_List_Pack.f kj228 y769).bind fun bt772 => ((herbariumlaw1_num.f t753).bind fun t774 => (if t774 = 0 then (if (!(t751.toList == bt772.1.toList) || (!(t752 == bt772.2))) = true then (some false) else (herbariumlaw1_BitsExact.l3 kj228 x3_7 x4_2 t675 x7_30 (wrap64 (x27_6 + 1)) l0_0 l0_1 ((rd_T27 l0_0 x4_2).f0) ((rd_T27 l0_0 x4_2).f1))) else (some false)))) = some true := by first | (rw [hy769]; with_reducible exact H) | (have H2_ := (Option.bind_some _ _).symm.trans H; rw [hy769]; with_reducible exact H2_) | (have H2_ := (Option.bind_some _ _).symm.trans H; with_reducible exact H2_) | with_reducible exact H | (rw [hy769]; exact H) | exact H
     have Ny769 := ak hy769
     clear hy769
     replace H := Option.bind_eq_some_iff.mp H
     obtain ⟨⟨t772, t773⟩, A2550, H⟩ := H
     try dsimp only at H
     have A255 := ak A2550
     clear A2550
     replace H := Option.bind_eq_some_iff.mp H
     obtain ⟨t774, A2560, H⟩ := H
     try dsimp only at H
     have A256 := ak A2560
     clear A2560
     by_cases c257 : t774 = 0
     rotate_left
     · rw [if_neg c257] at H
       have c257b0 : (t774 == 0) = false := beq_eq_false_iff_ne.mpr c257
       have c257b1 : (t774 != 0) = true := bne_iff_ne.mpr c257
       exact absurd (Option.some.inj H) (by decide)
     rw [if_pos c257] at H
     have c257b0 : (t774 == 0) = true := beq_iff_eq.mpr c257
     have c257b1 : (t774 != 0) = false := bne_eq_false_iff_eq.mpr c257
     clear c257
     by_cases c258 : (!(t751.toList == t772.toList) || (!(t752 == t773))) = true
     · rw [if_pos c258] at H
       have c258b0 : (!(t751.toList == t772.toList) || (!(t752 == t773))) = true := c258
       clear c258
       exact absurd (Option.some.inj H) (by decide)
     rw [if_neg c258] at H
     have c258b0 : (!(t751.toList == t772.toList) || (!(t752 == t773))) = false := by simpa using c258
     clear c258
     have H' := ak H
     clear H
     try go_wp2
     have n0_ := ak (Kd.R_drew HO_3.out)
     have n1_ := ak (Kd.R_drew HO_7.out)
     have n2_ := ak (blk_drew BK661.out)
     have n3_ := ak (blk_drew BK674.out)
     have n4_ := ak (blk_drew BK754.out)
     have n5_ := ak (blk_drew BK755.out)
     have n6_ := ak (below_drew1 HB.out)
     clear HO_3
     clear HO_7
     clear BK661
     clear BK674
     clear BK754
     clear BK755
     clear HB
     have HO_3 := n0_
     have HO_7 := n1_
     have BK661 := n2_
     have BK674 := n3_
     have BK754 := n4_
     have BK755 := n5_
     have HB := n6_
     clear n0_ n1_ n2_ n3_ n4_ n5_ n6_
     have p758 : 0 ≤ (x27_6 : Int) := of_decide_eq_true (by first | (with_reducible assumption) | assumption)
     have q758 : x27_6 < (l0_0.length : Int) := of_decide_eq_true (by first | (with_reducible assumption) | assumption)
     obtain ⟨ad758, e758, hx758_0, hx758_1⟩ := at_T27 HR0_0.out x27_6 p758 q758
     have hw758_1 := hx758_1
     have hw758_0 := hx758_0
     obtain rfl : ad673 = ad758 := (by injection e758)
     replace hx758_0 := (HB.out.cell (World.block_lt_of_cell? w _ hx758_0)).trans hx758_0
     replace hx758_1 := (HB.out.cell (World.block_lt_of_cell? w _ hx758_1)).trans hx758_1
     replace p758 := eq_true p758
     replace q758 := eq_true q758
     refine start_ (n := 10) (S := fun w' => w'.cell? ⟨gb674, 0, none⟩ = some (.string ((rd_T27 l0_0 x4_2).f0)) ∧ w'.cell? ⟨gb674, 1, none⟩ = some (.int .i64 ((rd_T27 l0_0 x4_2).f1)) ∧ w'.cell? ⟨gb661, 0, none⟩ = some (.slice (some ad673) l0_0.length c0_0) ∧ w'.cell? ⟨gb661, 1, none⟩ = some (.slice A0_1 l0_1.length c0_1) ∧ w'.cell? (ad673.add ((x27_6).toNat * 2)) = some (.string ((rd_T27 l0_0 x27_6).f0)) ∧ w'.cell? ⟨(ad673.add ((x27_6).toNat * 2)).block, (ad673.add ((x27_6).toNat * 2)).off + 1, none⟩ = some (.int .i64 ((rd_T27 l0_0 x27_6).f1))) (ds := []) #[false, false, false, false, false, false, false, false, false, false] (by kernel_rfl) rfl rfl ⟨(blk_cell BK674.out 0).trans rfl, (blk_cell BK674.out 1).trans rfl, (blk_cell BK661.out 0).trans rfl, (blk_cell BK661.out 1).trans rfl, ((HB.out.cell (World.block_lt_of_cell? w _ hw758_0)).trans hw758_0), ((HB.out.cell (World.block_lt_of_cell? w _ hw758_1)).trans hw758_1)⟩ (fun hHeld => ?_); refine with_tabW herbariumlaw1_BitsExact.tab58 herbariumlaw1_BitsExact.bits58 (fun HT_ HW_ => ?_)
     generalize wc.drew = w259 at HO_3 HO_7 BK661 BK674 BK754 BK755 HB hx758_0 hx758_1 hHeld ⊢
     refine pure_ (i := 0) (N := some 347) (v := ?_) (a' := ?_) #[true, false, false, false, false, false, false, false, false, false] rfl rfl (any_of HT_.out (by kernel_rfl)) (fun _ _ _ h => h) (Or.inl ⟨by rfl, ?_⟩) ?_ ?_
     rotate_left
     · intro w'
       go_simp
       with_reducible rfl
     rotate_left
     · simp only [Act.put, s1, s2, s3, i64_w, i32_w]
       rfl
     refine pure_ (i := 2) (N := some 349) (v := ?_) (a' := ?_) #[true, false, true, false, false, false, false, false, false, false] rfl rfl (any_of HT_.out (by kernel_rfl)) (fun _ _ _ h => h) (Or.inl ⟨by rfl, ?_⟩) ?_ ?_
     rotate_left
     · intro w'
       go_simp
       with_reducible rfl
     rotate_left
     · simp only [Act.put, s1, s2, s3, i64_w, i32_w]
       rfl
     refine pure_ (i := 4) (N := some 351) (v := ?_) (a' := ?_) #[true, false, true, false, true, false, false, false, false, false] rfl rfl (any_of HT_.out (by kernel_rfl)) (fun _ _ _ h => h) (Or.inl ⟨by rfl, ?_⟩) ?_ ?_
     rotate_left
     · intro w'
       go_simp
       with_reducible rfl
     rotate_left
     · simp only [Act.put, s1, s2, s3, i64_w, i32_w]
       rfl
     refine take_ (i := 1) (N := some 348) (v := ?_) (a' := ?_) #[true, true, true, false, true, false, false, false, false, false] rfl rfl (take_ofW HT_.out HW_.out (by kernel_rfl)) (fun _ _ _ h => h) (Or.inl ⟨by rfl, ?_⟩) hHeld ?_ ?_
     rotate_left
     · rintro w' ⟨s0, s1, s2, s3, s4, s5⟩
       go_simp
       with_reducible rfl
     rotate_left
     · simp only [Act.put, s1, s2, s3, i64_w, i32_w]
       rfl
     refine take_ (i := 3) (N := some 350) (v := ?_) (a' := ?_) #[true, true, true, true, true, false, false, false, false, false] rfl rfl (take_ofW HT_.out HW_.out (by kernel_rfl)) (fun _ _ _ h => h) (Or.inl ⟨by rfl, ?_⟩) hHeld ?_ ?_
     rotate_left
     · rintro w' ⟨s0, s1, s2, s3, s4, s5⟩
       go_simp
       with_reducible rfl
     rotate_left
     · simp only [Act.put, s1, s2, s3, i64_w, i32_w]
       rfl
     refine pure_ (i := 5) (N := some 352) (v := ?_) (a' := ?_) #[true, true, true, true, true, true, false, false, false, false] rfl rfl (any_of HT_.out (by kernel_rfl)) (fun _ _ _ h => h) (Or.inl ⟨by rfl, ?_⟩) ?_ ?_
     rotate_left
     · intro w'
       go_simp
       with_reducible rfl
     rotate_left
     · simp only [Act.put, s1, s2, s3, i64_w, i32_w]
       rfl
     refine pure_ (i := 6) (N := some 353) (v := ?_) (a' := ?_) #[true, true, true, true, true, true, true, false, false, false] rfl rfl (any_of HT_.out (by kernel_rfl)) (fun _ _ _ h => h) (Or.inl ⟨by rfl, ?_⟩) ?_ ?_
     rotate_left
     · intro w'
       go_simp
       with_reducible rfl
     rotate_left
     · simp only [Act.put, s1, s2, s3, i64_w, i32_w]
       rfl
     refine take_ (i := 7) (N := some 354) (v := ?_) (a' := ?_) #[true, true, true, true, true, true, true, true, false, false] rfl rfl (take_ofW HT_.out HW_.out (by kernel_rfl)) (fun _ _ _ h => h) (Or.inl ⟨by rfl, ?_⟩) hHeld ?_ ?_
     rotate_left
     · rintro w' ⟨s0, s1, s2, s3, s4, s5⟩
       go_simp
       with_reducible rfl
     rotate_left
     · simp only [Act.put, s1, s2, s3, i64_w, i32_w]
       rfl
     refine pure_ (i := 8) (N := some 355) (v := ?_) (a' := ?_) #[true, true, true, true, true, true, true, true, true, false] rfl rfl (any_of HT_.out (by kernel_rfl)) (fun _ _ _ h => h) (Or.inl ⟨by rfl, ?_⟩) ?_ ?_
     rotate_left
     · intro w'
       go_simp
       with_reducible rfl
     rotate_left
     · simp only [Act.put, s1, s2, s3, i64_w, i32_w]
       rfl
     refine pure_ (i := 9) (N := some 356) (v := ?_) (a' := ?_) #[true, true, true, true, true, true, true, true, true, true] rfl rfl (any_of HT_.out (by kernel_rfl)) (fun _ _ _ h => h) (Or.inl ⟨by rfl, ?_⟩) ?_ ?_
     rotate_left
     · intro w'
       go_simp
       with_reducible rfl
     rotate_left
     · simp only [Act.put, s1, s2, s3, i64_w, i32_w]
       rfl
     refine done_ (done_of HT_.out (by kernel_rfl)) ?_
     try go_wp2
     have n0_ := ak (Kd.R_drew HO_3.out)
     have n1_ := ak (Kd.R_drew HO_7.out)
     have n2_ := ak (blk_drew BK661.out)
     have n3_ := ak (blk_drew BK674.out)
     have n4_ := ak (blk_drew BK754.out)
     have n5_ := ak (blk_drew BK755.out)
     have n6_ := ak (below_drew1 HB.out)
     clear HO_3
     clear HO_7
     clear BK661
     clear BK674
     clear BK754
     clear BK755
     clear HB
     have HO_3 := n0_
     have HO_7 := n1_
     have BK661 := n2_
     have BK674 := n3_
     have BK754 := n4_
     have BK755 := n5_
     have HB := n6_
     clear n0_ n1_ n2_ n3_ n4_ n5_ n6_
     have p765 : 0 ≤ (x27_6 : Int) := of_decide_eq_true (by first | (with_reducible assumption) | assumption)
     have q765 : x27_6 < (l0_0.length : Int) := of_decide_eq_true (by first | (with_reducible assumption) | assumption)
     obtain ⟨ad765, e765, hx765_0, hx765_1⟩ := at_T27 HR0_0.out x27_6 p765 q765
     have hw765_1 := hx765_1
     have hw765_0 := hx765_0
     obtain rfl : ad673 = ad765 := (by injection e765)
     replace hx765_0 := (HB.out.cell (World.block_lt_of_cell? w _ hx765_0)).trans hx765_0
     replace hx765_1 := (HB.out.cell (World.block_lt_of_cell? w _ hx765_1)).trans hx765_1
     replace p765 := eq_true p765
     replace q765 := eq_true q765
     refine start_ (n := 13) (S := fun w' => w'.cell? ⟨gb661, 0, none⟩ = some (.slice (some ad673) l0_0.length c0_0) ∧ w'.cell? ⟨gb661, 1, none⟩ = some (.slice A0_1 l0_1.length c0_1) ∧ w'.cell? (ad673.add ((x27_6).toNat * 2)) = some (.string ((rd_T27 l0_0 x27_6).f0)) ∧ w'.cell? ⟨(ad673.add ((x27_6).toNat * 2)).block, (ad673.add ((x27_6).toNat * 2)).off + 1, none⟩ = some (.int .i64 ((rd_T27 l0_0 x27_6).f1))) (ds := []) #[false, false, false, false, false, false, false, false, false, false, false, false, false] (by kernel_rfl) rfl rfl ⟨(blk_cell BK661.out 0).trans rfl, (blk_cell BK661.out 1).trans rfl, ((HB.out.cell (World.block_lt_of_cell? w _ hw765_0)).trans hw765_0), ((HB.out.cell (World.block_lt_of_cell? w _ hw765_1)).trans hw765_1)⟩ (fun hHeld => ?_); refine with_tabW herbariumlaw1_BitsExact.tab59 herbariumlaw1_BitsExact.bits59 (fun HT_ HW_ => ?_)
     generalize w259.drew = w260 at HO_3 HO_7 BK661 BK674 BK754 BK755 HB hx765_0 hx765_1 hHeld ⊢
     refine pure_ (i := 1) (N := some 358) (v := ?_) (a' := ?_) #[false, true, false, false, false, false, false, false, false, false, false, false, false] rfl rfl (any_of HT_.out (by kernel_rfl)) (fun _ _ _ h => h) (Or.inl ⟨by rfl, ?_⟩) ?_ ?_
     rotate_left
     · intro w'
       go_simp
       with_reducible rfl
     rotate_left
     · simp only [Act.put, s1, s2, s3, i64_w, i32_w]
       rfl
     refine pure_ (i := 3) (N := some 360) (v := ?_) (a' := ?_) #[false, true, false, true, false, false, false, false, false, false, false, false, false] rfl rfl (any_of HT_.out (by kernel_rfl)) (fun _ _ _ h => h) (Or.inl ⟨by rfl, ?_⟩) ?_ ?_
     rotate_left
     · intro w'
       go_simp
       with_reducible rfl
     rotate_left
     · simp only [Act.put, s1, s2, s3, i64_w, i32_w]
       rfl
     refine pure_ (i := 5) (N := some 362) (v := ?_) (a' := ?_) #[false, true, false, true, false, true, false, false, false, false, false, false, false] rfl rfl (any_of HT_.out (by kernel_rfl)) (fun _ _ _ h => h) (Or.inl ⟨by rfl, ?_⟩) ?_ ?_
     rotate_left
     · intro w'
       go_simp
       with_reducible rfl
     rotate_left
     · simp only [Act.put, s1, s2, s3, i64_w, i32_w]
       rfl
     refine take_ (i := 4) (N := some 361) (v := ?_) (a' := ?_) #[false, true, false, true, true, true, false, false, false, false, false, false, false] rfl rfl (take_ofW HT_.out HW_.out (by kernel_rfl)) (fun _ _ _ h => h) (Or.inl ⟨by rfl, ?_⟩) hHeld ?_ ?_
     rotate_left
     · rintro w' ⟨s0, s1, s2, s3⟩
       go_simp
       with_reducible rfl
     rotate_left
     · simp only [Act.put, s1, s2, s3, i64_w, i32_w]
       rfl
     refine pure_ (i := 6) (N := some 363) (v := ?_) (a' := ?_) #[false, true, false, true, true, true, true, false, false, false, false, false, false] rfl rfl (any_of HT_.out (by kernel_rfl)) (fun _ _ _ h => h) (Or.inl ⟨by rfl, ?_⟩) ?_ ?_
     rotate_left
     · intro w'
       go_simp
       with_reducible rfl
     rotate_left
     · simp only [Act.put, s1, s2, s3, i64_w, i32_w]
       rfl
     refine take_ (i := 7) (N := some 364) (v := ?_) (a' := ?_) #[false, true, false, true, true, true, true, true, false, false, false, false, false] rfl rfl (take_ofW HT_.out HW_.out (by kernel_rfl)) (fun _ _ _ h => h) (Or.inl ⟨by rfl, ?_⟩) hHeld ?_ ?_
     rotate_left
     · rintro w' ⟨s0, s1, s2, s3⟩
       go_simp
       with_reducible rfl
     rotate_left
     · simp only [Act.put, s1, s2, s3, i64_w, i32_w]
       rfl
     refine one_ (i := 0) (N := some 357) #[true, true, false, true, true, true, true, true, false, false, false, false, false] rfl rfl (one_of HT_.out (by kernel_rfl)) (by decide) (fun K hK => ?_)
     refine Kd.R_lit_step (Kd.int .u8) _ 5 ?hg (N := 357) ?hd (xs := ([] : List Int)) (inner := []) (ok := fun _ => True) (okp := fun _ => True) ?hr ?hp (fun _ hk => hk) trivial (Below.refl _ _) (Nat.le_refl _) (by simp) ?_; (case hd => rfl); (case hg => rfl); (case hr => first | (go_simp; done) | (go_simp; rfl)); (case hp => exact (Reps.none _ _))
     intro v760 w261 ho262 hb hg_ hnew_
     clear hg_ hnew_
     (first | rw [← Ny759.out] at ho262 | (simp only [Int.reduceToNat] at ho262; rw [← Ny759.out] at ho262))
     have n0_ := ak (Kd.R_below (ur <| HO_3.out) hb)
     have n1_ := ak (Kd.R_elder' (ur <| HO_7.out) (Kd.R_base ho262) hb)
     have n2_ := ak (Kd.R_lower (Kd.R_new' ho262 (Kd.R_lt (ur <| HO_7.out))) (below_size (by repeat with_reducible first | exact HB.out | apply b1 | apply b2 | apply b3 | refine b4 ?_ GE661.out | refine b4 ?_ GE674.out | refine b4 ?_ GE754.out | refine b4 ?_ GE755.out)))
     have n3_ := ak (blk_below (g := gb661) (o := .cells #[.slice (some ad673) l0_0.length c0_0, .slice A0_1 l0_1.length c0_1] 25 (0, 0)) (ub BK661.out) hb)
     have n4_ := ak (blk_below (g := gb674) (o := .cells #[.string ((rd_T27 l0_0 x4_2).f0), .int .i64 ((rd_T27 l0_0 x4_2).f1)] 27 (0, 0)) (ub BK674.out) hb)
     have n5_ := ak (blk_below (g := gb754) (o := .cells #[.string t751, .int .i64 t752] 27 (0, 0)) (ub BK754.out) hb)
     have n6_ := ak (blk_below (g := gb755) (o := .cells #[.string (⟨#[]⟩ : ByteArray), .int .i64 0] 27 (0, 0)) (ub BK755.out) hb)
     have n7_ := ak (below_step (by repeat with_reducible first | exact HB.out | apply b1 | apply b2 | apply b3 | refine b4 ?_ GE661.out | refine b4 ?_ GE674.out | refine b4 ?_ GE754.out | refine b4 ?_ GE755.out) hb)
     clear HO_3
     clear HO_7
     clear BK661
     clear BK674
     clear BK754
     clear BK755
     clear HB
     have HO_3 := n0_
     have HO_7 := n1_
     have HO761 := n2_
     have BK661 := n3_
     have BK674 := n4_
     have BK754 := n5_
     have BK755 := n6_
     have HB := n7_
     clear n0_ n1_ n2_ n3_ n4_ n5_ n6_ n7_
     clear hb ho262
     obtain ⟨Ao264, co264, eo264⟩ := Kd.R_slice HO_7.out
     (first | subst eo264 | (injection eo264 with f1_ f2_ f3_; have f4_ := f1_.symm; have f5_ := f3_.symm; clear f1_ f2_ f3_; subst f4_; subst f5_))
     refine hK.out _ _ ⟨(blk_cell BK661.out 0).trans rfl, (blk_cell BK661.out 1).trans rfl, ((HB.out.cell (World.block_lt_of_cell? w _ hw765_0)).trans hw765_0), ((HB.out.cell (World.block_lt_of_cell? w _ hw765_1)).trans hw765_1)⟩ (fun hHeld => ?_)
     clear hK K
     refine norm_ (a' := ?_) ?_ ?_
     rotate_left
     · show Act.put _ (some 357) _ = _
       simp only [Act.put, s1, s2, s3, i64_w, i32_w]
       rfl
     refine one_ (i := 2) (N := some 359) #[true, true, true, true, true, true, true, true, false, false, false, false, false] rfl rfl (one_of HT_.out (by kernel_rfl)) (by decide) (fun K hK => ?_)
     refine Kd.R_append_rows_step (Kd.int .u8) (w0 := w) w.heap.size (by rfl) (.tmp 357) (.tmp 358) 64 5 (.int .u8 0) 1 rfl Try.underlying64 info5 rfl (by decide) (by omega) v760 y759 x7_30 _ _ _ (fun k_ => some k_ ≠ (.slice Ao264 x7_30.length co264 : Value).ownBlock) (fun _ => False) rfl rfl ?aO ?aR (fun _ _ h => h) (fun _ h => h.elim) ?aF ?aB ?aS ?aL ?_
     (case aR => exact uc (Kd.R_reads' HO_7.out).2.2)
     (case aB => exact (by repeat with_reducible first | exact HB.out | apply b1 | apply b2 | apply b3 | refine b4 ?_ GE661.out | refine b4 ?_ GE674.out | refine b4 ?_ GE754.out | refine b4 ?_ GE755.out))
     (case aF => exact (fun k_ hk => Kd.fresh' (Kd.R_lt (ur <| HO_7.out)) k_ hk))
     (case aO => exact (ur <| Kd.R_mono HO761.out (fun _ hk => hk.2)))
     (case aS => exact (below_size (by repeat with_reducible first | exact HB.out | apply b1 | apply b2 | apply b3 | refine b4 ?_ GE661.out | refine b4 ?_ GE674.out | refine b4 ?_ GE754.out | refine b4 ?_ GE755.out)))
     (case aL => have := LMc252.out; omega)
     intro v763 w263 ho hb hg hat
     rw [← Ny762.out] at ho
     have n0_ := ak (Kd.R_over' (ur <| HO_3.out) (Kd.R_typed (ur <| HO761.out)) (by decide) hg)
     have n1_ := ak (Kd.R_after (ok := (fun _ => True)) (ur <| HO_7.out) hg hat)
     have n2_ := ak (blk_grown (g := gb661) (o := .cells #[.slice (some ad673) l0_0.length c0_0, .slice A0_1 l0_1.length c0_1] 25 (0, 0)) (ub BK661.out) hg (Kd.R_ne HO761.out BK661.out (by decide)))
     have n3_ := ak (blk_grown (g := gb674) (o := .cells #[.string ((rd_T27 l0_0 x4_2).f0), .int .i64 ((rd_T27 l0_0 x4_2).f1)] 27 (0, 0)) (ub BK674.out) hg (Kd.R_ne HO761.out BK674.out (by decide)))
     have n4_ := ak (blk_grown (g := gb754) (o := .cells #[.string t751, .int .i64 t752] 27 (0, 0)) (ub BK754.out) hg (Kd.R_ne HO761.out BK754.out (by decide)))
     have n5_ := ak (blk_grown (g := gb755) (o := .cells #[.string (⟨#[]⟩ : ByteArray), .int .i64 0] 27 (0, 0)) (ub BK755.out) hg (Kd.R_ne HO761.out BK755.out (by decide)))
     have n6_ := ak (hb)
     have n7_ := ak (ho)
     clear HO_3
     clear HO_7
     clear BK661
     clear BK674
     clear BK754
     clear BK755
     clear HB
     clear HO761
     have HO_3 := n0_
     have HO_7 := n1_
     have BK661 := n2_
     have BK674 := n3_
     have BK754 := n4_
     have BK755 := n5_
     have HB := n6_
     have HO764 := n7_
     clear n0_ n1_ n2_ n3_ n4_ n5_ n6_ n7_
     clear ho hb hg hat
     refine hK.out _ _ ⟨(blk_cell BK661.out 0).trans rfl, (blk_cell BK661.out 1).trans rfl, ((HB.out.cell (World.block_lt_of_cell? w _ hw765_0)).trans hw765_0), ((HB.out.cell (World.block_lt_of_cell? w _ hw765_1)).trans hw765_1)⟩ (fun hHeld => ?_)
     clear hK K
     refine norm_ (a' := ?_) ?_ ?_
     rotate_left
     · show Act.put _ (some 359) _ = _
       simp only [Act.put, s1, s2, s3, i64_w, i32_w]
       rfl
     refine one_ (i := 8) (N := some 365) #[true, true, true, true, true, true, true, true, true, false, false, false, false] rfl rfl (one_of HT_.out (by kernel_rfl)) (by decide) (fun K hK => ?_)
     refine goes_ Try.func52 (by kernel_rfl) rfl #[.agg #[.string ((rd_T27 l0_0 x27_6).f0), .int .i64 ((rd_T27 l0_0 x27_6).f1)]] (by rfl) rfl rfl (by (try simp only [List.map_toArray, List.map_cons, List.map_nil]); first | done | rfl | (simp only [List.length_drop, List.length_take]; rfl)) ?_
     with_reducible refine (herbariumref1_Of.calls kj228 ((rd_T27 l0_0 x27_6).f0) ((rd_T27 l0_0 x27_6).f1) t766 _ A253.out).mono ?_
     rintro e w265 ⟨v767, rfl, ho0, hb⟩
     refine ⟨_, rfl, ?_⟩
     have n0_ := ak (Kd.R_below (ur <| HO_3.out) hb)
     have n1_ := ak (Kd.R_elder' (ur <| HO_7.out) (Kd.R_base ho0) hb)
     have n2_ := ak (Kd.R_elder' (ur <| HO764.out) (Kd.R_base ho0) hb)
     have n3_ := ak (Kd.R_lower (Kd.R_new' (Kd.R_new' ho0 (Kd.R_lt (ur <| HO_7.out))) (Kd.R_lt (ur <| HO764.out))) (below_size (by repeat with_reducible first | exact HB.out | apply b1 | apply b2 | apply b3 | refine b4 ?_ GE661.out | refine b4 ?_ GE674.out | refine b4 ?_ GE754.out | refine b4 ?_ GE755.out)))
     have n4_ := ak (blk_below (g := gb661) (o := .cells #[.slice (some ad673) l0_0.length c0_0, .slice A0_1 l0_1.length c0_1] 25 (0, 0)) (ub BK661.out) hb)
     have n5_ := ak (blk_below (g := gb674) (o := .cells #[.string ((rd_T27 l0_0 x4_2).f0), .int .i64 ((rd_T27 l0_0 x4_2).f1)] 27 (0, 0)) (ub BK674.out) hb)
     have n6_ := ak (blk_below (g := gb754) (o := .cells #[.string t751, .int .i64 t752] 27 (0, 0)) (ub BK754.out) hb)
     have n7_ := ak (blk_below (g := gb755) (o := .cells #[.string (⟨#[]⟩ : ByteArray), .int .i64 0] 27 (0, 0)) (ub BK755.out) hb)
     have n8_ := ak (below_step (by repeat with_reducible first | exact HB.out | apply b1 | apply b2 | apply b3 | refine b4 ?_ GE661.out | refine b4 ?_ GE674.out | refine b4 ?_ GE754.out | refine b4 ?_ GE755.out) hb)
     clear HO_3
     clear HO_7
     clear HO764
     clear BK661
     clear BK674
     clear BK754
     clear BK755
     clear HB
     have HO_3 := n0_
     have HO_7 := n1_
     have HO764 := n2_
     have HO768 := n3_
     have BK661 := n4_
     have BK674 := n5_
     have BK754 := n6_
     have BK755 := n7_
     have HB := n8_
     clear n0_ n1_ n2_ n3_ n4_ n5_ n6_ n7_ n8_
     (try clear hb)
     (try clear hb2)
     (try clear hk)
     (try clear hi)
     (try clear ho0)
     obtain ⟨Ao267, co267, eo267⟩ := Kd.R_slice HO768.out
     (first | subst eo267 | (injection eo267 with f1_ f2_ f3_; have f4_ := f1_.symm; have f5_ := f3_.symm; clear f1_ f2_ f3_; subst f4_; subst f5_))
     refine hK.out _ _ ⟨(blk_cell BK661.out 0).trans rfl, (blk_cell BK661.out 1).trans rfl, ((HB.out.cell (World.block_lt_of_cell? w _ hw765_0)).trans hw765_0), ((HB.out.cell (World.block_lt_of_cell? w _ hw765_1)).trans hw765_1)⟩ (fun hHeld => ?_)
     clear hK K
     refine norm_ (a' := ?_) ?_ ?_
     rotate_left
     · show Act.put _ (some 365) _ = _
       simp only [Act.put, s1, s2, s3, i64_w, i32_w]
       rfl
     refine one_ (i := 9) (N := some 366) #[true, true, true, true, true, true, true, true, true, true, false, false, false] rfl rfl (one_of HT_.out (by kernel_rfl)) (by decide) (fun K hK => ?_)
     refine Kd.R_append_rows_step (Kd.int .u8) (w0 := w) w.heap.size (by rfl) (.tmp 359) (.tmp 365) 64 5 (.int .u8 0) 1 rfl Try.underlying64 info5 rfl (by decide) (by omega) v763 y762 t766 _ _ _ (fun k_ => some k_ ≠ (.slice Ao264 x7_30.length co264 : Value).ownBlock ∧ some k_ ≠ (.slice Ao267 t766.length co267 : Value).ownBlock) (fun _ => False) rfl rfl ?aO ?aR (fun _ _ h => h) (fun _ h => h.elim) ?aF ?aB ?aS ?aL ?_
     (case aR => exact uc (Kd.R_reads' HO768.out).2.2)
     (case aB => exact (by repeat with_reducible first | exact HB.out | apply b1 | apply b2 | apply b3 | refine b4 ?_ GE661.out | refine b4 ?_ GE674.out | refine b4 ?_ GE754.out | refine b4 ?_ GE755.out))
     (case aF => exact (fun k_ hk => ⟨Kd.fresh' (Kd.R_lt (ur <| HO_7.out)) k_ hk, Kd.fresh' (Kd.R_lt (ur <| HO768.out)) k_ hk⟩))
     (case aO => exact (ur <| HO764.out))
     (case aS => exact (below_size (by repeat with_reducible first | exact HB.out | apply b1 | apply b2 | apply b3 | refine b4 ?_ GE661.out | refine b4 ?_ GE674.out | refine b4 ?_ GE754.out | refine b4 ?_ GE755.out)))
     (case aL => have := LMc254.out; omega)
     intro v770 w266 ho hb hg hat
     rw [← Ny769.out] at ho
     have n0_ := ak (Kd.R_over' (ur <| HO_3.out) (Kd.R_typed (ur <| HO764.out)) (by decide) hg)
     have n1_ := ak (Kd.R_after (ok := (fun k_ => some k_ ≠ (.slice Ao267 t766.length co267 : Value).ownBlock)) (ur <| Kd.R_mono HO_7.out (fun _ hk => ⟨hk.2, hk.1.2⟩)) hg hat)
     have n2_ := ak (blk_grown (g := gb661) (o := .cells #[.slice (some ad673) l0_0.length c0_0, .slice A0_1 l0_1.length c0_1] 25 (0, 0)) (ub BK661.out) hg (Kd.R_ne HO764.out BK661.out (by decide)))
     have n3_ := ak (blk_grown (g := gb674) (o := .cells #[.string ((rd_T27 l0_0 x4_2).f0), .int .i64 ((rd_T27 l0_0 x4_2).f1)] 27 (0, 0)) (ub BK674.out) hg (Kd.R_ne HO764.out BK674.out (by decide)))
     have n4_ := ak (blk_grown (g := gb754) (o := .cells #[.string t751, .int .i64 t752] 27 (0, 0)) (ub BK754.out) hg (Kd.R_ne HO764.out BK754.out (by decide)))
     have n5_ := ak (blk_grown (g := gb755) (o := .cells #[.string (⟨#[]⟩ : ByteArray), .int .i64 0] 27 (0, 0)) (ub BK755.out) hg (Kd.R_ne HO764.out BK755.out (by decide)))
     have n6_ := ak (Kd.R_after (ok := (fun k_ => some k_ ≠ (.slice Ao264 x7_30.length co264 : Value).ownBlock)) (ur <| Kd.R_mono HO768.out (fun _ hk => ⟨hk.1.2, hk.2⟩)) hg hat)
     have n7_ := ak (hb)
     have n8_ := ak (ho)
     clear HO_3
     clear HO_7
     clear BK661
     clear BK674
     clear BK754
     clear BK755
     clear HO768
     clear HB
     clear HO764
     have HO_3 := n0_
     have HO_7 := n1_
     have BK661 := n2_
     have BK674 := n3_
     have BK754 := n4_
     have BK755 := n5_
     have HO768 := n6_
     have HB := n7_
     have HO771 := n8_
     clear n0_ n1_ n2_ n3_ n4_ n5_ n6_ n7_ n8_
     clear ho hb hg hat
     obtain ⟨Ao268, co268, eo268⟩ := Kd.R_slice HO771.out
     (first | subst eo268 | (injection eo268 with f1_ f2_ f3_; have f4_ := f1_.symm; have f5_ := f3_.symm; clear f1_ f2_ f3_; subst f4_; subst f5_))
     refine hK.out _ _ ⟨(blk_cell BK661.out 0).trans rfl, (blk_cell BK661.out 1).trans rfl, ((HB.out.cell (World.block_lt_of_cell? w _ hw765_0)).trans hw765_0), ((HB.out.cell (World.block_lt_of_cell? w _ hw765_1)).trans hw765_1)⟩ (fun hHeld => ?_)
     clear hK K
     refine norm_ (a' := ?_) ?_ ?_
     rotate_left
     · show Act.put _ (some 366) _ = _
       simp only [Act.put, s1, s2, s3, i64_w, i32_w]
       rfl
     refine one_ (i := 10) (N := some 367) #[true, true, true, true, true, true, true, true, true, true, true, false, false] rfl rfl (one_of HT_.out (by kernel_rfl)) (by decide) (fun K hK => ?_)
     refine goes_ Try.func56 (by kernel_rfl) rfl #[.slice Ao268 y769.length co268] (by rfl) rfl rfl (by (try simp only [List.map_toArray, List.map_cons, List.map_nil]); first | done | rfl | (simp only [List.length_drop, List.length_take]; rfl)) ?_
     with_reducible refine (herbariumref1_List_Pack.calls kj228 _ _ y769 t772 t773 _ ?side1 ?side2 A255.out).mono ?_
     (case side1 => exact uc (Kd.R_reads' HO771.out).2.2)
     (case side2 => exact (Kd.R_reads' HO771.out).2.1)
     rintro e w269 ⟨rfl, hb⟩
     refine ⟨_, rfl, ?_⟩
     have n0_ := ak (Kd.R_below (ur <| HO_3.out) hb)
     have n1_ := ak (Kd.R_below (ur <| HO_7.out) hb)
     have n2_ := ak (Kd.R_below (ur <| HO768.out) hb)
     have n3_ := ak (Kd.R_below (ur <| HO771.out) hb)
     have n4_ := ak (blk_below (g := gb661) (o := .cells #[.slice (some ad673) l0_0.length c0_0, .slice A0_1 l0_1.length c0_1] 25 (0, 0)) (ub BK661.out) hb)
     have n5_ := ak (blk_below (g := gb674) (o := .cells #[.string ((rd_T27 l0_0 x4_2).f0), .int .i64 ((rd_T27 l0_0 x4_2).f1)] 27 (0, 0)) (ub BK674.out) hb)
     have n6_ := ak (blk_below (g := gb754) (o := .cells #[.string t751, .int .i64 t752] 27 (0, 0)) (ub BK754.out) hb)
     have n7_ := ak (blk_below (g := gb755) (o := .cells #[.string (⟨#[]⟩ : ByteArray), .int .i64 0] 27 (0, 0)) (ub BK755.out) hb)
     have n8_ := ak (below_step (by repeat with_reducible first | exact HB.out | apply b1 | apply b2 | apply b3 | refine b4 ?_ GE661.out | refine b4 ?_ GE674.out | refine b4 ?_ GE754.out | refine b4 ?_ GE755.out) hb)
     clear HO_3
     clear HO_7
     clear HO768
     clear HO771
     clear BK661
     clear BK674
     clear BK754
     clear BK755
     clear HB
     have HO_3 := n0_
     have HO_7 := n1_
     have HO768 := n2_
     have HO771 := n3_
     have BK661 := n4_
     have BK674 := n5_
     have BK754 := n6_
     have BK755 := n7_
     have HB := n8_
     clear n0_ n1_ n2_ n3_ n4_ n5_ n6_ n7_ n8_
     (try clear hb)
     (try clear hb2)
     (try clear hk)
     (try clear hi)
     refine hK.out _ _ ⟨(blk_cell BK661.out 0).trans rfl, (blk_cell BK661.out 1).trans rfl, ((HB.out.cell (World.block_lt_of_cell? w _ hw765_0)).trans hw765_0), ((HB.out.cell (World.block_lt_of_cell? w _ hw765_1)).trans hw765_1)⟩ (fun hHeld => ?_)
     clear hK K
     refine norm_ (a' := ?_) ?_ ?_
     rotate_left
     · show Act.put _ (some 367) _ = _
       simp only [Act.put, s1, s2, s3, i64_w, i32_w]
       rfl
     refine pure_ (i := 11) (N := some 30) (v := ?_) (a' := ?_) #[true, true, true, true, true, true, true, true, true, true, true, true, false] rfl rfl (any_of HT_.out (by kernel_rfl)) (fun _ _ _ h => h) (Or.inl ⟨by rfl, ?_⟩) ?_ ?_
     rotate_left
     · intro w'
       go_simp
       with_reducible rfl
     rotate_left
     · simp only [Act.put, s1, s2, s3, i64_w, i32_w]
       rfl
     refine one_ (i := 12) (N := none) #[true, true, true, true, true, true, true, true, true, true, true, true, true] rfl rfl (one_of HT_.out (by kernel_rfl)) (by decide) (fun K hK => ?_)
     have hs270 : w269.cell? ⟨gb755, 0, none⟩ = some (.string (⟨#[]⟩ : ByteArray)) := (blk_cell BK755.out 0).trans rfl
     have hfs270 := blk_frozen BK755.out 0
     have hns270_0 := NB661_755.out
     have hns270_1 := NB674_755.out
     have hns270_2 := NB754_755.out
     have hms270_0 := NB755_661.out
     have hms270_1 := NB755_674.out
     have hms270_2 := NB755_754.out
     have hs271 : w269.cell? ⟨gb755, 1, none⟩ = some (.int .i64 0) := (blk_cell BK755.out 1).trans rfl
     have hfs271 := blk_frozen BK755.out 1
     have hns271_0 := NB661_755.out
     have hns271_1 := NB674_755.out
     have hns271_2 := NB754_755.out
     have hms271_0 := NB755_661.out
     have hms271_1 := NB755_674.out
     have hms271_2 := NB755_754.out
     refine skip_ (w1 := ?_) (by rfl) rfl ?_ ?_
     rotate_left
     · go_simp
       rfl
     refine hK.out _ _ ⟨((cell_far (p := ⟨gb755, _, none⟩) NB661_755.out _).trans (((cell_far (p := ⟨gb755, _, none⟩) NB661_755.out _).trans (hHeld.1)))), ((cell_far (p := ⟨gb755, _, none⟩) NB661_755.out _).trans (((cell_far (p := ⟨gb755, _, none⟩) NB661_755.out _).trans (hHeld.2.1)))), ((cell_far (p := ⟨gb755, _, none⟩) (by first | exact Nat.ne_of_lt (Nat.lt_of_lt_of_le (by have := World.block_lt_of_cell? _ _ hw765_0; first | rwa [add_block] at this | exact this) GW755.out) | (rw [add_block]; exact Nat.ne_of_lt (Nat.lt_of_lt_of_le (by have := World.block_lt_of_cell? _ _ hw765_0; first | rwa [add_block] at this | exact this) GW755.out)) | (show (Addr.add _ _).block ≠ _; rw [add_block]; exact Nat.ne_of_lt (Nat.lt_of_lt_of_le (by have := World.block_lt_of_cell? _ _ hw765_0; first | rwa [add_block] at this | exact this) GW755.out)) | (dsimp only; exact Nat.ne_of_lt (Nat.lt_of_lt_of_le (by have := World.block_lt_of_cell? _ _ hw765_0; first | rwa [add_block] at this | exact this) GW755.out))) _).trans (((cell_far (p := ⟨gb755, _, none⟩) (by first | exact Nat.ne_of_lt (Nat.lt_of_lt_of_le (by have := World.block_lt_of_cell? _ _ hw765_0; first | rwa [add_block] at this | exact this) GW755.out) | (rw [add_block]; exact Nat.ne_of_lt (Nat.lt_of_lt_of_le (by have := World.block_lt_of_cell? _ _ hw765_0; first | rwa [add_block] at this | exact this) GW755.out)) | (show (Addr.add _ _).block ≠ _; rw [add_block]; exact Nat.ne_of_lt (Nat.lt_of_lt_of_le (by have := World.block_lt_of_cell? _ _ hw765_0; first | rwa [add_block] at this | exact this) GW755.out)) | (dsimp only; exact Nat.ne_of_lt (Nat.lt_of_lt_of_le (by have := World.block_lt_of_cell? _ _ hw765_0; first | rwa [add_block] at this | exact this) GW755.out))) _).trans (hHeld.2.2.1)))), ((cell_far (p := ⟨gb755, _, none⟩) (by first | exact Nat.ne_of_lt (Nat.lt_of_lt_of_le (by have := World.block_lt_of_cell? _ _ hw765_1; first | rwa [add_block] at this | exact this) GW755.out) | (rw [add_block]; exact Nat.ne_of_lt (Nat.lt_of_lt_of_le (by have := World.block_lt_of_cell? _ _ hw765_1; first | rwa [add_block] at this | exact this) GW755.out)) | (show (Addr.add _ _).block ≠ _; rw [add_block]; exact Nat.ne_of_lt (Nat.lt_of_lt_of_le (by have := World.block_lt_of_cell? _ _ hw765_1; first | rwa [add_block] at this | exact this) GW755.out)) | (dsimp only; exact Nat.ne_of_lt (Nat.lt_of_lt_of_le (by have := World.block_lt_of_cell? _ _ hw765_1; first | rwa [add_block] at this | exact this) GW755.out))) _).trans (((cell_far (p := ⟨gb755, _, none⟩) (by first | exact Nat.ne_of_lt (Nat.lt_of_lt_of_le (by have := World.block_lt_of_cell? _ _ hw765_1; first | rwa [add_block] at this | exact this) GW755.out) | (rw [add_block]; exact Nat.ne_of_lt (Nat.lt_of_lt_of_le (by have := World.block_lt_of_cell? _ _ hw765_1; first | rwa [add_block] at this | exact this) GW755.out)) | (show (Addr.add _ _).block ≠ _; rw [add_block]; exact Nat.ne_of_lt (Nat.lt_of_lt_of_le (by have := World.block_lt_of_cell? _ _ hw765_1; first | rwa [add_block] at this | exact this) GW755.out)) | (dsimp only; exact Nat.ne_of_lt (Nat.lt_of_lt_of_le (by have := World.block_lt_of_cell? _ _ hw765_1; first | rwa [add_block] at this | exact this) GW755.out))) _).trans (hHeld.2.2.2))))⟩ (fun hHeld => ?_)
     clear hK K
     refine done_ (done_of HT_.out (by kernel_rfl)) ?_
     try go_wp2_with (first | ((with_reducible refine gate_callee (f := 26) rfl ?_); refine goesL_ (some 369) rfl rfl Try.func26 (by kernel_rfl) rfl #[.int .i64 t753] rfl (by (try simp only [List.map_toArray, List.map_cons, List.map_nil]); first | done | rfl | (simp only [List.length_drop, List.length_take]; rfl)) ?_; (with_reducible refine (herbariumlaw1_num.calls t753 t774 _ A256.out).mono ?_); rintro e w' ⟨rfl, ⟨nd, rfl⟩⟩; refine ⟨_, rfl, ?_⟩; have hnb272 := NB754_661.out; have hnc272 := NB661_754.out; have hnb273 := NB754_674.out; have hnc273 := NB674_754.out; have hnb274 := NB754_755.out; have hnc274 := NB755_754.out; have hcz275_0 : w269.cell? ⟨gb754, 0, none⟩ = some (.string t751) := (blk_cell BK754.out 0).trans rfl; have hcz275_1 : w269.cell? ⟨gb754, 1, none⟩ = some (.int .i64 t752) := (blk_cell BK754.out 1).trans rfl; have hfz275_0 := blk_frozen BK754.out 0; have hfz275_1 := blk_frozen BK754.out 1; have hnb276 := NB755_661.out; have hnc276 := NB661_755.out; have hnb277 := NB755_674.out; have hnc277 := NB674_755.out; have hcz278_0 : w269.cell? ⟨gb755, 0, none⟩ = some (.string (⟨#[]⟩ : ByteArray)) := (blk_cell BK755.out 0).trans rfl; have hcz278_1 : w269.cell? ⟨gb755, 1, none⟩ = some (.int .i64 0) := (blk_cell BK755.out 1).trans rfl; have hfz278_0 := blk_frozen BK755.out 0; have hfz278_1 := blk_frozen BK755.out 1))
     go_roundg kj228
     case measure => have := HJ7.out; have := HK2.out; have := HJ19.out; have := HJ30.out; have := HK5.out; have := HK6.out; have := HJ218.out; have := HJ228.out; omega
     case rel => exact ⟨(wrap64 (x27_6 + 1)), (by first | rfl | (simp; done) | (simp [*]; done)), H', ⟨by have := HJ7.out; have := HK2.out; have := HJ19.out; have := HJ30.out; have := HK5.out; have := HK6.out; have := HJ218.out; have := HJ228.out; omega⟩, ⟨ur <| Kd.R_mono (Kd.R_far (p := ⟨gb755, 1, none⟩) (Kd.R_far (p := ⟨gb755, 0, none⟩) (Kd.R_types HO_3.out BK755.out (by decide)) (fun _ hk => hk.2) (.string t772)) (fun _ hk => hk.2) (.int .i64 t773)) (fun _ hk => trivial)⟩, ⟨ur <| Kd.R_mono (Kd.R_far (p := ⟨gb755, 1, none⟩) (Kd.R_far (p := ⟨gb755, 0, none⟩) (Kd.R_types HO_7.out BK755.out (by decide)) (fun _ hk => hk.2) (.string t772)) (fun _ hk => hk.2) (.int .i64 t773)) (fun _ hk => trivial)⟩, ⟨by (with_reducible repeat (first | refine blk_drewN ?_ _ | refine blk_drew ?_ | refine blk_alloc ?_ _)); refine blk_far ?_ NB661_755.out _; (with_reducible repeat (first | refine blk_drewN ?_ _ | refine blk_drew ?_ | refine blk_alloc ?_ _)); refine blk_far ?_ NB661_755.out _; (with_reducible repeat (first | refine blk_drewN ?_ _ | refine blk_drew ?_ | refine blk_alloc ?_ _)); exact BK661.out⟩, ⟨by (with_reducible repeat (first | refine blk_drewN ?_ _ | refine blk_drew ?_ | refine blk_alloc ?_ _)); refine blk_far ?_ NB674_755.out _; (with_reducible repeat (first | refine blk_drewN ?_ _ | refine blk_drew ?_ | refine blk_alloc ?_ _)); refine blk_far ?_ NB674_755.out _; (with_reducible repeat (first | refine blk_drewN ?_ _ | refine blk_drew ?_ | refine blk_alloc ?_ _)); exact BK674.out⟩, ⟨by repeat with_reducible first | exact HB.out | apply b1 | apply b2 | apply b3 | refine b4 ?_ GE661.out | refine b4 ?_ GE674.out | refine b4 ?_ GE754.out | refine b4 ?_ GE755.out⟩⟩
   rw [if_pos c44] at H
   have c44b0 : decide (x8_5 < (x3_7.length : Int)) = true := decide_eq_true c44
   clear c44
   by_cases c45 : 0 ≤ x8_5
   rotate_left
   · rw [if_neg c45] at H
     exact absurd H (by simp)
   rw [if_pos c45] at H
   have c45b0 : decide (0 ≤ x8_5) = true := decide_eq_true c45
   clear c45
   replace H := Option.bind_eq_some_iff.mp H
   obtain ⟨⟨t682, t683⟩, A460, H⟩ := H
   try dsimp only at H
   have A46 := ak A460
   clear A460
   have HC47 := ak H
   clear H
   obtain ⟨Ao48, co48, eo48⟩ := Kd.R_slice HO_3.out
   subst eo48
   try go_wp2
   have n0_ := ak (Kd.R_drew HO_3.out)
   have n1_ := ak (Kd.R_drew HO_7.out)
   have n2_ := ak (blk_drew BK661.out)
   have n3_ := ak (blk_drew BK674.out)
   have n4_ := ak (below_drew1 HB.out)
   clear HO_3
   clear HO_7
   clear BK661
   clear BK674
   clear HB
   have HO_3 := n0_
   have HO_7 := n1_
   have BK661 := n2_
   have BK674 := n3_
   have HB := n4_
   clear n0_ n1_ n2_ n3_ n4_
   have p681 : 0 ≤ (x8_5 : Int) := of_decide_eq_true (by first | (with_reducible assumption) | assumption)
   have q681 : x8_5 < (x3_7.length : Int) := of_decide_eq_true (by first | (with_reducible assumption) | assumption)
   obtain ⟨ad681, e681, hx681_0⟩ := Kd.at_int (Kd.R_reads' HO_3.out).2.2 x8_5 p681 q681
   cases e681
   replace p681 := eq_true p681
   replace q681 := eq_true q681
   refine start_ (n := 11) (S := fun w' => w'.cell? ⟨gb674, 0, none⟩ = some (.string ((rd_T27 l0_0 x4_2).f0)) ∧ w'.cell? ⟨gb674, 1, none⟩ = some (.int .i64 ((rd_T27 l0_0 x4_2).f1)) ∧ w'.cell? (ad681.add (x8_5).toNat) = some (.int .i64 (rd x3_7 x8_5))) (ds := []) #[false, false, false, false, false, false, false, false, false, false, false] (by kernel_rfl) rfl rfl ⟨(blk_cell BK674.out 0).trans rfl, (blk_cell BK674.out 1).trans rfl, hx681_0⟩ (fun hHeld => ?_); refine with_tabW herbariumlaw1_BitsExact.tab19 herbariumlaw1_BitsExact.bits19 (fun HT_ HW_ => ?_)
   generalize wr.drew = w49 at HO_3 HO_7 BK661 BK674 HB hx681_0 hHeld ⊢
   refine pure_ (i := 1) (N := some 78) (v := ?_) (a' := ?_) #[false, true, false, false, false, false, false, false, false, false, false] rfl rfl (any_of HT_.out (by kernel_rfl)) (fun _ _ _ h => h) (Or.inl ⟨by rfl, ?_⟩) ?_ ?_
   rotate_left
   · intro w'
     go_simp
     with_reducible rfl
   rotate_left
   · simp only [Act.put, s1, s2, s3, i64_w, i32_w]
     rfl
   refine pure_ (i := 2) (N := some 79) (v := ?_) (a' := ?_) #[false, true, true, false, false, false, false, false, false, false, false] rfl rfl (any_of HT_.out (by kernel_rfl)) (fun _ _ _ h => h) (Or.inl ⟨by rfl, ?_⟩) ?_ ?_
   rotate_left
   · intro w'
     go_simp
     with_reducible rfl
   rotate_left
   · simp only [Act.put, s1, s2, s3, i64_w, i32_w]
     rfl
   refine pure_ (i := 3) (N := some 80) (v := ?_) (a' := ?_) #[false, true, true, true, false, false, false, false, false, false, false] rfl rfl (any_of HT_.out (by kernel_rfl)) (fun _ _ _ h => h) (Or.inl ⟨by rfl, ?_⟩) ?_ ?_
   rotate_left
   · intro w'
     go_simp
     with_reducible rfl
   rotate_left
   · simp only [Act.put, s1, s2, s3, i64_w, i32_w]
     rfl
   refine take_ (i := 0) (N := some 77) (v := ?_) (a' := ?_) #[true, true, true, true, false, false, false, false, false, false, false] rfl rfl (take_ofW HT_.out HW_.out (by kernel_rfl)) (fun _ _ _ h => h) (Or.inl ⟨by rfl, ?_⟩) hHeld ?_ ?_
   rotate_left
   · rintro w' ⟨s0, s1, s2⟩
     go_simp
     with_reducible rfl
   rotate_left
   · simp only [Act.put, s1, s2, s3, i64_w, i32_w]
     rfl
   refine take_ (i := 4) (N := some 81) (v := ?_) (a' := ?_) #[true, true, true, true, true, false, false, false, false, false, false] rfl rfl (take_ofW HT_.out HW_.out (by kernel_rfl)) (fun _ _ _ h => h) (Or.inl ⟨by rfl, ?_⟩) hHeld ?_ ?_
   rotate_left
   · rintro w' ⟨s0, s1, s2⟩
     go_simp
     with_reducible rfl
   rotate_left
   · simp only [Act.put, s1, s2, s3, i64_w, i32_w]
     rfl
   refine one_ (i := 5) (N := some 82) #[true, true, true, true, true, true, false, false, false, false, false] rfl rfl (one_of HT_.out (by kernel_rfl)) (by decide) (fun K hK => ?_)
   refine goes_ Try.func35 (by kernel_rfl) rfl #[.agg #[.string ((rd_T27 l0_0 x4_2).f0), .int .i64 ((rd_T27 l0_0 x4_2).f1)], .int .i64 (rd x3_7 x8_5)] (by rfl) rfl rfl (by (try simp only [List.map_toArray, List.map_cons, List.map_nil]); first | done | rfl | (simp only [List.length_drop, List.length_take]; rfl)) ?_
   with_reducible refine (bits_Zeros.calls k5 ((rd_T27 l0_0 x4_2).f0) ((rd_T27 l0_0 x4_2).f1) (rd x3_7 x8_5) t682 t683 _ A46.out).mono ?_
   rintro e w50 ⟨rfl, hb⟩
   have HS2_ := (hb.cell (World.block_lt_of_cell? _ _ (hHeld.2.2))).trans (hHeld.2.2)
   refine ⟨_, rfl, ?_⟩
   have n0_ := ak (Kd.R_below (ur <| HO_3.out) hb)
   have n1_ := ak (Kd.R_below (ur <| HO_7.out) hb)
   have n2_ := ak (blk_below (g := gb661) (o := .cells #[.slice (some ad673) l0_0.length c0_0, .slice A0_1 l0_1.length c0_1] 25 (0, 0)) (ub BK661.out) hb)
   have n3_ := ak (blk_below (g := gb674) (o := .cells #[.string ((rd_T27 l0_0 x4_2).f0), .int .i64 ((rd_T27 l0_0 x4_2).f1)] 27 (0, 0)) (ub BK674.out) hb)
   have n4_ := ak (below_step (by repeat with_reducible first | exact HB.out | apply b1 | apply b2 | apply b3 | refine b4 ?_ GE661.out | refine b4 ?_ GE674.out) hb)
   clear HO_3
   clear HO_7
   clear BK661
   clear BK674
   clear HB
   have HO_3 := n0_
   have HO_7 := n1_
   have BK661 := n2_
   have BK674 := n3_
   have HB := n4_
   clear n0_ n1_ n2_ n3_ n4_
   (try clear hb)
   (try clear hb2)
   (try clear hk)
   (try clear hi)
   refine hK.out _ _ ⟨(blk_cell BK674.out 0).trans rfl, (blk_cell BK674.out 1).trans rfl, HS2_⟩ (fun hHeld => ?_)
   clear hK K
   refine norm_ (a' := ?_) ?_ ?_
   rotate_left
   · show Act.put _ (some 82) _ = _
     simp only [Act.put, s1, s2, s3, i64_w, i32_w]
     rfl
   refine pure_ (i := 6) (N := some 76) (v := ?_) (a' := ?_) #[true, true, true, true, true, true, true, false, false, false, false] rfl rfl (any_of HT_.out (by kernel_rfl)) (fun _ _ _ h => h) (Or.inl ⟨by rfl, ?_⟩) ?_ ?_
   rotate_left
   · intro w'
     go_simp
     with_reducible rfl
   rotate_left
   · simp only [Act.put, s1, s2, s3, i64_w, i32_w]
     rfl
   refine pure_ (i := 7) (N := some 83) (v := ?_) (a' := ?_) #[true, true, true, true, true, true, true, true, false, false, false] rfl rfl (any_of HT_.out (by kernel_rfl)) (fun _ _ _ h => h) (Or.inl ⟨by rfl, ?_⟩) ?_ ?_
   rotate_left
   · intro w'
     go_simp
     with_reducible rfl
   rotate_left
   · simp only [Act.put, s1, s2, s3, i64_w, i32_w]
     rfl
   refine pure_ (i := 8) (N := some 84) (v := ?_) (a' := ?_) #[true, true, true, true, true, true, true, true, true, false, false] rfl rfl (any_of HT_.out (by kernel_rfl)) (fun _ _ _ h => h) (Or.inl ⟨by rfl, ?_⟩) ?_ ?_
   rotate_left
   · intro w'
     go_simp
     with_reducible rfl
   rotate_left
   · simp only [Act.put, s1, s2, s3, i64_w, i32_w]
     rfl
   refine pure_ (i := 9) (N := some 9) (v := ?_) (a' := ?_) #[true, true, true, true, true, true, true, true, true, true, false] rfl rfl (any_of HT_.out (by kernel_rfl)) (fun _ _ _ h => h) (Or.inl ⟨by rfl, ?_⟩) ?_ ?_
   rotate_left
   · intro w'
     go_simp
     with_reducible rfl
   rotate_left
   · simp only [Act.put, s1, s2, s3, i64_w, i32_w]
     rfl
   refine pure_ (i := 10) (N := some 10) (v := ?_) (a' := ?_) #[true, true, true, true, true, true, true, true, true, true, true] rfl rfl (any_of HT_.out (by kernel_rfl)) (fun _ _ _ h => h) (Or.inl ⟨by rfl, ?_⟩) ?_ ?_
   rotate_left
   · intro w'
     go_simp
     with_reducible rfl
   rotate_left
   · simp only [Act.put, s1, s2, s3, i64_w, i32_w]
     rfl
   refine done_ (done_of HT_.out (by kernel_rfl)) ?_
   go_upto_region 21 with (fail)
   go_cut [94] from 9999 to 0 (fun v94 wc => ∃ (kq : Nat) (x94_46 : Bool), v94 = .bool x94_46 ∧ Aside0 (herbariumlaw1_BitsExact.j5 kq x3_7 x4_2 t675 x7_30 x8_5 t682 t683 1 0 x94_46 l0_0 l0_1 ((rd_T27 l0_0 x4_2).f0) ((rd_T27 l0_0 x4_2).f1) = some true) ∧ Aside0 (kq ≤ k5) ∧ Aside0 (Kd.R (Kd.int .i64) 3 wc w.heap.size (fun _ => True) (.slice (some ad681) x3_7.length co48) x3_7) ∧ Aside0 (Kd.R (Kd.int .u8) 5 wc w.heap.size (fun _ => True) u7 x7_30) ∧ Aside0 (wc.heap[gb661]? = some (.cells #[(.slice (some ad673) l0_0.length c0_0), (.slice A0_1 l0_1.length c0_1)] 25 (0, 0))) ∧ Aside0 (wc.heap[gb674]? = some (.cells #[.string ((rd_T27 l0_0 x4_2).f0), .int .i64 ((rd_T27 l0_0 x4_2).f1)] 27 (0, 0))) ∧ Aside0 (Below w.heap.size w wc))
   case first =>
     have H := HC47.out
     clear HC47
     by_cases c51 : t675 = true
     rotate_left
     · replace c51 := Bool.eq_false_iff.mpr c51
       subst c51
       have H1 : (herbariumlaw1_BitsExact.j5 k5 x3_7 x4_2 false x7_30 x8_5 t682 t683 1 0 false l0_0 l0_1 ((rd_T27 l0_0 x4_2).f0) ((rd_T27 l0_0 x4_2).f1)) = some true := by rw [if_neg (show ¬ (false = true) by decide)] at H; exact H
       clear H
       have H := H1
       clear H1
       have H' := ak H
       clear H
       try go_wp2
       have n0_ := ak (Kd.R_drew HO_3.out)
       have n1_ := ak (Kd.R_drew HO_7.out)
       have n2_ := ak (blk_drew BK661.out)
       have n3_ := ak (blk_drew BK674.out)
       have n4_ := ak (below_drew1 HB.out)
       clear HO_3
       clear HO_7
       clear BK661
       clear BK674
       clear HB
       have HO_3 := n0_
       have HO_7 := n1_
       have BK661 := n2_
       have BK674 := n3_
       have HB := n4_
       clear n0_ n1_ n2_ n3_ n4_
       refine start_ (n := 10) (S := fun w' => True) (ds := []) #[false, false, false, false, false, false, false, false, false, false] (by kernel_rfl) rfl rfl trivial (fun hHeld => ?_); refine with_tabW herbariumlaw1_BitsExact.tab21 herbariumlaw1_BitsExact.bits21 (fun HT_ HW_ => ?_)
       generalize w50.drew = w54 at HO_3 HO_7 BK661 BK674 HB hHeld ⊢
       refine pure_ (i := 0) (N := some 85) (v := ?_) (a' := ?_) #[true, false, false, false, false, false, false, false, false, false] rfl rfl (any_of HT_.out (by kernel_rfl)) (fun _ _ _ h => h) (Or.inl ⟨by rfl, ?_⟩) ?_ ?_
       rotate_left
       · intro w'
         go_simp
         with_reducible rfl
       rotate_left
       · simp only [Act.put, s1, s2, s3, i64_w, i32_w]
         rfl
       refine pure_ (i := 1) (N := some 86) (v := ?_) (a' := ?_) #[true, true, false, false, false, false, false, false, false, false] rfl rfl (any_of HT_.out (by kernel_rfl)) (fun _ _ _ h => h) (Or.inl ⟨by rfl, ?_⟩) ?_ ?_
       rotate_left
       · intro w'
         go_simp
         with_reducible rfl
       rotate_left
       · simp only [Act.put, s1, s2, s3, i64_w, i32_w]
         rfl
       refine pure_ (i := 2) (N := some 87) (v := undef) (a' := ?_) #[true, true, true, false, false, false, false, false, false, false] rfl rfl (any_of HT_.out (by kernel_rfl)) (fun _ _ _ h => h) (Or.inr ⟨by rfl, rfl⟩) ?_ ?_
       rotate_left
       · simp only [Act.put, s1, s2, s3, i64_w, i32_w]
         rfl
       refine pure_ (i := 3) (N := some 88) (v := undef) (a' := ?_) #[true, true, true, true, false, false, false, false, false, false] rfl rfl (any_of HT_.out (by kernel_rfl)) (fun _ _ _ h => h) (Or.inr ⟨by rfl, rfl⟩) ?_ ?_
       rotate_left
       · simp only [Act.put, s1, s2, s3, i64_w, i32_w]
         rfl
       refine pure_ (i := 4) (N := some 89) (v := undef) (a' := ?_) #[true, true, true, true, true, false, false, false, false, false] rfl rfl (any_of HT_.out (by kernel_rfl)) (fun _ _ _ h => h) (Or.inr ⟨by rfl, rfl⟩) ?_ ?_
       rotate_left
       · simp only [Act.put, s1, s2, s3, i64_w, i32_w]
         rfl
       refine pure_ (i := 5) (N := some 90) (v := undef) (a' := ?_) #[true, true, true, true, true, true, false, false, false, false] rfl rfl (any_of HT_.out (by kernel_rfl)) (fun _ _ _ h => h) (Or.inr ⟨by rfl, rfl⟩) ?_ ?_
       rotate_left
       · simp only [Act.put, s1, s2, s3, i64_w, i32_w]
         rfl
       refine pure_ (i := 6) (N := some 91) (v := undef) (a' := ?_) #[true, true, true, true, true, true, true, false, false, false] rfl rfl (any_of HT_.out (by kernel_rfl)) (fun _ _ _ h => h) (Or.inr ⟨by rfl, rfl⟩) ?_ ?_
       rotate_left
       · simp only [Act.put, s1, s2, s3, i64_w, i32_w]
         rfl
       refine pure_ (i := 7) (N := some 92) (v := undef) (a' := ?_) #[true, true, true, true, true, true, true, true, false, false] rfl rfl (any_of HT_.out (by kernel_rfl)) (fun _ _ _ h => h) (Or.inr ⟨by rfl, rfl⟩) ?_ ?_
       rotate_left
       · simp only [Act.put, s1, s2, s3, i64_w, i32_w]
         rfl
       refine pure_ (i := 8) (N := some 93) (v := undef) (a' := ?_) #[true, true, true, true, true, true, true, true, true, false] rfl rfl (any_of HT_.out (by kernel_rfl)) (fun _ _ _ h => h) (Or.inr ⟨by rfl, rfl⟩) ?_ ?_
       rotate_left
       · simp only [Act.put, s1, s2, s3, i64_w, i32_w]
         rfl
       refine pure_ (i := 9) (N := some 94) (v := ?_) (a' := ?_) #[true, true, true, true, true, true, true, true, true, true] rfl rfl (any_of HT_.out (by kernel_rfl)) (fun _ _ _ h => h) (Or.inl ⟨by rfl, ?_⟩) ?_ ?_
       rotate_left
       · intro w'
         go_simp
         with_reducible rfl
       rotate_left
       · simp only [Act.put, s1, s2, s3, i64_w, i32_w]
         rfl
       refine done_ (done_of HT_.out (by kernel_rfl)) ?_
       try go_wp2
       go_meet
       case rel => exact ⟨_, (false), (by first | rfl | (simp; done) | (simp [*]; done)), H', ⟨by have := HJ7.out; have := HK2.out; have := HJ19.out; have := HJ30.out; have := HK5.out; first | omega | exact Nat.le_refl _⟩, ⟨ur <| HO_3.out⟩, ⟨ur <| HO_7.out⟩, ⟨ub BK661.out⟩, ⟨ub BK674.out⟩, ⟨by repeat with_reducible first | exact HB.out | apply b1 | apply b2 | apply b3 | refine b4 ?_ GE661.out | refine b4 ?_ GE674.out⟩⟩
     subst c51
     have H1 : ((herbariumref0_Num.f (rd x3_7 x8_5) ((rd_T27 l0_0 x4_2).f1)).bind fun t685 => (herbariumlaw1_BitsExact.j5 k5 x3_7 x4_2 true x7_30 x8_5 t682 t683 1 0 t685 l0_0 l0_1 ((rd_T27 l0_0 x4_2).f0) ((rd_T27 l0_0 x4_2).f1))) = some true := by rw [if_pos rfl] at H; exact H
     clear H
     have H := H1
     clear H1
     replace H := Option.bind_eq_some_iff.mp H
     obtain ⟨t685, A520, H⟩ := H
     try dsimp only at H
     have A52 := ak A520
     clear A520
     have H' := ak H
     clear H
     try go_wp2
     have n0_ := ak (Kd.R_drew HO_3.out)
     have n1_ := ak (Kd.R_drew HO_7.out)
     have n2_ := ak (blk_drew BK661.out)
     have n3_ := ak (blk_drew BK674.out)
     have n4_ := ak (below_drew1 HB.out)
     clear HO_3
     clear HO_7
     clear BK661
     clear BK674
     clear HB
     have HO_3 := n0_
     have HO_7 := n1_
     have BK661 := n2_
     have BK674 := n3_
     have HB := n4_
     clear n0_ n1_ n2_ n3_ n4_
     have p684 : 0 ≤ (x8_5 : Int) := of_decide_eq_true (by first | (with_reducible assumption) | assumption)
     have q684 : x8_5 < (x3_7.length : Int) := of_decide_eq_true (by first | (with_reducible assumption) | assumption)
     obtain ⟨ad684, e684, hx684_0⟩ := Kd.at_int (Kd.R_reads' HO_3.out).2.2 x8_5 p684 q684
     obtain rfl : ad681 = ad684 := (by injection e684)
     replace p684 := eq_true p684
     replace q684 := eq_true q684
     refine start_ (n := 10) (S := fun w' => w'.cell? ⟨gb674, 0, none⟩ = some (.string ((rd_T27 l0_0 x4_2).f0)) ∧ w'.cell? ⟨gb674, 1, none⟩ = some (.int .i64 ((rd_T27 l0_0 x4_2).f1)) ∧ w'.cell? (ad681.add (x8_5).toNat) = some (.int .i64 (rd x3_7 x8_5))) (ds := []) #[false, false, false, false, false, false, false, false, false, false] (by kernel_rfl) rfl rfl ⟨(blk_cell BK674.out 0).trans rfl, (blk_cell BK674.out 1).trans rfl, hx684_0⟩ (fun hHeld => ?_); refine with_tabW herbariumlaw1_BitsExact.tab21 herbariumlaw1_BitsExact.bits21 (fun HT_ HW_ => ?_)
     generalize w50.drew = w53 at HO_3 HO_7 BK661 BK674 HB hx684_0 hHeld ⊢
     refine pure_ (i := 0) (N := some 85) (v := ?_) (a' := ?_) #[true, false, false, false, false, false, false, false, false, false] rfl rfl (any_of HT_.out (by kernel_rfl)) (fun _ _ _ h => h) (Or.inl ⟨by rfl, ?_⟩) ?_ ?_
     rotate_left
     · intro w'
       go_simp
       with_reducible rfl
     rotate_left
     · simp only [Act.put, s1, s2, s3, i64_w, i32_w]
       rfl
     refine pure_ (i := 1) (N := some 86) (v := ?_) (a' := ?_) #[true, true, false, false, false, false, false, false, false, false] rfl rfl (any_of HT_.out (by kernel_rfl)) (fun _ _ _ h => h) (Or.inl ⟨by rfl, ?_⟩) ?_ ?_
     rotate_left
     · intro w'
       go_simp
       with_reducible rfl
     rotate_left
     · simp only [Act.put, s1, s2, s3, i64_w, i32_w]
       rfl
     refine pure_ (i := 2) (N := some 87) (v := ?_) (a' := ?_) #[true, true, true, false, false, false, false, false, false, false] rfl rfl (any_of HT_.out (by kernel_rfl)) (fun _ _ _ h => h) (Or.inl ⟨by rfl, ?_⟩) ?_ ?_
     rotate_left
     · intro w'
       go_simp
       with_reducible rfl
     rotate_left
     · simp only [Act.put, s1, s2, s3, i64_w, i32_w]
       rfl
     refine pure_ (i := 3) (N := some 88) (v := ?_) (a' := ?_) #[true, true, true, true, false, false, false, false, false, false] rfl rfl (any_of HT_.out (by kernel_rfl)) (fun _ _ _ h => h) (Or.inl ⟨by rfl, ?_⟩) ?_ ?_
     rotate_left
     · intro w'
       go_simp
       with_reducible rfl
     rotate_left
     · simp only [Act.put, s1, s2, s3, i64_w, i32_w]
       rfl
     refine pure_ (i := 4) (N := some 89) (v := ?_) (a' := ?_) #[true, true, true, true, true, false, false, false, false, false] rfl rfl (any_of HT_.out (by kernel_rfl)) (fun _ _ _ h => h) (Or.inl ⟨by rfl, ?_⟩) ?_ ?_
     rotate_left
     · intro w'
       go_simp
       with_reducible rfl
     rotate_left
     · simp only [Act.put, s1, s2, s3, i64_w, i32_w]
       rfl
     refine pure_ (i := 6) (N := some 91) (v := ?_) (a' := ?_) #[true, true, true, true, true, false, true, false, false, false] rfl rfl (any_of HT_.out (by kernel_rfl)) (fun _ _ _ h => h) (Or.inl ⟨by rfl, ?_⟩) ?_ ?_
     rotate_left
     · intro w'
       go_simp
       with_reducible rfl
     rotate_left
     · simp only [Act.put, s1, s2, s3, i64_w, i32_w]
       rfl
     refine take_ (i := 5) (N := some 90) (v := ?_) (a' := ?_) #[true, true, true, true, true, true, true, false, false, false] rfl rfl (take_ofW HT_.out HW_.out (by kernel_rfl)) (fun _ _ _ h => h) (Or.inl ⟨by rfl, ?_⟩) hHeld ?_ ?_
     rotate_left
     · rintro w' ⟨s0, s1, s2⟩
       go_simp
       with_reducible rfl
     rotate_left
     · simp only [Act.put, s1, s2, s3, i64_w, i32_w]
       rfl
     refine take_ (i := 7) (N := some 92) (v := ?_) (a' := ?_) #[true, true, true, true, true, true, true, true, false, false] rfl rfl (take_ofW HT_.out HW_.out (by kernel_rfl)) (fun _ _ _ h => h) (Or.inl ⟨by rfl, ?_⟩) hHeld ?_ ?_
     rotate_left
     · rintro w' ⟨s0, s1, s2⟩
       go_simp
       with_reducible rfl
     rotate_left
     · simp only [Act.put, s1, s2, s3, i64_w, i32_w]
       rfl
     refine one_ (i := 8) (N := some 93) #[true, true, true, true, true, true, true, true, true, false] rfl rfl (one_of HT_.out (by kernel_rfl)) (by decide) (fun K hK => ?_)
     refine goes_ Try.func53 (by kernel_rfl) rfl #[.int .i64 (rd x3_7 x8_5), .int .i64 ((rd_T27 l0_0 x4_2).f1)] (by rfl) rfl rfl (by (try simp only [List.map_toArray, List.map_cons, List.map_nil]); first | done | rfl | (simp only [List.length_drop, List.length_take]; rfl)) ?_
     with_reducible refine (herbariumref0_Num.calls (rd x3_7 x8_5) ((rd_T27 l0_0 x4_2).f1) t685 _ A52.out).mono ?_
     rintro e w' ⟨rfl, ⟨nd, rfl⟩⟩
     refine ⟨_, rfl, ?_⟩
     refine hK.out _ _ ⟨(blk_cell BK674.out 0).trans rfl, (blk_cell BK674.out 1).trans rfl, hHeld.2.2⟩ (fun hHeld => ?_)
     clear hK K
     refine norm_ (a' := ?_) ?_ ?_
     rotate_left
     · show Act.put _ (some 93) _ = _
       simp only [Act.put, s1, s2, s3, i64_w, i32_w]
       rfl
     refine pure_ (i := 9) (N := some 94) (v := ?_) (a' := ?_) #[true, true, true, true, true, true, true, true, true, true] rfl rfl (any_of HT_.out (by kernel_rfl)) (fun _ _ _ h => h) (Or.inl ⟨by rfl, ?_⟩) ?_ ?_
     rotate_left
     · intro w'
       go_simp
       with_reducible rfl
     rotate_left
     · simp only [Act.put, s1, s2, s3, i64_w, i32_w]
       rfl
     refine done_ (done_of HT_.out (by kernel_rfl)) ?_
     try go_wp2
     go_meet
     case rel => exact ⟨_, (t685), (by first | rfl | (simp; done) | (simp [*]; done)), H', ⟨by have := HJ7.out; have := HK2.out; have := HJ19.out; have := HJ30.out; have := HK5.out; first | omega | exact Nat.le_refl _⟩, ⟨ur <| HO_3.out⟩, ⟨ur <| HO_7.out⟩, ⟨ub BK661.out⟩, ⟨ub BK674.out⟩, ⟨by repeat with_reducible first | exact HB.out | apply b1 | apply b2 | apply b3 | refine b4 ?_ GE661.out | refine b4 ?_ GE674.out⟩⟩
   clear HC47
   try clear c3
   try clear c7
   try clear c24
   try clear c25
   try clear c25b0
   try clear c26
   try clear c26b0
   try clear c30
   try clear c30b0
   try clear c30b1
   try clear c30b2
   try clear c44
   try clear c44b0
   try clear c45
   try clear c45b0
   try clear hcz10_0
   try clear hcz10_1
   try clear hcz14_0
   try clear hcz14_1
   try clear hcz32_0
   try clear hcz32_1
   try clear hcz35_0
   try clear hcz35_1
   try clear hcz37_0
   try clear hcz37_1
   try clear hfz10_0
   try clear hfz10_1
   try clear hfz14_0
   try clear hfz14_1
   try clear hfz32_0
   try clear hfz32_1
   try clear hfz35_0
   try clear hfz35_1
   try clear hfz37_0
   try clear hfz37_1
   try clear hx673_0
   try clear hx673_1
   try clear hx681_0
   try clear p673
   try clear p681
   try clear q673
   try clear q681
   try clear HA
   try clear HJ46
   try clear HO_3
   try clear HO_7
   try clear BK661
   try clear BK674
   try clear HB
   obtain ⟨kq, x94_46, rfl, HA, HJ46, HO_3, HO_7, BK661, BK674, HB⟩ := hcut
   rename_i z5_1 z5_2 z5_3 z5_4 z5_5 z5_6 z5_7 z5_8 z5_9 z5_10 z5_11 z5_12 z5_13 z5_14 z5_15 z5_16 z5_17
   revert k c0_0 l0_0 A0_1 c0_1 l0_1 w hu25 hu27 HC0_0 HR0_1 HC0_1 A2 y663 Ny663 LMc7 y666 Ny666 z1_1 gb661 w9 GW661 GE661 w11 z1_2 v664 w12 w15 Ao16 co16 HO668 z3_1 u40 u41 u42 x3_7 kj7 HJ7 z2_1 z2_2 z4_1 z4_2 u5 u6 z3_2 u8 z4_3 z4_4 z4_5 z4_6 z4_7 z4_8 z4_9 z4_10 z4_11 z4_12 z4_13 z4_14 z4_15 z4_16 z4_17 z4_18 z4_19 z4_20 u27 u28 u29 u30 u31 z3_3 z3_4 z3_5 z3_6 z3_7 z3_8 z3_9 z3_10 u51 u52 u53 u54 u55 u56 u57 u58 u59 u60 u61 u62 u63 u64 u65 u66 z3_11 z3_12 z3_13 z4_21 z4_22 z4_23 z4_24 z4_25 z4_26 z4_27 z4_28 z4_29 z4_30 z4_31 z4_32 z4_33 z4_34 z4_35 z4_36 z4_37 z4_38 z4_39 z4_40 z4_41 z4_42 z4_43 z4_44 z4_45 z4_46 z4_47 z4_48 z4_49 z4_50 z4_51 z4_52 z4_53 z4_54 z4_55 z4_56 z4_57 z4_58 z4_59 z4_60 z4_61 z4_62 z4_63 z4_64 z4_65 z4_66 z4_67 z4_68 z4_69 z4_70 z4_71 z4_72 z4_73 z4_74 z4_75 z4_76 z4_77 z4_78 z4_79 z4_80 z4_81 z4_82 z4_83 z4_84 z4_85 z4_86 z4_87 z4_88 z4_89 z4_90 z4_91 z4_92 z4_93 z4_94 z4_95 z4_96 z4_97 z4_98 z4_99 z4_100 z4_101 z4_102 z4_103 z4_104 z4_105 z4_106 z4_107 z4_108 z4_109 z4_110 z4_111 z4_112 z4_113 z4_114 z4_115 z4_116 z4_117 z4_118 z4_119 z4_120 z4_121 z4_122 z4_123 z4_124 z4_125 z4_126 z4_127 z4_128 z4_129 z4_130 z4_131 z4_132 z4_133 z4_134 z4_135 z4_136 z4_137 z4_138 z4_139 z4_140 z4_141 z4_142 z4_143 z4_144 z4_145 z4_146 z4_147 z4_148 z4_149 z4_150 z4_151 z4_152 z4_153 z4_154 z4_155 z4_156 z4_157 z4_158 z4_159 z4_160 z4_161 z4_162 z4_163 z4_164 z4_165 z4_166 z4_167 z4_168 z4_169 z4_170 z4_171 z4_172 z4_173 z4_174 z4_175 z4_176 z4_177 z4_178 z4_179 z4_180 z4_181 z4_182 z4_183 z4_184 z4_185 z4_186 z4_187 z4_188 z4_189 z4_190 z4_191 z4_192 z4_193 z4_194 z4_195 z4_196 z4_197 z4_198 z4_199 z4_200 z4_201 z4_202 z4_203 z4_204 z4_205 z4_206 z4_207 z4_208 z4_209 z4_210 z4_211 z4_212 z4_213 z4_214 z4_215 z4_216 z4_217 z4_218 z4_219 z4_220 z4_221 z4_222 z4_223 z4_224 z4_225 z4_226 z4_227 z4_228 z4_229 z4_230 z4_231 z4_232 z4_233 z4_234 z4_235 z4_236 z4_237 z4_238 z4_239 z4_240 z4_241 z4_242 z4_243 z4_244 z4_245 z4_246 z4_247 z4_248 z4_249 z4_250 z4_251 z4_252 z4_253 z4_254 z4_255 z4_256 z4_257 z4_258 z4_259 z4_260 z4_261 z4_262 z4_263 z4_264 z4_265 z4_266 u316 u317 u318 u319 u320 u321 u322 u323 u324 u325 u326 u327 u328 u329 u330 u331 u332 u333 u334 u335 u336 u337 u338 u339 u340 u341 u342 u343 u344 u345 u346 u347 u348 u349 u350 u351 u352 u353 u354 u355 u356 u357 u358 u359 u360 u361 u362 u363 u364 u365 u366 u367 u368 u369 u370 u371 u372 u373 u374 u375 u376 z2_3 z2_4 x4_2 k2 z2_6 HK2 z3_14 u43 u44 u45 u46 u47 u48 u49 u50 kj19 HJ19 t675 A27 t676 A28 t677 A29 ad673 HR0_0 z3_15 z3_16 gb674 w33 GW674 GE674 NB661_674 NB674_661 hnb34 hnc34 w36 w38 nd z5_1 u7 u67 u68 u69 x7_30 kj30 HJ30 z4_267 z4_268 wr u2 u9 u10 u11 u12 u13 u14 u15 u16 u17 u18 u19 u20 u21 u22 u23 u24 u25 u26 u70 u71 u72 u73 u74 u75 u76 u77 u78 u79 u80 u81 u82 u83 u84 z5_2 z5_3 z5_4 z5_5 z5_6 z5_7 z5_8 z5_9 z5_10 u94 u95 u96 u97 u98 u99 u100 u101 u102 u103 u104 u105 u106 u107 u108 u109 u110 u111 u112 u113 u114 u115 u116 u117 u118 u119 u120 u121 u122 u123 u124 u125 u126 u127 u128 u129 u130 u131 u132 u133 u134 u135 u136 u137 u138 u139 u140 u141 u142 u143 u144 u145 u146 u147 u148 u149 u150 u151 u152 u153 u154 u155 u156 u157 u158 u159 u160 u161 u162 u163 u164 u165 u166 u167 u168 u169 u170 u171 u172 u173 u174 u175 u176 u177 u178 u179 u180 u181 u182 u183 u184 u185 u186 u187 u188 u189 u190 u191 u192 u193 u194 u195 u196 u197 u198 u199 u200 u201 u202 u203 u204 u205 u206 u207 u208 u209 u210 u211 u212 u213 u214 u215 u216 u217 u218 u219 u220 u221 u222 u223 u224 u225 u226 u227 u228 u229 u230 u231 u232 u233 u234 u235 u236 u237 u238 u239 u240 u241 u242 u243 u244 u245 u246 u247 u248 u249 u250 u251 u252 u253 u254 u255 u256 u257 u258 u259 u260 u261 u262 u263 u264 u265 u266 u267 u268 u269 u270 u271 u272 u273 u274 u275 u276 u277 u278 u279 u280 u281 u282 u283 u284 u285 u286 u287 u288 u289 u290 u291 u292 u293 u294 u295 u296 u297 u298 u299 u300 u301 u302 u303 u304 u305 u306 u307 u308 u309 u310 u311 u312 u313 u314 u315 z4_269 z4_270 x8_5 k5 z4_272 HK5 t682 t683 A46 co48 z5_11 z5_12 ad681 z2_5 z4_271 HT_ HW_ w49 z5_13 w50 HS2_ hHeld z5_14 z5_15 z5_16 z5_17 wc u85 u86 u87 u88 u89 u90 u91 u92 u93 kq x94_46 HA HJ46 HO_3 HO_7 BK661 BK674 HB
   exact hP_.out
end Go.Proofs.Ytnpghcikhpglkaa.Q
